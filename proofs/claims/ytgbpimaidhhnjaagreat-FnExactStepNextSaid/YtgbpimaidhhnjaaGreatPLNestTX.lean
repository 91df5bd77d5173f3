/-
  Lists of byte lists: marked, held, cloned, the same.
-/
import Derived.Test.YtgbpimaidhhnjaaGreatPLBytesTX
import Derived.Test.YtgbpimaidhhnjaaGreatPMNest
namespace Go.Proofs.YtgbpimaidhhnjaaGreat.Nest
open Go Go.PI Go.PI.Sha Go.PI.Rel Go.PI.Nest Go.Proofs.YtgbpimaidhhnjaaGreat.Sha Go.Proofs.YtgbpimaidhhnjaaGreat.By EqX
set_option maxHeartbeats 1000000
set_option linter.unusedVariables false
set_option linter.unusedSimpArgs false
theorem l59 : ∀ (r d : List UInt8) (k : Int) (n i : Nat), n = d.length + r.length → i = d.length → 0 ≤ k → k + r.length < 4611686018427387904 → n < 1000000000 →
    loopWE C 59 [0] [Ob.row 5 0 [] false] 0 [true, false, true] [] [(0, V.ref 0), (1, V.int .i64 k), (5, V.int .i64 (i : Int))] [Ob.row 5 n (bytesV (d ++ r)) false] = some (.tup [.int .i64 (k + r.length), .osl n (bytesV (d ++ mkB k r.length))])
  | [], d, k, n, i, hn, hi, hk, hk2, hq => by
    refine E59l1 _ _ _ _ ?_
    unfold T59l1
    have : ¬ i < n := by simp at hn; omega
    simp [this, mkB]
  | b :: r, d, k, n, i, hn, hi, hk, hk2, hq => by
    simp only [List.length_cons] at hn hk2 ⊢
    have ih := l59 r (d ++ [b8 k]) (k + 1) n (i + 1) (by simp; omega) (by simp; omega) (by omega) (by omega) hq
    refine E59l1 _ _ _ _ ?_
    unfold T59l1
    have hlt : i < n := by omega
    have hw := w64_succ (n := i) (by omega)
    have hs : splice (bytesV (d ++ b :: r)) i [V.int .u8 ((b8 k).toNat : Int)] = bytesV (d ++ [b8 k] ++ r) := by
      subst hi; rw [splice_bytes (by simp)]; simp
    have hk' : IntKind.i64.wrap (k + 1) = k + 1 := w64 (by omega) (by omega)
    have hln : (d ++ b :: r).length = n := by simp; omega
    have e1 : k + 1 + (r.length : Int) = k + ((r.length + 1 : Nat) : Int) := by omega
    have e2 : d ++ [b8 k] ++ mkB (k + 1) r.length = d ++ mkB k (r.length + 1) := by simp [mkB]
    rw [e1, e2] at ih
    simp only [S0, hlt, wrap_b8, hs, hw, hk', ih, hln]
    simp only [show i + (0 + 1) ≤ n by omega, S0]
theorem c59 (l : List UInt8) (k : Int) (hk : 0 ≤ k) (hq : l.length < 1000000000) (hk2 : k < 4611686017427387904) :
    runWE C 59 [0] [.ref 0, .int .i64 k] [.row 5 l.length (bytesV l) false] = some (.tup [.int .i64 (k + l.length), .osl l.length (bytesV (mkB k l.length))]) := by
  refine E59 _ _ _ ?_
  unfold T59
  exact l59 l [] k l.length 0 (by simp) rfl hk (by omega) hq
theorem l130 : ∀ (m : Nat) (d : List UInt8) (k : Int) (n i : Nat), n = d.length + m → i = d.length → 0 ≤ k → k + m < 4611686018427387904 → n < 1000000000 →
    loopE C 130 0 [true, false, true] [] [(0, V.sl n (bytesV (d ++ mkB k m))), (1, V.int .i64 k), (5, V.int .i64 (i : Int))] [] = some (.tup [.int .i64 (k + m)])
  | 0, d, k, n, i, hn, hi, hk, hk2, hq => by
    refine E130l1 _ _ _ _ ?_
    unfold T130l1
    have : ¬ i < n := by omega
    simp [this]
  | m + 1, d, k, n, i, hn, hi, hk, hk2, hq => by
    have ih := l130 m (d ++ [b8 k]) (k + 1) n (i + 1) (by simp; omega) (by simp; omega) (by omega) (by omega) hq
    refine E130l1 _ _ _ _ ?_
    unfold T130l1
    have hlt : i < n := by omega
    have hw := w64_succ (n := i) (by omega)
    have e0 : d ++ mkB k (m + 1) = d ++ [b8 k] ++ mkB (k + 1) m := by simp [mkB]
    have hg : (bytesV (d ++ [b8 k] ++ mkB (k + 1) m))[i]? = some (V.int .u8 ((b8 k).toNat : Int)) := by
      subst hi; simp [bytesV]
    have hk' : IntKind.i64.wrap (k + 1) = k + 1 := w64 (by omega) (by omega)
    have e1 : k + 1 + (m : Int) = k + ((m + 1 : Nat) : Int) := by omega
    rw [e1] at ih
    rw [e0]
    simp only [S0, hlt, hg, wrap_b8, bne_f, hw, hk', ih]
theorem c130 (n : Nat) (k : Int) (hk : 0 ≤ k) (hq : n < 1000000000) (hk2 : k < 4611686017427387904) :
    runE C 130 [.sl n (bytesV (mkB k n)), .int .i64 k] = some (.tup [.int .i64 (k + n)]) := by
  refine E130 _ _ _ ?_
  unfold T130
  exact l130 n [] k n 0 (by simp) rfl hk (by omega) hq
theorem l103 : ∀ (r d : List (List UInt8)) (n i : Nat), n = d.length + r.length → i = d.length → n < 1000000000 → tot List.length r ≤ 1000000000 →
    loopE C 103 0 [true, true, false, true] [] [(3, V.ref 0), (7, V.sl n (psS (d ++ r))), (8, V.int .i64 (n : Int)), (9, V.int .i64 (i : Int))] [Ob.nrow [] 22 i (psO d)] = some (.tup [.osl n (psO (d ++ r))])
  | [], d, n, i, hn, hi, hq, ht => by
    refine E103l1 _ _ _ _ _ _ ?_
    unfold T103l1
    have e : i = n := by simp at hn; omega
    have : ¬ n < n := by omega
    subst e
    simp [this]
  | b :: r, d, n, i, hn, hi, hq, ht => by
    simp only [List.length_cons] at hn
    simp only [tot] at ht
    have ih := l103 r (d ++ [b]) n (i + 1) (by simp; omega) (by simp; omega) hq (by omega)
    refine E103l1 _ _ _ _ _ _ ?_
    unfold T103l1
    have hlt : i < n := by omega
    have hw := w64_succ (n := i) (by omega)
    have hg : (psS (d ++ b :: r))[i]? = some (bS b) := by subst hi; exact psS_at d b r
    have hl : (psS (d ++ b :: r)).length = n := by rw [psS_length]; simp; omega
    have d1 : i + 1 ≤ 140737488355328 := by omega
    have d2 : (i + 1) * 24 ≤ 140737488355328 := by omega
    simp only [List.append_assoc, List.singleton_append] at ih
    have e : psO d ++ [V.own false 5 1 b.length (bytesV b)] = psO (d ++ [b]) := psO_snoc d b
    simp only [S0, hlt, hg, hl, bS, c128 b (by omega), hw, d1, d2, e, ih]
theorem c103 (l : List (List UInt8)) (h : l.length < 1000000000) (ht : tot List.length l ≤ 1000000000) : runE C 103 [.sl l.length (psS l)] = some (.tup [.osl l.length (psO l)]) := by
  refine E103 _ _ ?_
  unfold T103
  exact l103 l [] l.length 0 (by simp) rfl h ht
theorem l85 : ∀ (r d : List (List UInt8)) (n i : Nat), n = d.length + r.length → i = d.length → n < 1000000000 → tot List.length r ≤ 1000000000 →
    loopE C 85 0 [true, true, false, true] [] [(0, V.sl n (psS (d ++ r))), (3, V.ref 0), (4, V.int .i64 (i : Int))] [Ob.row 22 i (psS d) false] = some (.tup [.osl n (psS (d ++ r))])
  | [], d, n, i, hn, hi, hq, ht => by
    refine E85l1 _ _ _ _ _ ?_
    unfold T85l1
    have e : i = n := by simp at hn; omega
    have : ¬ n < n := by omega
    subst e
    simp [this]
  | b :: r, d, n, i, hn, hi, hq, ht => by
    simp only [List.length_cons] at hn
    simp only [tot] at ht
    have ih := l85 r (d ++ [b]) n (i + 1) (by simp; omega) (by simp; omega) hq (by omega)
    refine E85l1 _ _ _ _ _ ?_
    unfold T85l1
    have hlt : i < n := by omega
    have hw := w64_succ (n := i) (by omega)
    have hg : (psS (d ++ b :: r))[i]? = some (bS b) := by subst hi; exact psS_at d b r
    have hl : (psS (d ++ b :: r)).length = n := by rw [psS_length]; simp; omega
    have d0 : b.length ≤ 140737488355328 := by omega
    have d1 : i + 1 ≤ 140737488355328 := by omega
    have d2 : (i + 1) * 24 ≤ 140737488355328 := by omega
    simp only [List.append_assoc, List.singleton_append] at ih
    have e : psS d ++ [V.sl b.length (bytesV b)] = psS (d ++ [b]) := by simp [psS, bS]
    simp only [S0, hlt, hg, hl, bS, hw, d0, d1, d2, e, ih]
theorem c85 (l : List (List UInt8)) (h : l.length < 1000000000) (ht : tot List.length l ≤ 1000000000) : runE C 85 [.sl l.length (psS l)] = some (.tup [.osl l.length (psS l)]) := by
  refine E85 _ _ ?_
  unfold T85
  exact l85 l [] l.length 0 (by simp) rfl h ht
theorem l54 : ∀ (r r' d d' : List (List UInt8)) (n i : Nat), n = d.length + r.length → r.length = r'.length → d'.length = d.length → i = d.length → n < 1000000000 → tot List.length r ≤ 1000000000 →
    loopE C 54 0 [true, true, false, true] [] [(0, V.sl n (psS (d ++ r))), (1, V.sl n (psS (d' ++ r'))), (5, V.int .i64 (i : Int))] [] = some (.tup [.bool (decide (r = r'))])
  | [], [], d, d', n, i, hn, hr, hd, hi, hq, ht => by
    refine E54l1 _ _ _ _ _ ?_
    unfold T54l1
    have : ¬ i < n := by simp at hn; omega
    simp [this]
  | [], _ :: _, d, d', n, i, hn, hr, hd, hi, hq, ht => by simp at hr
  | _ :: _, [], d, d', n, i, hn, hr, hd, hi, hq, ht => by simp at hr
  | b :: r, b' :: r', d, d', n, i, hn, hr, hd, hi, hq, ht => by
    simp only [List.length_cons] at hn hr
    simp only [tot] at ht
    have ih := l54 r r' (d ++ [b]) (d' ++ [b']) n (i + 1) (by simp; omega) (by omega) (by simp [hd]) (by simp; omega) hq (by omega)
    refine E54l1 _ _ _ _ _ ?_
    unfold T54l1
    have hlt : i < n := by omega
    have hw := w64_succ (n := i) (by omega)
    have hg : (psS (d ++ b :: r))[i]? = some (bS b) := by subst hi; exact psS_at d b r
    have hg' : (psS (d' ++ b' :: r'))[i]? = some (bS b') := by rw [hi, ← hd]; exact psS_at d' b' r'
    have hl : (psS (d ++ b :: r)).length = n := by rw [psS_length]; simp; omega
    have hl' : (psS (d' ++ b' :: r')).length = n := by rw [psS_length]; simp; omega
    simp only [List.append_assoc, List.singleton_append] at ih
    rw [dec_cons]
    simp only [S0, hlt, hg, hg', hl, hl', bS, c104 b b' (by omega), hw, ih]
    by_cases e : b = b' <;> simp [e]
theorem c54 (a b : List (List UInt8)) (h : a.length < 1000000000) (ht : tot List.length a ≤ 1000000000) : runE C 54 [.sl a.length (psS a), .sl b.length (psS b)] = some (.tup [.bool (decide (a = b))]) := by
  refine E54 _ _ _ _ ?_
  unfold T54
  by_cases e : a.length = b.length
  · have := l54 a b [] [] a.length 0 (by simp) e rfl rfl h ht
    simp only [List.nil_append] at this
    rw [← e]
    simpa using this
  · have h1 : a ≠ b := fun h => e (by rw [h])
    have h2 : ((a.length : Int) != (b.length : Int)) = true := by simp; omega
    simp [h1, h2]
theorem l58 : ∀ (r d : List (List UInt8)) (k : Int) (n i : Nat), n = d.length + r.length → i = d.length → 0 ≤ k → k + tot List.length r < 4611686017427387904 → n < 1000000000 → tot List.length r < 1000000000 →
    loopWE C 58 [0] [Ob.nrow [] 22 0 []] 0 [true, false, true] [] [(0, V.ref 0), (1, V.int .i64 k), (5, V.int .i64 (i : Int))] [Ob.nrow [] 22 n (psO (d ++ r))] = some (.tup [.int .i64 (k + tot List.length r), .osl n (psO (d ++ mkPs k r))])
  | [], d, k, n, i, hn, hi, hk, hk2, hq, ht => by
    refine E58l1 _ _ _ _ ?_
    unfold T58l1
    have : ¬ i < n := by simp at hn; omega
    simp [this, mkPs, tot]
  | b :: r, d, k, n, i, hn, hi, hk, hk2, hq, ht => by
    simp only [List.length_cons] at hn
    simp only [tot] at hk2 ht ⊢
    have ih := l58 r (d ++ [mkB k b.length]) (k + b.length) n (i + 1) (by simp; omega) (by simp; omega) (by omega) (by omega) hq (by omega)
    refine E58l1 _ _ _ _ ?_
    unfold T58l1
    have hlt : i < n := by omega
    have hw := w64_succ (n := i) (by omega)
    have hg : (psO (d ++ b :: r))[i]? = some (V.own false 5 1 b.length (bytesV b)) := by subst hi; exact psO_at d b r
    have hs : (psO (d ++ b :: r)).set i (V.own false 5 1 b.length (bytesV (mkB k b.length))) = psO (d ++ mkB k b.length :: r) := by
      subst hi
      have := psO_set d b (mkB k b.length) r
      simpa [bO] using this
    have e1 : k + (b.length : Int) + (tot List.length r : Int) = k + ((b.length + tot List.length r : Nat) : Int) := by omega
    simp only [List.append_assoc, List.singleton_append, e1] at ih
    simp only [S0, hlt, hg, asOwn_own, c59 b k hk (by omega) (by omega), hs, hw, mkPs, ih]
theorem c58 (l : List (List UInt8)) (k : Int) (hk : 0 ≤ k) (hk2 : k < 4611686016427387904) (h : l.length < 1000000000) (ht : tot List.length l < 1000000000) :
    runWE C 58 [0] [.ref 0, .int .i64 k] [.nrow [] 22 l.length (psO l)] = some (.tup [.int .i64 (k + tot List.length l), .osl l.length (psO (mkPs k l))]) := by
  refine E58 _ _ _ ?_
  unfold T58
  exact l58 l [] k l.length 0 (by simp) rfl hk (by omega) h ht
theorem l108 : ∀ (r d : List (List UInt8)) (k : Int) (n i : Nat), n = d.length + r.length → i = d.length → 0 ≤ k → k + tot List.length r < 4611686017427387904 → n < 1000000000 → tot List.length r < 1000000000 →
    loopE C 108 0 [true, false, true] [] [(0, V.sl n (psS (d ++ mkPs k r))), (1, V.int .i64 k), (5, V.int .i64 (i : Int))] [] = some (.tup [.int .i64 (k + tot List.length r)])
  | [], d, k, n, i, hn, hi, hk, hk2, hq, ht => by
    refine E108l1 _ _ _ _ ?_
    unfold T108l1
    have : ¬ i < n := by simp at hn; omega
    simp [this, mkPs, tot]
  | b :: r, d, k, n, i, hn, hi, hk, hk2, hq, ht => by
    simp only [List.length_cons] at hn
    simp only [tot] at hk2 ht ⊢
    have ih := l108 r (d ++ [mkB k b.length]) (k + b.length) n (i + 1) (by simp; omega) (by simp; omega) (by omega) (by omega) hq (by omega)
    refine E108l1 _ _ _ _ ?_
    unfold T108l1
    have hlt : i < n := by omega
    have hw := w64_succ (n := i) (by omega)
    simp only [mkPs]
    have hg : (psS (d ++ mkB k b.length :: mkPs (k + b.length) r))[i]? = some (bS (mkB k b.length)) := by subst hi; exact psS_at d _ _
    have hl : (psS (d ++ mkB k b.length :: mkPs (k + b.length) r)).length = n := by rw [psS_length]; simp [mkPs_length]; omega
    have e1 : k + (b.length : Int) + (tot List.length r : Int) = k + ((b.length + tot List.length r : Nat) : Int) := by omega
    have e2 : ¬ (k + (b.length : Int) < 0) := by omega
    simp only [List.append_assoc, List.singleton_append, e1] at ih
    simp only [S0, hlt, hg, hl, bS, mkB_length, c130 b.length k hk (by omega) (by omega), e2, hw, ih]
theorem c108 (l : List (List UInt8)) (k : Int) (hk : 0 ≤ k) (hk2 : k < 4611686016427387904) (h : l.length < 1000000000) (ht : tot List.length l < 1000000000) :
    runE C 108 [.sl l.length (psS (mkPs k l)), .int .i64 k] = some (.tup [.int .i64 (k + tot List.length l)]) := by
  refine E108 _ _ _ ?_
  unfold T108
  exact l108 l [] k l.length 0 (by simp) rfl hk (by omega) h ht
end Go.Proofs.YtgbpimaidhhnjaaGreat.Nest
