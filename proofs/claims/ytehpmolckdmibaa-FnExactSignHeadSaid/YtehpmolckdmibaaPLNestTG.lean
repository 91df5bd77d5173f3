/-
  Lists of byte lists: marked, held, cloned, the same.
-/
import Derived.Test.YtehpmolckdmibaaPLBytesTG
import Derived.Test.YtehpmolckdmibaaPMNest
namespace Go.Proofs.Ytehpmolckdmibaa.Nest
open Go Go.PI Go.PI.Sha Go.PI.Rel Go.PI.Nest Go.Proofs.Ytehpmolckdmibaa.Sha Go.Proofs.Ytehpmolckdmibaa.By EqG
set_option maxHeartbeats 1000000
set_option linter.unusedVariables false
set_option linter.unusedSimpArgs false

theorem psS_parts (l : List (List UInt8)) : psS l = partsV l := by
  induction l with
  | nil => rfl
  | cons b l ih => unfold psS at ih ⊢; rw [List.flatMap_cons, ih]; rfl
theorem l125 : ∀ (r d : List UInt8) (k : Int) (n i : Nat), n = d.length + r.length → i = d.length → 0 ≤ k → k + r.length < 4611686018427387904 → n < 1000000000 →
    loopWE C 125 [0] [Ob.row 5 0 [] false] 0 [true, false, true] [] [(0, V.ref 0), (1, V.int .i64 k), (5, V.int .i64 (i : Int))] [Ob.row 5 n (bytesV (d ++ r)) false] = some (.tup [.int .i64 (k + r.length), .osl n (bytesV (d ++ mkB k r.length))])
  | [], d, k, n, i, hn, hi, hk, hk2, hq => by
    refine E125l1 _ _ _ _ ?_
    unfold T125l1
    have : ¬ i < n := by simp at hn; omega
    simp [this, mkB]
  | b :: r, d, k, n, i, hn, hi, hk, hk2, hq => by
    simp only [List.length_cons] at hn hk2 ⊢
    have ih := l125 r (d ++ [b8 k]) (k + 1) n (i + 1) (by simp; omega) (by simp; omega) (by omega) (by omega) hq
    refine E125l1 _ _ _ _ ?_
    unfold T125l1
    have hlt : i < n := by omega
    have hw := w64_succ (n := i) (by omega)
    have hs : splice (bytesV (d ++ b :: r)) i [V.int .u8 ((b8 k).toNat : Int)] = bytesV (d ++ [b8 k] ++ r) := by
      subst hi; rw [splice_bytes (by simp)]; simp
    have hk' : IntKind.i64.wrap (k + 1) = k + 1 := w64 (by omega) (by omega)
    have hln : (d ++ b :: r).length = n := by simp; omega
    have e1 : k + 1 + (r.length : Int) = k + ((r.length + 1 : Nat) : Int) := by omega
    have e2 : d ++ [b8 k] ++ mkB (k + 1) r.length = d ++ mkB k (r.length + 1) := by simp [mkB]
    rw [e1, e2] at ih
    simp only [Int.ofNat_lt, decide_true, decide_false, cond_true, cond_false, inB_nat, inB_zero, must_true, Int.toNat_natCast, asInt_int, asBool_bool, asSl_sl, asOsl_osl, asStr_str, orcE_R, orcE_W, orcE_L, orcE_X, need_some', asTup_tup, List.getElem?_cons_zero, List.getElem?_cons_succ, Bool.not_true, Bool.not_false, Bool.true_and, Bool.and_true, Bool.false_or, ble_dec, beq_dec, List.length_cons, List.length_nil, Nat.mul_one, Nat.zero_add, Nat.add_zero, Nat.sub_zero, both_self', bytesV_length, bytesV_flat, bytesV_isU8, hlt, wrap_b8, hs, hw, hk', ih, hln]
    simp only [show i + (0 + 1) ≤ n by omega, Int.ofNat_lt, decide_true, decide_false, cond_true, cond_false, inB_nat, inB_zero, must_true, Int.toNat_natCast, asInt_int, asBool_bool, asSl_sl, asOsl_osl, asStr_str, orcE_R, orcE_W, orcE_L, orcE_X, need_some', asTup_tup, List.getElem?_cons_zero, List.getElem?_cons_succ, Bool.not_true, Bool.not_false, Bool.true_and, Bool.and_true, Bool.false_or, ble_dec, beq_dec, List.length_cons, List.length_nil, Nat.mul_one, Nat.zero_add, Nat.add_zero, Nat.sub_zero, both_self', bytesV_length, bytesV_flat, bytesV_isU8]
theorem c125 (l : List UInt8) (k : Int) (hk : 0 ≤ k) (hq : l.length < 1000000000) (hk2 : k < 4611686017427387904) :
    runWE C 125 [0] [.ref 0, .int .i64 k] [.row 5 l.length (bytesV l) false] = some (.tup [.int .i64 (k + l.length), .osl l.length (bytesV (mkB k l.length))]) := by
  refine E125 _ _ _ ?_
  unfold T125
  exact l125 l [] k l.length 0 (by simp) rfl hk (by omega) hq
theorem l254 : ∀ (m : Nat) (d : List UInt8) (k : Int) (n i : Nat), n = d.length + m → i = d.length → 0 ≤ k → k + m < 4611686018427387904 → n < 1000000000 →
    loopE C 254 0 [true, false, true] [] [(0, V.sl n (bytesV (d ++ mkB k m))), (1, V.int .i64 k), (5, V.int .i64 (i : Int))] [] = some (.tup [.int .i64 (k + m)])
  | 0, d, k, n, i, hn, hi, hk, hk2, hq => by
    refine E254l1 _ _ _ _ ?_
    unfold T254l1
    have : ¬ i < n := by omega
    simp [this]
  | m + 1, d, k, n, i, hn, hi, hk, hk2, hq => by
    have ih := l254 m (d ++ [b8 k]) (k + 1) n (i + 1) (by simp; omega) (by simp; omega) (by omega) (by omega) hq
    refine E254l1 _ _ _ _ ?_
    unfold T254l1
    have hlt : i < n := by omega
    have hw := w64_succ (n := i) (by omega)
    have e0 : d ++ mkB k (m + 1) = d ++ [b8 k] ++ mkB (k + 1) m := by simp [mkB]
    have hg : (bytesV (d ++ [b8 k] ++ mkB (k + 1) m))[i]? = some (V.int .u8 ((b8 k).toNat : Int)) := by
      subst hi; simp [bytesV]
    have hk' : IntKind.i64.wrap (k + 1) = k + 1 := w64 (by omega) (by omega)
    have e1 : k + 1 + (m : Int) = k + ((m + 1 : Nat) : Int) := by omega
    rw [e1] at ih
    rw [e0]
    simp only [Int.ofNat_lt, decide_true, decide_false, cond_true, cond_false, inB_nat, inB_zero, must_true, Int.toNat_natCast, asInt_int, asBool_bool, asSl_sl, asOsl_osl, asStr_str, orcE_R, orcE_W, orcE_L, orcE_X, need_some', asTup_tup, List.getElem?_cons_zero, List.getElem?_cons_succ, Bool.not_true, Bool.not_false, Bool.true_and, Bool.and_true, Bool.false_or, ble_dec, beq_dec, List.length_cons, List.length_nil, Nat.mul_one, Nat.zero_add, Nat.add_zero, Nat.sub_zero, both_self', bytesV_length, bytesV_flat, bytesV_isU8, hlt, hg, wrap_b8, bne_f, hw, hk', ih]
theorem c254 (n : Nat) (k : Int) (hk : 0 ≤ k) (hq : n < 1000000000) (hk2 : k < 4611686017427387904) :
    runE C 254 [.sl n (bytesV (mkB k n)), .int .i64 k] = some (.tup [.int .i64 (k + n)]) := by
  refine E254 _ _ _ ?_
  unfold T254
  exact l254 n [] k n 0 (by simp) rfl hk (by omega) hq

/-! ### lists of them -/
theorem l70 : ∀ (r r' d d' : List (List UInt8)) (n i : Nat), n = d.length + r.length → r.length = r'.length → d'.length = d.length → i = d.length → n < 1000000000 → tot List.length r ≤ 1000000000 →
    loopE C 70 0 [true, true, false, true] [] [(0, V.sl n (psS (d ++ r))), (1, V.sl n (psS (d' ++ r'))), (5, V.int .i64 (i : Int))] [] = some (.tup [.bool (decide (r = r'))])
  | [], [], d, d', n, i, hn, hr, hd, hi, hq, ht => by
    refine E70l1 _ _ _ _ _ ?_
    unfold T70l1
    have : ¬ i < n := by simp at hn; omega
    simp [this]
  | [], _ :: _, d, d', n, i, hn, hr, hd, hi, hq, ht => by simp at hr
  | _ :: _, [], d, d', n, i, hn, hr, hd, hi, hq, ht => by simp at hr
  | b :: r, b' :: r', d, d', n, i, hn, hr, hd, hi, hq, ht => by
    simp only [List.length_cons] at hn hr
    simp only [tot] at ht
    have ih := l70 r r' (d ++ [b]) (d' ++ [b']) n (i + 1) (by simp; omega) (by omega) (by simp [hd]) (by simp; omega) hq (by omega)
    refine E70l1 _ _ _ _ _ ?_
    unfold T70l1
    have hlt : i < n := by omega
    have hw := w64_succ (n := i) (by omega)
    have hg : (psS (d ++ b :: r))[i]? = some (bS b) := by subst hi; exact psS_at d b r
    have hg' : (psS (d' ++ b' :: r'))[i]? = some (bS b') := by rw [hi, ← hd]; exact psS_at d' b' r'
    have hl : (psS (d ++ b :: r)).length = n := by rw [psS_length]; simp; omega
    have hl' : (psS (d' ++ b' :: r')).length = n := by rw [psS_length]; simp; omega
    simp only [List.append_assoc, List.singleton_append] at ih
    rw [dec_cons]
    simp only [Int.ofNat_lt, decide_true, decide_false, cond_true, cond_false, inB_nat, inB_zero, must_true, Int.toNat_natCast, asInt_int, asBool_bool, asSl_sl, asOsl_osl, asStr_str, orcE_R, orcE_W, orcE_L, orcE_X, need_some', asTup_tup, List.getElem?_cons_zero, List.getElem?_cons_succ, Bool.not_true, Bool.not_false, Bool.true_and, Bool.and_true, Bool.false_or, ble_dec, beq_dec, List.length_cons, List.length_nil, Nat.mul_one, Nat.zero_add, Nat.add_zero, Nat.sub_zero, both_self', bytesV_length, bytesV_flat, bytesV_isU8, hlt, hg, hg', hl, hl', bS, c123 b b' (by omega), hw, ih]
    by_cases e : b = b' <;> simp [e]
theorem c70 (a b : List (List UInt8)) (h : a.length < 1000000000) (ht : tot List.length a ≤ 1000000000) : runE C 70 [.sl a.length (psS a), .sl b.length (psS b)] = some (.tup [.bool (decide (a = b))]) := by
  refine E70 _ _ _ _ ?_
  unfold T70
  by_cases e : a.length = b.length
  · have := l70 a b [] [] a.length 0 (by simp) e rfl rfl h ht
    simp only [List.nil_append] at this
    rw [← e]
    simpa using this
  · have h1 : a ≠ b := fun h => e (by rw [h])
    have h2 : ((a.length : Int) != (b.length : Int)) = true := by simp; omega
    simp [h1, h2]
theorem l72 : ∀ (r d : List (List UInt8)) (k : Int) (n i : Nat), n = d.length + r.length → i = d.length → 0 ≤ k → k + tot List.length r < 4611686017427387904 → n < 1000000000 → tot List.length r < 1000000000 →
    loopWE C 72 [0] [Ob.nrow [] 22 0 []] 0 [true, false, true] [] [(0, V.ref 0), (1, V.int .i64 k), (5, V.int .i64 (i : Int))] [Ob.nrow [] 22 n (psO (d ++ r))] = some (.tup [.int .i64 (k + tot List.length r), .osl n (psO (d ++ mkPs k r))])
  | [], d, k, n, i, hn, hi, hk, hk2, hq, ht => by
    refine E72l1 _ _ _ _ ?_
    unfold T72l1
    have : ¬ i < n := by simp at hn; omega
    simp [this, mkPs, tot]
  | b :: r, d, k, n, i, hn, hi, hk, hk2, hq, ht => by
    simp only [List.length_cons] at hn
    simp only [tot] at hk2 ht ⊢
    have ih := l72 r (d ++ [mkB k b.length]) (k + b.length) n (i + 1) (by simp; omega) (by simp; omega) (by omega) (by omega) hq (by omega)
    refine E72l1 _ _ _ _ ?_
    unfold T72l1
    have hlt : i < n := by omega
    have hw := w64_succ (n := i) (by omega)
    have hg : (psO (d ++ b :: r))[i]? = some (V.own false 5 1 b.length (bytesV b)) := by subst hi; exact psO_at d b r
    have hs : (psO (d ++ b :: r)).set i (V.own false 5 1 b.length (bytesV (mkB k b.length))) = psO (d ++ mkB k b.length :: r) := by
      subst hi
      have := psO_set d b (mkB k b.length) r
      simpa [bO] using this
    have e1 : k + (b.length : Int) + (tot List.length r : Int) = k + ((b.length + tot List.length r : Nat) : Int) := by omega
    simp only [List.append_assoc, List.singleton_append, e1] at ih
    simp only [Int.ofNat_lt, decide_true, decide_false, cond_true, cond_false, inB_nat, inB_zero, must_true, Int.toNat_natCast, asInt_int, asBool_bool, asSl_sl, asOsl_osl, asStr_str, orcE_R, orcE_W, orcE_L, orcE_X, need_some', asTup_tup, List.getElem?_cons_zero, List.getElem?_cons_succ, Bool.not_true, Bool.not_false, Bool.true_and, Bool.and_true, Bool.false_or, ble_dec, beq_dec, List.length_cons, List.length_nil, Nat.mul_one, Nat.zero_add, Nat.add_zero, Nat.sub_zero, both_self', bytesV_length, bytesV_flat, bytesV_isU8, hlt, hg, asOwn_own, c125 b k hk (by omega) (by omega), hs, hw, mkPs, ih]
theorem c72 (l : List (List UInt8)) (k : Int) (hk : 0 ≤ k) (hk2 : k < 4611686016427387904) (h : l.length < 1000000000) (ht : tot List.length l < 1000000000) :
    runWE C 72 [0] [.ref 0, .int .i64 k] [.nrow [] 22 l.length (psO l)] = some (.tup [.int .i64 (k + tot List.length l), .osl l.length (psO (mkPs k l))]) := by
  refine E72 _ _ _ ?_
  unfold T72
  exact l72 l [] k l.length 0 (by simp) rfl hk (by omega) h ht
theorem l201 : ∀ (r d : List (List UInt8)) (k : Int) (n i : Nat), n = d.length + r.length → i = d.length → 0 ≤ k → k + tot List.length r < 4611686017427387904 → n < 1000000000 → tot List.length r < 1000000000 →
    loopE C 201 0 [true, false, true] [] [(0, V.sl n (psS (d ++ mkPs k r))), (1, V.int .i64 k), (5, V.int .i64 (i : Int))] [] = some (.tup [.int .i64 (k + tot List.length r)])
  | [], d, k, n, i, hn, hi, hk, hk2, hq, ht => by
    refine E201l1 _ _ _ _ ?_
    unfold T201l1
    have : ¬ i < n := by simp at hn; omega
    simp [this, mkPs, tot]
  | b :: r, d, k, n, i, hn, hi, hk, hk2, hq, ht => by
    simp only [List.length_cons] at hn
    simp only [tot] at hk2 ht ⊢
    have ih := l201 r (d ++ [mkB k b.length]) (k + b.length) n (i + 1) (by simp; omega) (by simp; omega) (by omega) (by omega) hq (by omega)
    refine E201l1 _ _ _ _ ?_
    unfold T201l1
    have hlt : i < n := by omega
    have hw := w64_succ (n := i) (by omega)
    simp only [mkPs]
    have hg : (psS (d ++ mkB k b.length :: mkPs (k + b.length) r))[i]? = some (bS (mkB k b.length)) := by subst hi; exact psS_at d _ _
    have hl : (psS (d ++ mkB k b.length :: mkPs (k + b.length) r)).length = n := by rw [psS_length]; simp [mkPs_length]; omega
    have e1 : k + (b.length : Int) + (tot List.length r : Int) = k + ((b.length + tot List.length r : Nat) : Int) := by omega
    have e2 : ¬ (k + (b.length : Int) < 0) := by omega
    simp only [List.append_assoc, List.singleton_append, e1] at ih
    simp only [Int.ofNat_lt, decide_true, decide_false, cond_true, cond_false, inB_nat, inB_zero, must_true, Int.toNat_natCast, asInt_int, asBool_bool, asSl_sl, asOsl_osl, asStr_str, orcE_R, orcE_W, orcE_L, orcE_X, need_some', asTup_tup, List.getElem?_cons_zero, List.getElem?_cons_succ, Bool.not_true, Bool.not_false, Bool.true_and, Bool.and_true, Bool.false_or, ble_dec, beq_dec, List.length_cons, List.length_nil, Nat.mul_one, Nat.zero_add, Nat.add_zero, Nat.sub_zero, both_self', bytesV_length, bytesV_flat, bytesV_isU8, hlt, hg, hl, bS, mkB_length, c254 b.length k hk (by omega) (by omega), e2, hw, ih]
theorem c201 (l : List (List UInt8)) (k : Int) (hk : 0 ≤ k) (hk2 : k < 4611686016427387904) (h : l.length < 1000000000) (ht : tot List.length l < 1000000000) :
    runE C 201 [.sl l.length (psS (mkPs k l)), .int .i64 k] = some (.tup [.int .i64 (k + tot List.length l)]) := by
  refine E201 _ _ _ ?_
  unfold T201
  exact l201 l [] k l.length 0 (by simp) rfl hk (by omega) h ht
end Go.Proofs.Ytehpmolckdmibaa.Nest
