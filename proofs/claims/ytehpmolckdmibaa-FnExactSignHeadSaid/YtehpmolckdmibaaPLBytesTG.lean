/-
  Functions on bytes that the laws and the program share: copies, sameness, marks, numbers, tagged digests.
-/
import Derived.Test.YtehpmolckdmibaaPLSha5TG
import Derived.Test.YtehpmolckdmibaaPMRelay
namespace Go.Proofs.Ytehpmolckdmibaa.By
open Go Go.PI Go.PI.Sha Go.PI.Rel Go.Proofs.Ytehpmolckdmibaa.Sha EqG
set_option maxHeartbeats 1000000
set_option linter.unusedVariables false
set_option linter.unusedSimpArgs false

theorem c103 (a b c : Int) : runE C 103 [.int .i64 a, .int .i64 b, .int .i64 c] = some (.tup [.bool (decide (b ≤ a ∧ a ≤ c))]) := by
  refine E103 a b c ?_
  unfold T103
  by_cases h : b ≤ a <;> simp [h]
theorem c92 (a b c : Int) : runE C 92 [.int .i64 a, .int .i64 b, .int .i64 c] = some (.tup [.bool (decide (b ≤ a ∧ a ≤ c))]) := by
  refine E92 a b c ?_
  unfold T92
  by_cases h : b ≤ a <;> simp [h]
theorem c115 (n : Nat) (cs : List V) (left : Int) (h : n ≤ 9223372036854775807) (h1 : 0 ≤ left) (h2 : left ≤ 4611686018427387904) :
    runE C 115 [.sl n cs, .int .i64 left] = some (.tup [.int .i64 (if left < n then -1 else left - n)]) := by
  refine E115 _ _ _ ?_
  unfold T115
  rw [w64 (by omega) (by omega)]
  by_cases h : left < n
  · rw [if_pos h, decide_eq_true (by omega)]; rfl
  · rw [if_neg h, decide_eq_false (by omega)]; rfl
theorem l119 (l : List UInt8) (hq : l.length < 4611686018427387904) : ∀ n i, l.length - i = n → i ≤ l.length →
    loopE C 119 0 [true, true, false, true] [] [(0, V.sl l.length (bytesV l)), (3, V.ref 0), (4, V.int .i64 (i : Int))] [Ob.row 5 l.length (bytesV (l.take i ++ (List.replicate l.length 0).drop i)) false] = some (.tup [.osl l.length (bytesV l)]) := by
  intro n
  induction n with
  | zero =>
    intro i h hi
    have : i = l.length := by omega
    subst this
    refine E119l1 _ _ _ _ _ ?_
    unfold T119l1
    simp
  | succ n ih =>
    intro i h hi
    have hlt : i < l.length := by omega
    have hw := w64_succ (n := i) (by omega)
    have ih := ih (i + 1) (by omega) (by omega)
    refine E119l1 _ _ _ _ _ ?_
    unfold T119l1
    have hlen : (l.take i ++ (List.replicate l.length (0 : UInt8)).drop i).length = l.length := by simp; omega
    simp only [Int.ofNat_lt, decide_true, decide_false, cond_true, cond_false, inB_nat, inB_zero, must_true, Int.toNat_natCast, asInt_int, asBool_bool, asSl_sl, asOsl_osl, asStr_str, orcE_R, orcE_W, orcE_L, orcE_X, need_some', asTup_tup, List.getElem?_cons_zero, List.getElem?_cons_succ, Bool.not_true, Bool.not_false, Bool.true_and, Bool.and_true, Bool.false_or, ble_dec, beq_dec, List.length_cons, List.length_nil, Nat.mul_one, Nat.zero_add, Nat.add_zero, Nat.sub_zero, both_self', bytesV_length, bytesV_flat, bytesV_isU8, hlt, bytesV_get hlt, splice_bytes (l := l.take i ++ (List.replicate l.length 0).drop i) (by rw [hlen]; exact hlt), take_drop_set (a := l) (b := List.replicate l.length 0) (by simp) hlt, hw, ih, hlen]
    simp only [show i + (0 + 1) ≤ l.length by omega, Int.ofNat_lt, decide_true, decide_false, cond_true, cond_false, inB_nat, inB_zero, must_true, Int.toNat_natCast, asInt_int, asBool_bool, asSl_sl, asOsl_osl, asStr_str, orcE_R, orcE_W, orcE_L, orcE_X, need_some', asTup_tup, List.getElem?_cons_zero, List.getElem?_cons_succ, Bool.not_true, Bool.not_false, Bool.true_and, Bool.and_true, Bool.false_or, ble_dec, beq_dec, List.length_cons, List.length_nil, Nat.mul_one, Nat.zero_add, Nat.add_zero, Nat.sub_zero, both_self', bytesV_length, bytesV_flat, bytesV_isU8]
theorem c119 (l : List UInt8) (hq : l.length ≤ 140737488355328) : runE C 119 [.sl l.length (bytesV l)] = some (.tup [.osl l.length (bytesV l)]) := by
  refine E119 _ _ ?_
  unfold T119
  have := l119 l (by omega) l.length 0 (by simp) (by simp)
  rw [List.take_zero, List.nil_append, List.drop_zero, ← reps_bytes] at this
  rw [must_of (by simp; omega)]
  simpa using this
theorem l123 (a b : List UInt8) (hab : a.length = b.length) (hq : a.length < 4611686018427387904) : ∀ n i, a.length - i = n → i ≤ a.length →
    loopE C 123 0 [true, true, false, true] [] [(0, V.sl a.length (bytesV a)), (1, V.sl b.length (bytesV b)), (5, V.int .i64 (i : Int))] [] = some (.tup [.bool (decide (a.drop i = b.drop i))]) := by
  intro n
  induction n with
  | zero =>
    intro i h hi
    have : i = a.length := by omega
    subst this
    refine E123l1 _ _ _ _ _ ?_
    unfold T123l1
    simp [hab]
  | succ n ih =>
    intro i h hi
    have hlt : i < a.length := by omega
    have hltb : i < b.length := by omega
    have hw := w64_succ (n := i) (by omega)
    have ih := ih (i + 1) (by omega) (by omega)
    refine E123l1 _ _ _ _ _ ?_
    unfold T123l1
    rw [drop_eq_cons hlt, drop_eq_cons hltb, dec_cons]
    simp only [Int.ofNat_lt, decide_true, decide_false, cond_true, cond_false, inB_nat, inB_zero, must_true, Int.toNat_natCast, asInt_int, asBool_bool, asSl_sl, asOsl_osl, asStr_str, orcE_R, orcE_W, orcE_L, orcE_X, need_some', asTup_tup, List.getElem?_cons_zero, List.getElem?_cons_succ, Bool.not_true, Bool.not_false, Bool.true_and, Bool.and_true, Bool.false_or, ble_dec, beq_dec, List.length_cons, List.length_nil, Nat.mul_one, Nat.zero_add, Nat.add_zero, Nat.sub_zero, both_self', bytesV_length, bytesV_flat, bytesV_isU8, hlt, hltb, bytesV_get hlt, bytesV_get hltb, hw, ih]
    by_cases he : a[i] = b[i]
    · simp [he]
    · have : ((a[i].toNat : Int) != (b[i].toNat : Int)) = true := by simp only [bne_iff_ne, ne_eq, byte_eq]; exact he
      simp [this, he]
theorem c123 (a b : List UInt8) (hq : a.length < 4611686018427387904) : runE C 123 [.sl a.length (bytesV a), .sl b.length (bytesV b)] = some (.tup [.bool (decide (a = b))]) := by
  refine E123 _ _ _ _ ?_
  unfold T123
  by_cases h : a.length = b.length
  · have := l123 a b h hq a.length 0 (by simp) (by simp)
    simp only [List.drop_zero] at this
    simpa [h] using this
  · have : a ≠ b := fun e => h (by rw [e])
    have h' : ((a.length : Int) != (b.length : Int)) = true := by simp; omega
    simp [h', this]
theorem c184 (a : List UInt8) (h : a.length ≤ 140737488355328) : runE C 184 [.sl a.length (bytesV a)] = some (.tup [.osl a.length (bytesV a)]) := by
  refine E184 _ _ ?_
  unfold T184
  by_cases e : a.length = 0
  · have : a = [] := List.eq_nil_of_length_eq_zero e
    subst this
    exact both_self' (some (V.tup [V.osl 0 []]))
  · simp only [Int.ofNat_lt, decide_true, decide_false, cond_true, cond_false, inB_nat, inB_zero, must_true, Int.toNat_natCast, asInt_int, asBool_bool, asSl_sl, asOsl_osl, asStr_str, orcE_R, orcE_W, orcE_L, orcE_X, need_some', asTup_tup, List.getElem?_cons_zero, List.getElem?_cons_succ, Bool.not_true, Bool.not_false, Bool.true_and, Bool.and_true, Bool.false_or, ble_dec, beq_dec, List.length_cons, List.length_nil, Nat.mul_one, Nat.zero_add, Nat.add_zero, Nat.sub_zero, both_self', bytesV_length, bytesV_flat, bytesV_isU8, e, h]
theorem l188 (n : Int) : ∀ (k : Nat) (acc : List UInt8), k ≤ 7 → acc.length + k ≤ 7 → loopE C 188 0 [true, true, false, true] [] [(0, V.int .i64 n), (3, V.ref 0), (4, V.int .i64 ((k : Int) - 1))] [Ob.row 5 acc.length (bytesV acc) false] =
    some (.tup [.sl (acc.length + k) (bytesV (acc ++ putT n k))])
  | 0, acc, _, _ => by
    refine E188l1 _ _ _ _ ?_
    unfold T188l1
    simp [putT]
  | k + 1, acc, hk, ha => by
    have ih := l188 n k (acc ++ [b8 (n.fdiv (2 ^ (8 * k)))]) (by omega) (by simp; omega)
    refine E188l1 _ _ _ _ ?_
    unfold T188l1
    have e1 : ((k + 1 : Nat) : Int) - 1 = (k : Int) := by omega
    have e2 : IntKind.i64.wrap ((k : Int) - 1) = (k : Int) - 1 := w64 (by omega) (by omega)
    have e3 : IntKind.i64.wrap (8 * (k : Int)) = ((8 * k : Nat) : Int) := by rw [w64 (by omega) (by omega)]; omega
    have e4 : IntKind.u64.wrap ((8 * k : Nat) : Int) = ((8 * k : Nat) : Int) := IntWalk.u64_in _ (by omega)
    have e5 : decide ((k : Int) ≥ 0) = true := by simp
    have e6 : min (8 * k) 64 = 8 * k := by omega
    have e7 : decide ((0 : Int) ≤ ((8 * k : Nat) : Int)) = true := decide_eq_true (by omega)
    have e8 : acc.length + 1 ≤ 140737488355328 := by omega
    simp only [bytesV_append, bytesV_cons, bytesV_nil, List.length_append, List.length_cons, List.length_nil, Nat.zero_add, List.append_assoc, List.cons_append, List.nil_append] at ih
    simp only [e1, e2, e3, e4, e5, e6, e7, e8, Int.ofNat_lt, decide_true, decide_false, cond_true, cond_false, inB_nat, inB_zero, must_true, Int.toNat_natCast, asInt_int, asBool_bool, asSl_sl, asOsl_osl, asStr_str, orcE_R, orcE_W, orcE_L, orcE_X, need_some', asTup_tup, List.getElem?_cons_zero, List.getElem?_cons_succ, Bool.not_true, Bool.not_false, Bool.true_and, Bool.and_true, Bool.false_or, ble_dec, beq_dec, List.length_cons, List.length_nil, Nat.mul_one, Nat.zero_add, Nat.add_zero, Nat.sub_zero, both_self', bytesV_length, bytesV_flat, bytesV_isU8, wrap_b8, putT, ih, bytesV_append, bytesV_cons]
    rw [show acc.length + 1 + k = acc.length + (k + 1) by omega]
theorem c188 (n : Int) : runE C 188 [.int .i64 n] = some (.tup [.sl 7 (bytesV (num7 n))]) := by
  refine E188 _ ?_
  unfold T188
  exact l188 n 7 [] (by omega) (by simp)
theorem l102 : ∀ (k : Nat) (n : Int) (suf : List UInt8), k + suf.length = 7 → loopE C 102 0 [true, true, false, true] [] [(0, V.int .i64 n), (3, V.ref 0), (4, V.int .i64 ((k : Int) - 1))] [Ob.row 5 7 (bytesV (List.replicate k 0 ++ suf)) false] =
    some (.tup [.sl 7 (bytesV (putT n k ++ suf))])
  | 0, n, suf, h => by
    refine E102l1 _ _ _ _ ?_
    unfold T102l1
    simp [putT]
  | k + 1, n, suf, h => by
    have ih := l102 k (n.fdiv 256) (b8 n :: suf) (by simp only [List.length_cons]; omega)
    refine E102l1 _ _ _ _ ?_
    unfold T102l1
    have e1 : ((k + 1 : Nat) : Int) - 1 = (k : Int) := by omega
    have e2 : IntKind.i64.wrap ((k : Int) - 1) = (k : Int) - 1 := w64 (by omega) (by omega)
    have e3 : (List.replicate (k + 1) (0 : UInt8) ++ suf).set k (b8 n) = List.replicate k 0 ++ b8 n :: suf := by
      rw [List.replicate_succ', List.append_assoc, List.set_append_right _ _ (by simp)]
      simp
    have e4 : (List.replicate (k + 1) (0 : UInt8) ++ suf).length = 7 := by simp; omega
    have hk7 : k < 7 := by omega
    have hk8 : k + 1 ≤ 7 := by omega
    have e5 : decide ((k : Int) ≥ 0) = true := by simp
    rw [putT_snoc, List.append_assoc]
    simp only [e1, e2, e5, Int.ofNat_lt, decide_true, decide_false, cond_true, cond_false, inB_nat, inB_zero, must_true, Int.toNat_natCast, asInt_int, asBool_bool, asSl_sl, asOsl_osl, asStr_str, orcE_R, orcE_W, orcE_L, orcE_X, need_some', asTup_tup, List.getElem?_cons_zero, List.getElem?_cons_succ, Bool.not_true, Bool.not_false, Bool.true_and, Bool.and_true, Bool.false_or, ble_dec, beq_dec, List.length_cons, List.length_nil, Nat.mul_one, Nat.zero_add, Nat.add_zero, Nat.sub_zero, both_self', bytesV_length, bytesV_flat, bytesV_isU8, hk7, hk8, wrap_b8, splice_bytes (l := List.replicate (k + 1) (0 : UInt8) ++ suf) (i := k) (by omega), e3, e4, ih, List.singleton_append]
theorem c102 (n : Int) : runE C 102 [.int .i64 n] = some (.tup [.sl 7 (bytesV (num7 n))]) := by
  refine E102 _ ?_
  unfold T102
  have h := l102 7 n [] (by simp)
  simpa [bytesV, num7] using h
end Go.Proofs.Ytehpmolckdmibaa.By
