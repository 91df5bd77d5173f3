/-
  FnExactReplayLog: the law comes to true.
-/
import Derived.Test.YtkjjneejmjfhlaaPLLog4T5
namespace Go.Proofs.Ytkjjneejmjfhlaa.Log
open Go Go.PI Go.PI.Sha Go.PI.Log Go.PI.Rel Go.Proofs.Ytkjjneejmjfhlaa.Sha Go.Proofs.Ytkjjneejmjfhlaa.Rel Eq5
set_option maxHeartbeats 1000000
set_option linter.unusedVariables false
set_option linter.unusedSimpArgs false

theorem c50 (n : Nat) (cs : List V) (left : Int) (h : n ≤ 9223372036854775807) (h1 : 0 ≤ left) (h2 : left ≤ 4611686018427387904) :
    runE C 50 [.sl n cs, .int .i64 left] = some (.tup [.int .i64 (if left < n then -1 else left - n)]) := by
  refine E50 _ _ _ ?_
  unfold T50
  rw [w64 (by omega) (by omega)]
  by_cases h : left < n
  · rw [if_pos h, decide_eq_true (by omega)]; rfl
  · rw [if_neg h, decide_eq_false (by omega)]; rfl
theorem c25 (n m : Nat) (cs ds : List V) (left : Int) (h : n ≤ 9223372036854775807) (h' : m ≤ 9223372036854775807) (h1 : 0 ≤ left) (h2 : left ≤ 4611686018427387904) :
    runE C 25 [.agg [.sl n cs, .sl m ds], .int .i64 left] = some (.tup [.int .i64 (if left < n then -1 else if left - n < m then -1 else left - n - m)]) := by
  refine E25 _ _ _ _ _ ?_
  unfold T25
  by_cases g1 : left < n
  · have := c50 n cs left h h1 h2
    rw [if_pos g1] at this
    rw [if_pos g1]
    simp only [Int.ofNat_lt, decide_true, decide_false, cond_true, cond_false, inB_nat, inB_zero, must_true, Int.toNat_natCast, asInt_int, asBool_bool, asSl_sl, asOsl_osl, asStr_str, orcE_R, orcE_W, orcE_L, orcE_X, need_some', asTup_tup, List.getElem?_cons_zero, List.getElem?_cons_succ, Bool.not_true, Bool.not_false, Bool.true_and, Bool.and_true, Bool.false_or, ble_dec, beq_dec, List.length_cons, List.length_nil, Nat.mul_one, Nat.zero_add, Nat.add_zero, Nat.sub_zero, both_self', bytesV_length, bytesV_flat, bytesV_isU8, this]
    rfl
  · have k1 := c50 n cs left h h1 h2
    rw [if_neg g1] at k1
    rw [if_neg g1]
    have k2 := c50 m ds (left - n) h' (by omega) (by omega)
    have n1 : ¬ (left - (n : Int) < 0) := by omega
    by_cases g2 : left - n < m
    · rw [if_pos g2] at k2
      rw [if_pos g2]
      simp only [Int.ofNat_lt, decide_true, decide_false, cond_true, cond_false, inB_nat, inB_zero, must_true, Int.toNat_natCast, asInt_int, asBool_bool, asSl_sl, asOsl_osl, asStr_str, orcE_R, orcE_W, orcE_L, orcE_X, need_some', asTup_tup, List.getElem?_cons_zero, List.getElem?_cons_succ, Bool.not_true, Bool.not_false, Bool.true_and, Bool.and_true, Bool.false_or, ble_dec, beq_dec, List.length_cons, List.length_nil, Nat.mul_one, Nat.zero_add, Nat.add_zero, Nat.sub_zero, both_self', bytesV_length, bytesV_flat, bytesV_isU8, k1, n1, k2]
      rfl
    · rw [if_neg g2] at k2
      rw [if_neg g2]
      have n2 : ¬ (left - (n : Int) - (m : Int) < 0) := by omega
      simp only [Int.ofNat_lt, decide_true, decide_false, cond_true, cond_false, inB_nat, inB_zero, must_true, Int.toNat_natCast, asInt_int, asBool_bool, asSl_sl, asOsl_osl, asStr_str, orcE_R, orcE_W, orcE_L, orcE_X, need_some', asTup_tup, List.getElem?_cons_zero, List.getElem?_cons_succ, Bool.not_true, Bool.not_false, Bool.true_and, Bool.and_true, Bool.false_or, ble_dec, beq_dec, List.length_cons, List.length_nil, Nat.mul_one, Nat.zero_add, Nat.add_zero, Nat.sub_zero, both_self', bytesV_length, bytesV_flat, bytesV_isU8, k1, n1, k2, n2]
theorem c26 (a b : List UInt8) (ha : a.length ≤ 1000000000) (hb : b.length ≤ 1000000000) : runE C 26 [.agg [.sl a.length (bytesV a), .sl b.length (bytesV b)]] = some (.tup [.osl a.length (bytesV a), .osl b.length (bytesV b)]) := by
  refine E26 _ _ _ _ ?_
  unfold T26
  simp only [Int.ofNat_lt, decide_true, decide_false, cond_true, cond_false, inB_nat, inB_zero, must_true, Int.toNat_natCast, asInt_int, asBool_bool, asSl_sl, asOsl_osl, asStr_str, orcE_R, orcE_W, orcE_L, orcE_X, need_some', asTup_tup, List.getElem?_cons_zero, List.getElem?_cons_succ, Bool.not_true, Bool.not_false, Bool.true_and, Bool.and_true, Bool.false_or, ble_dec, beq_dec, List.length_cons, List.length_nil, Nat.mul_one, Nat.zero_add, Nat.add_zero, Nat.sub_zero, both_self', bytesV_length, bytesV_flat, bytesV_isU8, c9 a (by omega), c9 b (by omega)]
theorem c27 (a b : List UInt8) (ha : a.length ≤ 1000000000) (hb : b.length ≤ 1000000000) :
    runE C 27 [.agg [.sl a.length (bytesV a), .sl b.length (bytesV b)], .agg [.sl a.length (bytesV a), .sl b.length (bytesV b)]] = some (.tup [.bool true]) := by
  refine E27 _ _ _ _ _ _ _ _ ?_
  unfold T27
  simp only [Int.ofNat_lt, decide_true, decide_false, cond_true, cond_false, inB_nat, inB_zero, must_true, Int.toNat_natCast, asInt_int, asBool_bool, asSl_sl, asOsl_osl, asStr_str, orcE_R, orcE_W, orcE_L, orcE_X, need_some', asTup_tup, List.getElem?_cons_zero, List.getElem?_cons_succ, Bool.not_true, Bool.not_false, Bool.true_and, Bool.and_true, Bool.false_or, ble_dec, beq_dec, List.length_cons, List.length_nil, Nat.mul_one, Nat.zero_add, Nat.add_zero, Nat.sub_zero, both_self', bytesV_length, bytesV_flat, bytesV_isU8, c13 a a (by omega), c13 b b (by omega)]
theorem c28 (a b : List UInt8) (ha : a.length < 100000000) (hb : b.length < 100000000) :
    ∃ a' b', a'.length = a.length ∧ b'.length = b.length ∧ runWE C 28 [0, 1] [.agg [.ref 0, .ref 1], .int .i64 1] [.row 5 a.length (bytesV a) false, .row 5 b.length (bytesV b) false] = some (.tup [.int .i64 (1 + a.length + b.length), .osl a.length (bytesV a'), .osl b.length (bytesV b')]) := by
  obtain ⟨a', h1, h2⟩ := c15 a 1 (by omega) (by omega) (by omega)
  obtain ⟨b', h3, h4⟩ := c15 b (1 + a.length) (by omega) (by omega) (by omega)
  refine ⟨a', b', h1, h3, E28 _ _ _ _ _ ?_⟩
  unfold T28
  simp only [Int.ofNat_lt, decide_true, decide_false, cond_true, cond_false, inB_nat, inB_zero, must_true, Int.toNat_natCast, asInt_int, asBool_bool, asSl_sl, asOsl_osl, asStr_str, orcE_R, orcE_W, orcE_L, orcE_X, need_some', asTup_tup, List.getElem?_cons_zero, List.getElem?_cons_succ, Bool.not_true, Bool.not_false, Bool.true_and, Bool.and_true, Bool.false_or, ble_dec, beq_dec, List.length_cons, List.length_nil, Nat.mul_one, Nat.zero_add, Nat.add_zero, Nat.sub_zero, both_self', bytesV_length, bytesV_flat, bytesV_isU8, h2, h4]
theorem replayed_len (a b : List UInt8) : (replayed a b).2.2.length ≤ 12 := by
  unfold replayed
  split
  · simp
  · exact replayR_inv _ _ _ (by simp) (by simp)
theorem c5 (a b : List UInt8) (ha : a.length ≤ 9223372036854775807) (hb : b.length ≤ 9223372036854775807) : runE C 5 [.agg [.sl a.length (bytesV a), .sl b.length (bytesV b)]] = some (.tup [.bool true]) := by
  refine E5 _ _ _ _ ?_
  unfold T5
  have hsz := c25 a.length b.length (bytesV a) (bytesV b) 1048576 ha hb (by decide) (by decide)
  by_cases g1 : (1048576 : Int) < (a.length : Int)
  · rw [if_pos g1] at hsz
    simp [hsz]
  rw [if_neg g1] at hsz
  by_cases g2 : (1048576 : Int) - (a.length : Int) < (b.length : Int)
  · rw [if_pos g2] at hsz
    simp [hsz]
  rw [if_neg g2] at hsz
  have h3 : ¬ ((1048576 : Int) - (a.length : Int) - (b.length : Int) < 0) := by omega
  have hal := replayed_len a b
  obtain ⟨a', b', _, _, hm⟩ := c28 a b (by omega) (by omega)
  have hn1 : ¬ (1 + (a.length : Int) + (b.length : Int) < 0) := by omega
  have hn2 : ¬ (1 + 3 * ((replayed a b).2.2.length : Int) < 0) := by omega
  simp only [hsz, h3, Int.ofNat_lt, decide_true, decide_false, cond_true, cond_false, inB_nat, inB_zero, must_true, Int.toNat_natCast, asInt_int, asBool_bool, asSl_sl, asOsl_osl, asStr_str, orcE_R, orcE_W, orcE_L, orcE_X, need_some', asTup_tup, List.getElem?_cons_zero, List.getElem?_cons_succ, Bool.not_true, Bool.not_false, Bool.true_and, Bool.and_true, Bool.false_or, ble_dec, beq_dec, List.length_cons, List.length_nil, Nat.mul_one, Nat.zero_add, Nat.add_zero, Nat.sub_zero, both_self', bytesV_length, bytesV_flat, bytesV_isU8, c26 a b (by omega) (by omega), c21 a b (by omega) (by omega), c20 a b (by omega) (by omega), encR,
    c11 _ _ _ _ (replayed a b).2.2 (replayed a b).2.2 (by omega), and_self, c27 a b (by omega) (by omega), hm, hn1, c16 _ _ (replayed a b).2.2 1 (by omega) (by omega) (by omega),
    c17 _ _ (replayed a b).2.2 1 (by omega) (by omega) (by omega), hn2, bne_f]
end Go.Proofs.Ytkjjneejmjfhlaa.Log
