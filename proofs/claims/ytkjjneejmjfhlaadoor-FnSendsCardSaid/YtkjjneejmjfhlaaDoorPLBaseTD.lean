/-
  Small functions that many others call.
-/
import Derived.Test.YtkjjneejmjfhlaaDoorPIEqD
import Derived.Test.YtkjjneejmjfhlaaDoorPMLedger
namespace Go.Proofs.YtkjjneejmjfhlaaDoor.Base
open Go Go.PI Go.PI.Led EqD
set_option maxHeartbeats 1000000
set_option linter.unusedVariables false
set_option linter.unusedSimpArgs false
theorem c57 (a b c : Int) : runE C 57 [.int .i64 a, .int .i64 b, .int .i64 c] = some (.tup [.bool (decide (b ≤ a ∧ a ≤ c))]) := by
  refine E57 a b c ?_
  unfold T57
  by_cases h : b ≤ a <;> simp [h]
theorem c34 (a b c : Int) : runE C 34 [.int .i64 a, .int .i64 b, .int .i64 c] = some (.tup [.bool (decide (b ≤ a ∧ a ≤ c))]) := by
  refine E34 a b c ?_
  unfold T34
  by_cases h : b ≤ a <;> simp [h]
theorem c41 (n : Int) : runE C 41 [.int .i64 n] = some (.tup [.bool (decide (1 ≤ n ∧ n ≤ 1000000))]) := by
  refine E41 _ ?_
  unfold T41
  simp only [Int.ofNat_lt, decide_true, decide_false, cond_true, cond_false, inB_nat, inB_zero, must_true, Int.toNat_natCast, asInt_int, asBool_bool, asSl_sl, asOsl_osl, asStr_str, orcE_R, orcE_W, orcE_L, orcE_X, need_some', asTup_tup, List.getElem?_cons_zero, List.getElem?_cons_succ, Bool.not_true, Bool.not_false, Bool.true_and, Bool.and_true, Bool.false_or, ble_dec, beq_dec, List.length_cons, List.length_nil, Nat.mul_one, Nat.zero_add, Nat.add_zero, Nat.sub_zero, both_self', bytesV_length, bytesV_flat, bytesV_isU8, c34]
theorem c36 (n : Int) : runE C 36 [.int .i64 n] = some (.tup [.bool (decide (isCoins n))]) := by
  refine E36 _ ?_
  unfold T36
  simp only [Int.ofNat_lt, decide_true, decide_false, cond_true, cond_false, inB_nat, inB_zero, must_true, Int.toNat_natCast, asInt_int, asBool_bool, asSl_sl, asOsl_osl, asStr_str, orcE_R, orcE_W, orcE_L, orcE_X, need_some', asTup_tup, List.getElem?_cons_zero, List.getElem?_cons_succ, Bool.not_true, Bool.not_false, Bool.true_and, Bool.and_true, Bool.false_or, ble_dec, beq_dec, List.length_cons, List.length_nil, Nat.mul_one, Nat.zero_add, Nat.add_zero, Nat.sub_zero, both_self', bytesV_length, bytesV_flat, bytesV_isU8, c34]
  rfl
theorem c40 (n : Int) : runE C 40 [.int .i64 n] = some (.tup [.bool (decide (isKind n))]) := by
  refine E40 _ ?_
  unfold T40 isKind
  have h2 : (n == 2) = decide (n = 2) := by rw [Bool.eq_iff_iff]; simp
  by_cases h : n = 1
  · simp [h]
  · rw [h2]; simp [beq_f h, h]
theorem c56 (n : Int) : runE C 56 [.int .i64 n] = some (.tup [.bool (decide (isKind n))]) := by
  refine E56 _ ?_
  unfold T56 isKind
  have h2 : (n == 2) = decide (n = 2) := by rw [Bool.eq_iff_iff]; simp
  by_cases h : n = 1
  · simp [h]
  · rw [h2]; simp [beq_f h, h]
end Go.Proofs.YtkjjneejmjfhlaaDoor.Base
