/-
  Validators, heads that validators sign, trusts: sizes, copies, sameness, marks.
-/
import Derived.Test.YtehpmolckdmibaaPLNestTG
import Derived.Test.YtehpmolckdmibaaPMTrust
namespace Go.Proofs.Ytehpmolckdmibaa.Tru
open Go Go.PI Go.PI.Sha Go.PI.Rel Go.PI.Nest Go.PI.Tru Go.Proofs.Ytehpmolckdmibaa.Sha Go.Proofs.Ytehpmolckdmibaa.By Go.Proofs.Ytehpmolckdmibaa.Nest EqG
set_option maxHeartbeats 1000000
set_option linter.unusedVariables false
set_option linter.unusedSimpArgs false

/-! ### validators -/
theorem c28 (x : HB) (left : Int) (h : x.root.length ≤ 9223372036854775807 ∧ x.set.length ≤ 9223372036854775807 ∧ x.nxt.length ≤ 9223372036854775807) (h1 : 0 ≤ left) (h2 : left ≤ 4611686018427387904) :
    runE C 28 [.agg [.int .i64 x.hgt, .int .i64 x.tim, .sl x.root.length (bytesV x.root), .sl x.set.length (bytesV x.set), .sl x.nxt.length (bytesV x.nxt)], .int .i64 left] = some (.tup [.int .i64 (less left (szH x))]) := by
  refine E28 _ _ _ _ _ _ _ _ _ ?_
  unfold T28
  have k1 := c115 x.root.length (bytesV x.root) left h.1 h1 h2
  by_cases g1 : left < x.root.length
  · rw [if_pos g1] at k1
    rw [less_lt (by unfold szH; omega)]
    simp only [Int.ofNat_lt, decide_true, decide_false, cond_true, cond_false, inB_nat, inB_zero, must_true, Int.toNat_natCast, asInt_int, asBool_bool, asSl_sl, asOsl_osl, asStr_str, orcE_R, orcE_W, orcE_L, orcE_X, need_some', asTup_tup, List.getElem?_cons_zero, List.getElem?_cons_succ, Bool.not_true, Bool.not_false, Bool.true_and, Bool.and_true, Bool.false_or, ble_dec, beq_dec, List.length_cons, List.length_nil, Nat.mul_one, Nat.zero_add, Nat.add_zero, Nat.sub_zero, both_self', bytesV_length, bytesV_flat, bytesV_isU8, k1]
    rfl
  rw [if_neg g1] at k1
  have n1 : ¬ (left - (x.root.length : Int) < 0) := by omega
  have k2 := c115 x.set.length (bytesV x.set) (left - x.root.length) h.2.1 (by omega) (by omega)
  by_cases g2 : left - (x.root.length : Int) < x.set.length
  · rw [if_pos g2] at k2
    rw [less_lt (by unfold szH; omega)]
    simp only [Int.ofNat_lt, decide_true, decide_false, cond_true, cond_false, inB_nat, inB_zero, must_true, Int.toNat_natCast, asInt_int, asBool_bool, asSl_sl, asOsl_osl, asStr_str, orcE_R, orcE_W, orcE_L, orcE_X, need_some', asTup_tup, List.getElem?_cons_zero, List.getElem?_cons_succ, Bool.not_true, Bool.not_false, Bool.true_and, Bool.and_true, Bool.false_or, ble_dec, beq_dec, List.length_cons, List.length_nil, Nat.mul_one, Nat.zero_add, Nat.add_zero, Nat.sub_zero, both_self', bytesV_length, bytesV_flat, bytesV_isU8, k1, n1, k2]
    rfl
  rw [if_neg g2] at k2
  have n2 : ¬ (left - (x.root.length : Int) - (x.set.length : Int) < 0) := by omega
  have k3 := c115 x.nxt.length (bytesV x.nxt) (left - x.root.length - x.set.length) h.2.2 (by omega) (by omega)
  by_cases g3 : left - (x.root.length : Int) - (x.set.length : Int) < x.nxt.length
  · rw [if_pos g3] at k3
    rw [less_lt (by unfold szH; omega)]
    simp only [Int.ofNat_lt, decide_true, decide_false, cond_true, cond_false, inB_nat, inB_zero, must_true, Int.toNat_natCast, asInt_int, asBool_bool, asSl_sl, asOsl_osl, asStr_str, orcE_R, orcE_W, orcE_L, orcE_X, need_some', asTup_tup, List.getElem?_cons_zero, List.getElem?_cons_succ, Bool.not_true, Bool.not_false, Bool.true_and, Bool.and_true, Bool.false_or, ble_dec, beq_dec, List.length_cons, List.length_nil, Nat.mul_one, Nat.zero_add, Nat.add_zero, Nat.sub_zero, both_self', bytesV_length, bytesV_flat, bytesV_isU8, k1, n1, k2, n2, k3]
    rfl
  rw [if_neg g3] at k3
  have n3 : ¬ (left - (x.root.length : Int) - (x.set.length : Int) - (x.nxt.length : Int) < 0) := by omega
  rw [less_ge (by unfold szH; omega)]
  have e : left - (x.root.length : Int) - (x.set.length : Int) - (x.nxt.length : Int) = left - (szH x : Int) := by unfold szH; omega
  rw [e] at k3 n3
  simp only [Int.ofNat_lt, decide_true, decide_false, cond_true, cond_false, inB_nat, inB_zero, must_true, Int.toNat_natCast, asInt_int, asBool_bool, asSl_sl, asOsl_osl, asStr_str, orcE_R, orcE_W, orcE_L, orcE_X, need_some', asTup_tup, List.getElem?_cons_zero, List.getElem?_cons_succ, Bool.not_true, Bool.not_false, Bool.true_and, Bool.and_true, Bool.false_or, ble_dec, beq_dec, List.length_cons, List.length_nil, Nat.mul_one, Nat.zero_add, Nat.add_zero, Nat.sub_zero, both_self', bytesV_length, bytesV_flat, bytesV_isU8, k1, n1, k2, n2, k3, n3]
theorem c31 (x : HB) (h : fitH x) : runE C 31 [.agg [.int .i64 x.hgt, .int .i64 x.tim, .sl x.root.length (bytesV x.root), .sl x.set.length (bytesV x.set), .sl x.nxt.length (bytesV x.nxt)]] = some (.tup [.int .i64 x.hgt, .int .i64 x.tim, .osl x.root.length (bytesV x.root), .osl x.set.length (bytesV x.set), .osl x.nxt.length (bytesV x.nxt)]) := by
  refine E31 _ _ _ _ _ _ _ _ ?_
  unfold T31
  unfold fitH szH at h
  simp only [Int.ofNat_lt, decide_true, decide_false, cond_true, cond_false, inB_nat, inB_zero, must_true, Int.toNat_natCast, asInt_int, asBool_bool, asSl_sl, asOsl_osl, asStr_str, orcE_R, orcE_W, orcE_L, orcE_X, need_some', asTup_tup, List.getElem?_cons_zero, List.getElem?_cons_succ, Bool.not_true, Bool.not_false, Bool.true_and, Bool.and_true, Bool.false_or, ble_dec, beq_dec, List.length_cons, List.length_nil, Nat.mul_one, Nat.zero_add, Nat.add_zero, Nat.sub_zero, both_self', bytesV_length, bytesV_flat, bytesV_isU8, c119 x.root (by omega), c119 x.set (by omega), c119 x.nxt (by omega)]
theorem c35 (x y : HB) (h : fitH x) : runE C 35 [.agg [.int .i64 x.hgt, .int .i64 x.tim, .sl x.root.length (bytesV x.root), .sl x.set.length (bytesV x.set), .sl x.nxt.length (bytesV x.nxt)], .agg [.int .i64 y.hgt, .int .i64 y.tim, .sl y.root.length (bytesV y.root), .sl y.set.length (bytesV y.set), .sl y.nxt.length (bytesV y.nxt)]] = some (.tup [.bool (decide (x = y))]) := by
  refine E35 _ _ _ _ _ _ _ _ _ _ _ _ _ _ _ _ ?_
  unfold T35
  unfold fitH szH at h
  simp only [Int.ofNat_lt, decide_true, decide_false, cond_true, cond_false, inB_nat, inB_zero, must_true, Int.toNat_natCast, asInt_int, asBool_bool, asSl_sl, asOsl_osl, asStr_str, orcE_R, orcE_W, orcE_L, orcE_X, need_some', asTup_tup, List.getElem?_cons_zero, List.getElem?_cons_succ, Bool.not_true, Bool.not_false, Bool.true_and, Bool.and_true, Bool.false_or, ble_dec, beq_dec, List.length_cons, List.length_nil, Nat.mul_one, Nat.zero_add, Nat.add_zero, Nat.sub_zero, both_self', bytesV_length, bytesV_flat, bytesV_isU8, c123 x.root y.root (by omega), c123 x.set y.set (by omega), c123 x.nxt y.nxt (by omega)]
  obtain ⟨a, b, c, d, e⟩ := x
  obtain ⟨a', b', c', d', e'⟩ := y
  simp only [HB.mk.injEq]
  by_cases e1 : a = a' <;> by_cases e2 : b = b' <;> by_cases e3 : c = c' <;> by_cases e4 : d = d' <;> by_cases e5 : e = e' <;> simp [e1, e2, e3, e4, e5, bne_t]
theorem c37 (x : HB) (k : Int) (hk : 0 ≤ k) (hk2 : k < 4611686014427387904) (h : fitH x) :
    runWE C 37 [0, 1, 2] [.agg [.int .i64 x.hgt, .int .i64 x.tim, .ref 0, .ref 1, .ref 2], .int .i64 k] [.row 5 x.root.length (bytesV x.root) false, .row 5 x.set.length (bytesV x.set) false, .row 5 x.nxt.length (bytesV x.nxt) false] =
      some (.tup [.int .i64 (k + szH x), .osl x.root.length (bytesV (mkH k x).root), .osl x.set.length (bytesV (mkH k x).set), .osl x.nxt.length (bytesV (mkH k x).nxt)]) := by
  refine E37 _ _ _ _ _ _ _ _ _ ?_
  unfold T37
  unfold fitH szH at h
  have e : k + (x.root.length : Int) + (x.set.length : Int) + (x.nxt.length : Int) = k + (szH x : Int) := by unfold szH; omega
  simp only [Int.ofNat_lt, decide_true, decide_false, cond_true, cond_false, inB_nat, inB_zero, must_true, Int.toNat_natCast, asInt_int, asBool_bool, asSl_sl, asOsl_osl, asStr_str, orcE_R, orcE_W, orcE_L, orcE_X, need_some', asTup_tup, List.getElem?_cons_zero, List.getElem?_cons_succ, Bool.not_true, Bool.not_false, Bool.true_and, Bool.and_true, Bool.false_or, ble_dec, beq_dec, List.length_cons, List.length_nil, Nat.mul_one, Nat.zero_add, Nat.add_zero, Nat.sub_zero, both_self', bytesV_length, bytesV_flat, bytesV_isU8, c125 x.root k hk (by omega) (by omega), c125 x.set (k + x.root.length) (by omega) (by omega) (by omega), c125 x.nxt (k + x.root.length + x.set.length) (by omega) (by omega) (by omega), mkH, e]
theorem c199 (x : HB) (k : Int) (hk : 0 ≤ k) (hk2 : k < 4611686014427387904) (h : fitH x) :
    runE C 199 [.agg [.int .i64 x.hgt, .int .i64 x.tim, .sl x.root.length (bytesV (mkH k x).root), .sl x.set.length (bytesV (mkH k x).set), .sl x.nxt.length (bytesV (mkH k x).nxt)], .int .i64 k] = some (.tup [.int .i64 (k + szH x)]) := by
  refine E199 _ _ _ _ _ _ _ _ _ ?_
  unfold T199
  unfold fitH szH at h
  have e : k + (x.root.length : Int) + (x.set.length : Int) + (x.nxt.length : Int) = k + (szH x : Int) := by unfold szH; omega
  have n1 : ¬ (k + (x.root.length : Int) < 0) := by omega
  have n2 : ¬ (k + (x.root.length : Int) + (x.set.length : Int) < 0) := by omega
  have n3 : ¬ (k + (szH x : Int) < 0) := by omega
  simp only [Int.ofNat_lt, decide_true, decide_false, cond_true, cond_false, inB_nat, inB_zero, must_true, Int.toNat_natCast, asInt_int, asBool_bool, asSl_sl, asOsl_osl, asStr_str, orcE_R, orcE_W, orcE_L, orcE_X, need_some', asTup_tup, List.getElem?_cons_zero, List.getElem?_cons_succ, Bool.not_true, Bool.not_false, Bool.true_and, Bool.and_true, Bool.false_or, ble_dec, beq_dec, List.length_cons, List.length_nil, Nat.mul_one, Nat.zero_add, Nat.add_zero, Nat.sub_zero, both_self', bytesV_length, bytesV_flat, bytesV_isU8, mkH, c254 x.root.length k hk (by omega) (by omega), n1, c254 x.set.length (k + x.root.length) (by omega) (by omega) (by omega), n2, c254 x.nxt.length (k + x.root.length + x.set.length) (by omega) (by omega) (by omega), e, n3]
theorem c140 (x : HB) (h : fitH x) : runE C 140 [.agg [.int .i64 x.hgt, .int .i64 x.tim, .sl x.root.length (bytesV x.root), .sl x.set.length (bytesV x.set), .sl x.nxt.length (bytesV x.nxt)]] = some (.tup [.int .i64 x.hgt, .int .i64 x.tim, .osl x.root.length (bytesV x.root), .osl x.set.length (bytesV x.set), .osl x.nxt.length (bytesV x.nxt)]) := by
  refine E140 _ _ _ _ _ _ _ _ ?_
  unfold T140
  unfold fitH szH at h
  simp only [Int.ofNat_lt, decide_true, decide_false, cond_true, cond_false, inB_nat, inB_zero, must_true, Int.toNat_natCast, asInt_int, asBool_bool, asSl_sl, asOsl_osl, asStr_str, orcE_R, orcE_W, orcE_L, orcE_X, need_some', asTup_tup, List.getElem?_cons_zero, List.getElem?_cons_succ, Bool.not_true, Bool.not_false, Bool.true_and, Bool.and_true, Bool.false_or, ble_dec, beq_dec, List.length_cons, List.length_nil, Nat.mul_one, Nat.zero_add, Nat.add_zero, Nat.sub_zero, both_self', bytesV_length, bytesV_flat, bytesV_isU8, c184 x.root (by omega), c184 x.set (by omega), c184 x.nxt (by omega)]
theorem c192 (x : HB) (h : fitH x) : runE C 192 [.agg [.int .i64 x.hgt, .int .i64 x.tim, .sl x.root.length (bytesV x.root), .sl x.set.length (bytesV x.set), .sl x.nxt.length (bytesV x.nxt)]] = some (.tup [.int .i64 x.hgt, .int .i64 x.tim, .osl x.root.length (bytesV x.root), .osl x.set.length (bytesV x.set), .osl x.nxt.length (bytesV x.nxt)]) := by
  refine E192 _ _ _ _ _ _ _ _ ?_
  unfold T192
  unfold fitH szH at h
  have d1 : x.root.length ≤ 140737488355328 := by omega
  have d2 : x.set.length ≤ 140737488355328 := by omega
  have d3 : x.nxt.length ≤ 140737488355328 := by omega
  simp only [Int.ofNat_lt, decide_true, decide_false, cond_true, cond_false, inB_nat, inB_zero, must_true, Int.toNat_natCast, asInt_int, asBool_bool, asSl_sl, asOsl_osl, asStr_str, orcE_R, orcE_W, orcE_L, orcE_X, need_some', asTup_tup, List.getElem?_cons_zero, List.getElem?_cons_succ, Bool.not_true, Bool.not_false, Bool.true_and, Bool.and_true, Bool.false_or, ble_dec, beq_dec, List.length_cons, List.length_nil, Nat.mul_one, Nat.zero_add, Nat.add_zero, Nat.sub_zero, both_self', bytesV_length, bytesV_flat, bytesV_isU8, d1, d2, d3]

/-! ### trusts -/
end Go.Proofs.Ytehpmolckdmibaa.Tru
