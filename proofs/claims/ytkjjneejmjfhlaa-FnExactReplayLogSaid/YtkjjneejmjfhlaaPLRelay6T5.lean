/-
  The relayer's functions, each by its plain word: a record applied, as the program does it; the law.
-/
import Derived.Test.YtkjjneejmjfhlaaPLRelay5T5
namespace Go.Proofs.Ytkjjneejmjfhlaa.Rel
open Go Go.PI Go.PI.Rel Eq5
set_option maxHeartbeats 1000000
set_option linter.unusedVariables false
set_option linter.unusedSectionVars false
set_option linter.unusedSimpArgs false

def readR (rec : List UInt8) : Int × Int × Int × Bool :=
  if rec.length ≠ 8 ∧ rec.length ≠ 15 then (0, 0, 0, false) else
    (((rec.headD 0).toNat : Int), numOf ((rec.drop 1).take 7), numOf (rec.drop 8),
      decide ((recOf ((rec.headD 0).toNat : Int) (numOf ((rec.drop 1).take 7)) (numOf (rec.drop 8))).1 = 0) && decide ((recOf ((rec.headD 0).toNat : Int) (numOf ((rec.drop 1).take 7)) (numOf (rec.drop 8))).2 = rec))
theorem c60 (rec : List UInt8) : runE C 60 [.sl rec.length (bytesV rec)] = some (.tup [.int .i64 (readR rec).1, .int .i64 (readR rec).2.1, .int .i64 (readR rec).2.2.1, .bool (readR rec).2.2.2]) := by
  refine E60 _ _ ?_
  unfold T60
  by_cases h : rec.length = 8 ∨ rec.length = 15
  · have hr : 0 < rec.length := by omega
    have h8 : decide ((8 : Int) ≤ (rec.length : Int)) = true := decide_eq_true (by omega)
    have hgo : ¬ (rec.length ≠ 8 ∧ rec.length ≠ 15) := by omega
    have hsame := c81 (recOf ((rec.headD 0).toNat : Int) (numOf ((rec.drop 1).take 7)) (numOf (rec.drop 8))).2 rec
    obtain ⟨k, hmb⟩ := m_b rec h
    have hmb' := hmb
    rw [Nat.mul_one] at hmb'
    have step : ∀ {X Y R : Option V}, X = R → (bif ((rec.length : Int) != 8) then (bif ((rec.length : Int) != 15) then Y else X) else X) = R := by
      intro X Y R hX
      rcases h with h | h
      · have : ((rec.length : Int) != 8) = false := by simp; omega
        rw [this]; exact hX
      · have h1 : ((rec.length : Int) != 8) = true := by simp; omega
        have h2 : ((rec.length : Int) != 15) = false := by simp; omega
        rw [h1, h2]; exact hX
    refine step ?_
    unfold readR
    rw [if_neg hgo]
    simp only [rec_head rec h, hr, h8, m_a rec h, hmb, hmb', w64_b, c80, Int.ofNat_lt, decide_true, decide_false, cond_true, cond_false, inB_nat, inB_zero, must_true, Int.toNat_natCast, asInt_int, asBool_bool, asSl_sl, asOsl_osl, asStr_str, orcE_R, orcE_W, orcE_L, orcE_X, need_some', asTup_tup, List.getElem?_cons_zero, List.getElem?_cons_succ, Bool.not_true, Bool.not_false, Bool.true_and, Bool.and_true, Bool.false_or, ble_dec, beq_dec, List.length_cons, List.length_nil, Nat.mul_one, Nat.zero_add, Nat.add_zero, Nat.sub_zero, both_self', bytesV_length, bytesV_flat, bytesV_isU8, hsame]
    by_cases h1 : (recOf ((rec.headD 0).toNat : Int) (numOf ((rec.drop 1).take 7)) (numOf (rec.drop 8))).1 = 0
    · simp only [h1, beq_t, Int.ofNat_lt, decide_true, decide_false, cond_true, cond_false, inB_nat, inB_zero, must_true, Int.toNat_natCast, asInt_int, asBool_bool, asSl_sl, asOsl_osl, asStr_str, orcE_R, orcE_W, orcE_L, orcE_X, need_some', asTup_tup, List.getElem?_cons_zero, List.getElem?_cons_succ, Bool.not_true, Bool.not_false, Bool.true_and, Bool.and_true, Bool.false_or, ble_dec, beq_dec, List.length_cons, List.length_nil, Nat.mul_one, Nat.zero_add, Nat.add_zero, Nat.sub_zero, both_self', bytesV_length, bytesV_flat, bytesV_isU8]
    · simp only [h1, beq_f h1, Int.ofNat_lt, decide_true, decide_false, cond_true, cond_false, inB_nat, inB_zero, must_true, Int.toNat_natCast, asInt_int, asBool_bool, asSl_sl, asOsl_osl, asStr_str, orcE_R, orcE_W, orcE_L, orcE_X, need_some', asTup_tup, List.getElem?_cons_zero, List.getElem?_cons_succ, Bool.not_true, Bool.not_false, Bool.true_and, Bool.and_true, Bool.false_or, ble_dec, beq_dec, List.length_cons, List.length_nil, Nat.mul_one, Nat.zero_add, Nat.add_zero, Nat.sub_zero, both_self', bytesV_length, bytesV_flat, bytesV_isU8, Bool.false_and]
  · have h1 : ((rec.length : Int) != 8) = true := by simp; omega
    have h2 : ((rec.length : Int) != 15) = true := by simp; omega
    have hgo : rec.length ≠ 8 ∧ rec.length ≠ 15 := by omega
    unfold readR
    rw [if_pos hgo]
    simp only [h1, h2, Int.ofNat_lt, decide_true, decide_false, cond_true, cond_false, inB_nat, inB_zero, must_true, Int.toNat_natCast, asInt_int, asBool_bool, asSl_sl, asOsl_osl, asStr_str, orcE_R, orcE_W, orcE_L, orcE_X, need_some', asTup_tup, List.getElem?_cons_zero, List.getElem?_cons_succ, Bool.not_true, Bool.not_false, Bool.true_and, Bool.and_true, Bool.false_or, ble_dec, beq_dec, List.length_cons, List.length_nil, Nat.mul_one, Nat.zero_add, Nat.add_zero, Nat.sub_zero, both_self', bytesV_length, bytesV_flat, bytesV_isU8]
theorem c37 (c : Int) (q : List Itm) (rec : List UInt8) (hq : q.length ≤ 12) (hb : ∀ x ∈ q, 0 ≤ x.b ∧ x.b ≤ 8) :
    runWE C 37 [] [.ptr 0 0, .sl rec.length (bytesV rec)] [.box 29 [.int .i64 c, .ref 1] false, .row 52 q.length (its q) false] = some (.tup (encR (rApply c q rec))) := by
  refine E37 _ _ _ _ _ ?_
  unfold T37
  simp only [c60 rec, Int.ofNat_lt, decide_true, decide_false, cond_true, cond_false, inB_nat, inB_zero, must_true, Int.toNat_natCast, asInt_int, asBool_bool, asSl_sl, asOsl_osl, asStr_str, orcE_R, orcE_W, orcE_L, orcE_X, need_some', asTup_tup, List.getElem?_cons_zero, List.getElem?_cons_succ, Bool.not_true, Bool.not_false, Bool.true_and, Bool.and_true, Bool.false_or, ble_dec, beq_dec, List.length_cons, List.length_nil, Nat.mul_one, Nat.zero_add, Nat.add_zero, Nat.sub_zero, both_self', bytesV_length, bytesV_flat, bytesV_isU8]
  unfold rApply
  by_cases h : rec.length ≠ 8 ∧ rec.length ≠ 15
  · have e : readR rec = (0, 0, 0, false) := by unfold readR; rw [if_pos h]
    simp only [e, if_pos h, Int.ofNat_lt, decide_true, decide_false, cond_true, cond_false, inB_nat, inB_zero, must_true, Int.toNat_natCast, asInt_int, asBool_bool, asSl_sl, asOsl_osl, asStr_str, orcE_R, orcE_W, orcE_L, orcE_X, need_some', asTup_tup, List.getElem?_cons_zero, List.getElem?_cons_succ, Bool.not_true, Bool.not_false, Bool.true_and, Bool.and_true, Bool.false_or, ble_dec, beq_dec, List.length_cons, List.length_nil, Nat.mul_one, Nat.zero_add, Nat.add_zero, Nat.sub_zero, both_self', bytesV_length, bytesV_flat, bytesV_isU8, its_flat, encR]
  · have e : readR rec = (((rec.headD 0).toNat : Int), numOf ((rec.drop 1).take 7), numOf (rec.drop 8),
      decide ((recOf ((rec.headD 0).toNat : Int) (numOf ((rec.drop 1).take 7)) (numOf (rec.drop 8))).1 = 0) && decide ((recOf ((rec.headD 0).toNat : Int) (numOf ((rec.drop 1).take 7)) (numOf (rec.drop 8))).2 = rec)) := by unfold readR; rw [if_neg h]
    simp only [e, if_neg h]
    by_cases h1 : (recOf ((rec.headD 0).toNat : Int) (numOf ((rec.drop 1).take 7)) (numOf (rec.drop 8))).1 = 0
    · by_cases h2 : (recOf ((rec.headD 0).toNat : Int) (numOf ((rec.drop 1).take 7)) (numOf (rec.drop 8))).2 = rec
      · by_cases h3 : ((rec.headD 0).toNat : Int) = 1
        · have h3b : (((rec.headD 0).toNat : Int) == 1) = true := by rw [h3]; rfl
          simp only [h1, Int.ofNat_lt, decide_true, decide_false, cond_true, cond_false, inB_nat, inB_zero, must_true, Int.toNat_natCast, asInt_int, asBool_bool, asSl_sl, asOsl_osl, asStr_str, orcE_R, orcE_W, orcE_L, orcE_X, need_some', asTup_tup, List.getElem?_cons_zero, List.getElem?_cons_succ, Bool.not_true, Bool.not_false, Bool.true_and, Bool.and_true, Bool.false_or, ble_dec, beq_dec, List.length_cons, List.length_nil, Nat.mul_one, Nat.zero_add, Nat.add_zero, Nat.sub_zero, both_self', bytesV_length, bytesV_flat, bytesV_isU8, h2, h3b, if_pos h3, c61 c _ q hq, encR, its_flat, ne_eq, not_true, if_false, Bool.and_self]
        · by_cases h4 : ((rec.headD 0).toNat : Int) = 2
          · have h4b : (((rec.headD 0).toNat : Int) == 2) = true := by rw [h4]; rfl
            simp only [h1, Int.ofNat_lt, decide_true, decide_false, cond_true, cond_false, inB_nat, inB_zero, must_true, Int.toNat_natCast, asInt_int, asBool_bool, asSl_sl, asOsl_osl, asStr_str, orcE_R, orcE_W, orcE_L, orcE_X, need_some', asTup_tup, List.getElem?_cons_zero, List.getElem?_cons_succ, Bool.not_true, Bool.not_false, Bool.true_and, Bool.and_true, Bool.false_or, ble_dec, beq_dec, List.length_cons, List.length_nil, Nat.mul_one, Nat.zero_add, Nat.add_zero, Nat.sub_zero, both_self', bytesV_length, bytesV_flat, bytesV_isU8, h2, beq_f h3, if_neg h3, h4b, if_pos h4, c62 c _ _ q hq hb, encR, its_flat, ne_eq, not_true, if_false, Bool.and_self]
          · simp only [h1, Int.ofNat_lt, decide_true, decide_false, cond_true, cond_false, inB_nat, inB_zero, must_true, Int.toNat_natCast, asInt_int, asBool_bool, asSl_sl, asOsl_osl, asStr_str, orcE_R, orcE_W, orcE_L, orcE_X, need_some', asTup_tup, List.getElem?_cons_zero, List.getElem?_cons_succ, Bool.not_true, Bool.not_false, Bool.true_and, Bool.and_true, Bool.false_or, ble_dec, beq_dec, List.length_cons, List.length_nil, Nat.mul_one, Nat.zero_add, Nat.add_zero, Nat.sub_zero, both_self', bytesV_length, bytesV_flat, bytesV_isU8, h2, beq_f h3, if_neg h3, beq_f h4, if_neg h4, c63 c _ q hq, encR, its_flat, ne_eq, not_true, if_false, Bool.and_self]
      · simp only [h1, Int.ofNat_lt, decide_true, decide_false, cond_true, cond_false, inB_nat, inB_zero, must_true, Int.toNat_natCast, asInt_int, asBool_bool, asSl_sl, asOsl_osl, asStr_str, orcE_R, orcE_W, orcE_L, orcE_X, need_some', asTup_tup, List.getElem?_cons_zero, List.getElem?_cons_succ, Bool.not_true, Bool.not_false, Bool.true_and, Bool.and_true, Bool.false_or, ble_dec, beq_dec, List.length_cons, List.length_nil, Nat.mul_one, Nat.zero_add, Nat.add_zero, Nat.sub_zero, both_self', bytesV_length, bytesV_flat, bytesV_isU8, h2, ne_eq, not_true, if_true, if_false, not_false_eq_true, encR, Bool.and_false, its_flat]
    · simp only [h1, Int.ofNat_lt, decide_true, decide_false, cond_true, cond_false, inB_nat, inB_zero, must_true, Int.toNat_natCast, asInt_int, asBool_bool, asSl_sl, asOsl_osl, asStr_str, orcE_R, orcE_W, orcE_L, orcE_X, need_some', asTup_tup, List.getElem?_cons_zero, List.getElem?_cons_succ, Bool.not_true, Bool.not_false, Bool.true_and, Bool.and_true, Bool.false_or, ble_dec, beq_dec, List.length_cons, List.length_nil, Nat.mul_one, Nat.zero_add, Nat.add_zero, Nat.sub_zero, both_self', bytesV_length, bytesV_flat, bytesV_isU8, ne_eq, not_false_eq_true, if_true, encR, Bool.false_and, its_flat]
theorem c36 (c : Int) (q : List Itm) (rec : List UInt8) (hq : q.length ≤ 12) (hb : ∀ x ∈ q, 0 ≤ x.b ∧ x.b ≤ 8) :
    runWE C 36 [] [.ptr 0 0, .pin [.sl rec.length (bytesV rec)] 0] [.box 29 [.int .i64 c, .ref 1] false, .row 52 q.length (its q) false] = some (.tup (encR (rApply c q rec))) := by
  refine E36 _ _ _ _ _ ?_
  unfold T36
  simp only [Int.ofNat_lt, decide_true, decide_false, cond_true, cond_false, inB_nat, inB_zero, must_true, Int.toNat_natCast, asInt_int, asBool_bool, asSl_sl, asOsl_osl, asStr_str, orcE_R, orcE_W, orcE_L, orcE_X, need_some', asTup_tup, List.getElem?_cons_zero, List.getElem?_cons_succ, Bool.not_true, Bool.not_false, Bool.true_and, Bool.and_true, Bool.false_or, ble_dec, beq_dec, List.length_cons, List.length_nil, Nat.mul_one, Nat.zero_add, Nat.add_zero, Nat.sub_zero, both_self', bytesV_length, bytesV_flat, bytesV_isU8, c37 c q rec hq hb, encR, its_flat]
/-- What both forms of ApplyRecord come to, cell by cell. -/
theorem c35 (c : Int) (q : List Itm) (rec : List UInt8) (hq : q.length ≤ 1000000000) :
    runE C 35 [.agg [.int .i64 c, .sl q.length (its q)], .fn 36 [.pin [.sl rec.length (bytesV rec)] 0]] = some (.tup (encR (applied c q rec))) := by
  refine E35 _ _ _ _ _ ?_
  unfold T35
  simp only [Int.ofNat_lt, decide_true, decide_false, cond_true, cond_false, inB_nat, inB_zero, must_true, Int.toNat_natCast, asInt_int, asBool_bool, asSl_sl, asOsl_osl, asStr_str, orcE_R, orcE_W, orcE_L, orcE_X, need_some', asTup_tup, List.getElem?_cons_zero, List.getElem?_cons_succ, Bool.not_true, Bool.not_false, Bool.true_and, Bool.and_true, Bool.false_or, ble_dec, beq_dec, List.length_cons, List.length_nil, Nat.mul_one, Nat.zero_add, Nat.add_zero, Nat.sub_zero, both_self', bytesV_length, bytesV_flat, bytesV_isU8, c23 c q (by omega), c59 c q hq]
  unfold applied
  by_cases h : fault c q = 0
  · obtain ⟨h1, h2⟩ := fault_ok h
    have hn : ¬ (fault c q ≠ 0) := fun k => k h
    rw [if_neg hn]
    simp only [h, bne_f, Int.ofNat_lt, decide_true, decide_false, cond_true, cond_false, inB_nat, inB_zero, must_true, Int.toNat_natCast, asInt_int, asBool_bool, asSl_sl, asOsl_osl, asStr_str, orcE_R, orcE_W, orcE_L, orcE_X, need_some', asTup_tup, List.getElem?_cons_zero, List.getElem?_cons_succ, Bool.not_true, Bool.not_false, Bool.true_and, Bool.and_true, Bool.false_or, ble_dec, beq_dec, List.length_cons, List.length_nil, Nat.mul_one, Nat.zero_add, Nat.add_zero, Nat.sub_zero, both_self', bytesV_length, bytesV_flat, bytesV_isU8, c36 c q rec h1 h2, encR]
    by_cases h3 : (rApply c q rec).1 = 0
    · simp only [h3, bne_f, Int.ofNat_lt, decide_true, decide_false, cond_true, cond_false, inB_nat, inB_zero, must_true, Int.toNat_natCast, asInt_int, asBool_bool, asSl_sl, asOsl_osl, asStr_str, orcE_R, orcE_W, orcE_L, orcE_X, need_some', asTup_tup, List.getElem?_cons_zero, List.getElem?_cons_succ, Bool.not_true, Bool.not_false, Bool.true_and, Bool.and_true, Bool.false_or, ble_dec, beq_dec, List.length_cons, List.length_nil, Nat.mul_one, Nat.zero_add, Nat.add_zero, Nat.sub_zero, both_self', bytesV_length, bytesV_flat, bytesV_isU8, its_flat, ne_eq, not_true, if_false]
    · simp only [h3, bne_t h3, Int.ofNat_lt, decide_true, decide_false, cond_true, cond_false, inB_nat, inB_zero, must_true, Int.toNat_natCast, asInt_int, asBool_bool, asSl_sl, asOsl_osl, asStr_str, orcE_R, orcE_W, orcE_L, orcE_X, need_some', asTup_tup, List.getElem?_cons_zero, List.getElem?_cons_succ, Bool.not_true, Bool.not_false, Bool.true_and, Bool.and_true, Bool.false_or, ble_dec, beq_dec, List.length_cons, List.length_nil, Nat.mul_one, Nat.zero_add, Nat.add_zero, Nat.sub_zero, both_self', bytesV_length, bytesV_flat, bytesV_isU8, ne_eq, not_false_eq_true, if_true, its_nil]
  · simp only [h, bne_t h, Int.ofNat_lt, decide_true, decide_false, cond_true, cond_false, inB_nat, inB_zero, must_true, Int.toNat_natCast, asInt_int, asBool_bool, asSl_sl, asOsl_osl, asStr_str, orcE_R, orcE_W, orcE_L, orcE_X, need_some', asTup_tup, List.getElem?_cons_zero, List.getElem?_cons_succ, Bool.not_true, Bool.not_false, Bool.true_and, Bool.and_true, Bool.false_or, ble_dec, beq_dec, List.length_cons, List.length_nil, Nat.mul_one, Nat.zero_add, Nat.add_zero, Nat.sub_zero, both_self', bytesV_length, bytesV_flat, bytesV_isU8, ne_eq, not_false_eq_true, if_true, its_nil, encR]
theorem c10 (c : Int) (q : List Itm) (rec : List UInt8) (hq : q.length ≤ 1000000000) :
    runE C 10 [.agg [.int .i64 c, .sl q.length (its q)], .sl rec.length (bytesV rec)] = some (.tup (encR (applied c q rec))) := by
  refine E10 _ _ _ _ _ ?_
  unfold T10
  simp only [Int.ofNat_lt, decide_true, decide_false, cond_true, cond_false, inB_nat, inB_zero, must_true, Int.toNat_natCast, asInt_int, asBool_bool, asSl_sl, asOsl_osl, asStr_str, orcE_R, orcE_W, orcE_L, orcE_X, need_some', asTup_tup, List.getElem?_cons_zero, List.getElem?_cons_succ, Bool.not_true, Bool.not_false, Bool.true_and, Bool.and_true, Bool.false_or, ble_dec, beq_dec, List.length_cons, List.length_nil, Nat.mul_one, Nat.zero_add, Nat.add_zero, Nat.sub_zero, both_self', bytesV_length, bytesV_flat, bytesV_isU8, c35 c q rec hq, encR, its_flat]
theorem c7 (c : Int) (q : List Itm) (rec : List UInt8) (hq : q.length ≤ 1000000000) :
    runE C 7 [.agg [.int .i64 c, .sl q.length (its q)], .sl rec.length (bytesV rec)] = some (.tup [.int .i64 (applied c q rec).1, .int .i64 (applied c q rec).2.1, .sl (applied c q rec).2.2.length (its (applied c q rec).2.2)]) := by
  refine E7 _ _ _ _ _ ?_
  unfold T7
  simp only [Int.ofNat_lt, decide_true, decide_false, cond_true, cond_false, inB_nat, inB_zero, must_true, Int.toNat_natCast, asInt_int, asBool_bool, asSl_sl, asOsl_osl, asStr_str, orcE_R, orcE_W, orcE_L, orcE_X, need_some', asTup_tup, List.getElem?_cons_zero, List.getElem?_cons_succ, Bool.not_true, Bool.not_false, Bool.true_and, Bool.and_true, Bool.false_or, ble_dec, beq_dec, List.length_cons, List.length_nil, Nat.mul_one, Nat.zero_add, Nat.add_zero, Nat.sub_zero, both_self', bytesV_length, bytesV_flat, bytesV_isU8, c30 c q (by omega), c31 c q hq]
  unfold applied
  by_cases h : fault c q = 0
  · obtain ⟨h1, h2⟩ := fault_ok h
    have hn : ¬ (fault c q ≠ 0) := fun k => k h
    rw [if_neg hn]
    simp only [h, bne_f, Int.ofNat_lt, decide_true, decide_false, cond_true, cond_false, inB_nat, inB_zero, must_true, Int.toNat_natCast, asInt_int, asBool_bool, asSl_sl, asOsl_osl, asStr_str, orcE_R, orcE_W, orcE_L, orcE_X, need_some', asTup_tup, List.getElem?_cons_zero, List.getElem?_cons_succ, Bool.not_true, Bool.not_false, Bool.true_and, Bool.and_true, Bool.false_or, ble_dec, beq_dec, List.length_cons, List.length_nil, Nat.mul_one, Nat.zero_add, Nat.add_zero, Nat.sub_zero, both_self', bytesV_length, bytesV_flat, bytesV_isU8, c32 c q rec h1 h2, encR, c33]
    by_cases h3 : (rApply c q rec).1 = 0
    · simp only [h3, bne_f, Int.ofNat_lt, decide_true, decide_false, cond_true, cond_false, inB_nat, inB_zero, must_true, Int.toNat_natCast, asInt_int, asBool_bool, asSl_sl, asOsl_osl, asStr_str, orcE_R, orcE_W, orcE_L, orcE_X, need_some', asTup_tup, List.getElem?_cons_zero, List.getElem?_cons_succ, Bool.not_true, Bool.not_false, Bool.true_and, Bool.and_true, Bool.false_or, ble_dec, beq_dec, List.length_cons, List.length_nil, Nat.mul_one, Nat.zero_add, Nat.add_zero, Nat.sub_zero, both_self', bytesV_length, bytesV_flat, bytesV_isU8, its_flat, ne_eq, not_true, if_false, if_true]
    · simp only [h3, bne_t h3, Int.ofNat_lt, decide_true, decide_false, cond_true, cond_false, inB_nat, inB_zero, must_true, Int.toNat_natCast, asInt_int, asBool_bool, asSl_sl, asOsl_osl, asStr_str, orcE_R, orcE_W, orcE_L, orcE_X, need_some', asTup_tup, List.getElem?_cons_zero, List.getElem?_cons_succ, Bool.not_true, Bool.not_false, Bool.true_and, Bool.and_true, Bool.false_or, ble_dec, beq_dec, List.length_cons, List.length_nil, Nat.mul_one, Nat.zero_add, Nat.add_zero, Nat.sub_zero, both_self', bytesV_length, bytesV_flat, bytesV_isU8, ne_eq, not_false_eq_true, if_true, if_false, its_nil]
  · simp only [h, bne_t h, Int.ofNat_lt, decide_true, decide_false, cond_true, cond_false, inB_nat, inB_zero, must_true, Int.toNat_natCast, asInt_int, asBool_bool, asSl_sl, asOsl_osl, asStr_str, orcE_R, orcE_W, orcE_L, orcE_X, need_some', asTup_tup, List.getElem?_cons_zero, List.getElem?_cons_succ, Bool.not_true, Bool.not_false, Bool.true_and, Bool.and_true, Bool.false_or, ble_dec, beq_dec, List.length_cons, List.length_nil, Nat.mul_one, Nat.zero_add, Nat.add_zero, Nat.sub_zero, both_self', bytesV_length, bytesV_flat, bytesV_isU8, ne_eq, not_false_eq_true, if_true, its_nil]
/-- What is told is no longer than what came in, but for one. -/
theorem applied_len (c : Int) (q : List Itm) (rec : List UInt8) : (applied c q rec).2.2.length ≤ q.length + 1 := by
  have h1 : ∀ c q n, (rScan c q n).2.2.length ≤ q.length + 1 := by
    intro c q n; unfold rScan; repeat' split
    all_goals simp
  have h2 : ∀ c q n w, (try' c q n w).2.2.length ≤ q.length + 1 := by
    intro c q n w; unfold try'; repeat' split
    all_goals simp
  have h3 : ∀ c q n, (rSettle c q n).2.2.length ≤ q.length + 1 := by
    intro c q n; unfold rSettle; split
    · simp
    · simp; omega
  unfold applied
  split
  · simp
  · split
    · simp
    · unfold rApply
      split
      · simp
      · dsimp only
        split
        · simp
        · split
          · simp
          · split
            · exact h1 _ _ _
            · split
              · exact h2 _ _ _ _
              · exact h3 _ _ _
theorem c3 (c : Int) (q : List Itm) (rec : List UInt8) (hq : q.length ≤ 9223372036854775807) : runE C 3 [.agg [.int .i64 c, .sl q.length (its q)], .sl rec.length (bytesV rec)] = some (.tup [.bool true]) := by
  refine E3 _ _ _ _ _ ?_
  unfold T3
  by_cases h1 : (rec.length : Int) > 1048576
  · simp [h1]
  have hsz := c6 c q.length (its q) 1048576 hq (by decide) (by decide)
  by_cases h2 : (1048576 : Int) < (q.length : Int)
  · rw [if_pos h2] at hsz
    simp [h1, hsz]
  · rw [if_neg h2] at hsz
    have h3 : ¬ ((1048576 : Int) - (q.length : Int) < 0) := by omega
    have hql : q.length ≤ 1000000000 := by omega
    have hrl : rec.length ≤ 1000000000 := by omega
    have hal := applied_len c q rec
    obtain ⟨l', hl', hm⟩ := c15 rec (1 + 3 * q.length) (by omega) (by omega) (by omega)
    have hn1 : ¬ (1 + 3 * (q.length : Int) + (rec.length : Int) < 0) := by omega
    have hn2 : ¬ (1 + 3 * ((applied c q rec).2.2.length : Int) < 0) := by omega
    simp only [h1, hsz, h3, Int.ofNat_lt, decide_true, decide_false, cond_true, cond_false, inB_nat, inB_zero, must_true, Int.toNat_natCast, asInt_int, asBool_bool, asSl_sl, asOsl_osl, asStr_str, orcE_R, orcE_W, orcE_L, orcE_X, need_some', asTup_tup, List.getElem?_cons_zero, List.getElem?_cons_succ, Bool.not_true, Bool.not_false, Bool.true_and, Bool.and_true, Bool.false_or, ble_dec, beq_dec, List.length_cons, List.length_nil, Nat.mul_one, Nat.zero_add, Nat.add_zero, Nat.sub_zero, both_self', bytesV_length, bytesV_flat, bytesV_isU8, c8 c q hql, c9 rec (by omega), c7 c q rec hql, c10 c q rec hql, encR,
      c11 _ _ _ _ (applied c q rec).2.2 (applied c q rec).2.2 (by omega), and_self, c12 _ _ q q (by omega), c13 rec rec (by omega),
      c14 c q 1 (by omega) (by omega) (by omega), hm, hn1, c16 _ _ (applied c q rec).2.2 1 (by omega) (by omega) (by omega),
      c17 _ _ (applied c q rec).2.2 1 (by omega) (by omega) (by omega), hn2, bne_f]
end Go.Proofs.Ytkjjneejmjfhlaa.Rel
