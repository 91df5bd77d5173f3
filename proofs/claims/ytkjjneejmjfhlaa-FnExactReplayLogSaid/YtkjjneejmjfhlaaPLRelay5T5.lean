/-
  The relayer's functions, each by its plain word: a record applied.
-/
import Derived.Test.YtkjjneejmjfhlaaPLRelay4T5
namespace Go.Proofs.Ytkjjneejmjfhlaa.Rel
open Go Go.PI Go.PI.Rel Eq5
set_option maxHeartbeats 1000000
set_option linter.unusedVariables false
set_option linter.unusedSectionVars false
set_option linter.unusedSimpArgs false

section
variable (rec : List UInt8) (h : rec.length = 8 ∨ rec.length = 15)
include h
theorem rec_head : (bytesV rec)[0]? = some (.int .u8 ((rec.headD 0).toNat : Int)) := by
  cases rec with
  | nil => simp at h
  | cons b r => rfl
theorem rec_a : (rec.drop 1).take 7 = (rec.drop 1).take 7 ∧ ((rec.drop 1).take 7).length = 7 := ⟨rfl, by simp; omega⟩
theorem rec_b : (rec.drop 8).length = rec.length - 8 ∧ (rec.drop 8).length ≤ 7 := ⟨by simp, by simp; omega⟩
theorem rec_b2 : (List.take ((rec.length - 8) * 1) (List.drop 8 (bytesV rec))) = bytesV (rec.drop 8) := by
  rw [bytesV_drop, Nat.mul_one, List.take_of_length_le (by simp)]
theorem n_a : runE C 52 [.sl 7 (List.take 7 (List.drop 1 (bytesV rec)))] = some (.tup [.int .i64 (numOf ((rec.drop 1).take 7))]) := by
  have e := (rec_a rec h).2
  have := c52 ((rec.drop 1).take 7) (by omega)
  rw [e] at this
  rw [bytesV_drop, bytesV_take]; exact this
theorem n_b : runE C 52 [.sl (rec.length - 8) (List.take ((rec.length - 8) * 1) (List.drop 8 (bytesV rec)))] = some (.tup [.int .i64 (numOf (rec.drop 8))]) := by
  have := c52 (rec.drop 8) (rec_b rec h).2
  rw [(rec_b rec h).1] at this
  rw [rec_b2 rec h]; exact this
theorem n_b' : runE C 52 [.sl (rec.length - 8) (List.take (rec.length - 8) (List.drop 8 (bytesV rec)))] = some (.tup [.int .i64 (numOf (rec.drop 8))]) := by
  have := n_b rec h
  rwa [Nat.mul_one] at this
theorem m_a : runE C 79 [.sl 7 (List.take 7 (List.drop 1 (bytesV rec)))] = some (.tup [.int .i64 0, .int .i64 (numOf ((rec.drop 1).take 7))]) := by
  have e := (rec_a rec h).2
  have := c79 ((rec.drop 1).take 7)
  rw [e, if_pos rfl] at this
  rw [bytesV_drop, bytesV_take]; exact this
theorem m_b : ∃ k : Int, runE C 79 [.sl (rec.length - 8) (List.take ((rec.length - 8) * 1) (List.drop 8 (bytesV rec)))] = some (.tup [.int .i64 k, .int .i64 (numOf (rec.drop 8))]) := by
  have := c79 (rec.drop 8)
  rw [rec_b2 rec h, ← (rec_b rec h).1, this]
  rcases h with h | h
  · have e : rec.drop 8 = [] := List.drop_eq_nil_of_le (by omega)
    rw [e]; exact ⟨1, rfl⟩
  · rw [if_pos (by simp; omega)]; exact ⟨0, rfl⟩
end
theorem c32 (c : Int) (q : List Itm) (rec : List UInt8) (hq : q.length ≤ 12) (hb : ∀ x ∈ q, 0 ≤ x.b ∧ x.b ≤ 8) :
    runWE C 32 [] [.ptr 0 0, .sl rec.length (bytesV rec)] [.box 29 [.int .i64 c, .ref 1] false, .row 52 q.length (its q) false] = some (.tup (encR (rApply c q rec))) := by
  refine E32 _ _ _ _ _ ?_
  unfold T32
  by_cases h : rec.length = 8 ∨ rec.length = 15
  · have hr : 0 < rec.length := by omega
    have h8 : decide ((8 : Int) ≤ (rec.length : Int)) = true := decide_eq_true (by omega)
    have hgo : ¬ (rec.length ≠ 8 ∧ rec.length ≠ 15) := by omega
    have hsame : runE C 54 [.sl (recOf ((rec.headD 0).toNat : Int) (numOf ((rec.drop 1).take 7)) (numOf (rec.drop 8))).2.length (bytesV (recOf ((rec.headD 0).toNat : Int) (numOf ((rec.drop 1).take 7)) (numOf (rec.drop 8))).2), .sl rec.length (bytesV rec)] =
        some (.tup [.bool (decide ((recOf ((rec.headD 0).toNat : Int) (numOf ((rec.drop 1).take 7)) (numOf (rec.drop 8))).2 = rec))]) := c54 _ _ (by have := recOf_len ((rec.headD 0).toNat : Int) (numOf ((rec.drop 1).take 7)) (numOf (rec.drop 8)); omega)
    unfold rApply
    rw [if_neg hgo]
    have step : ∀ {X : Option V}, X = some (.tup (encR (if (recOf ((rec.headD 0).toNat : Int) (numOf ((rec.drop 1).take 7)) (numOf (rec.drop 8))).1 ≠ 0 then (5, c, q) else if (recOf ((rec.headD 0).toNat : Int) (numOf ((rec.drop 1).take 7)) (numOf (rec.drop 8))).2 ≠ rec then (5, c, q) else
        if ((rec.headD 0).toNat : Int) = 1 then rScan c q (numOf ((rec.drop 1).take 7)) else if ((rec.headD 0).toNat : Int) = 2 then try' c q (numOf ((rec.drop 1).take 7)) (numOf (rec.drop 8)) else rSettle c q (numOf ((rec.drop 1).take 7))))) →
        (bif ((rec.length : Int) != 8) then (bif ((rec.length : Int) != 15) then (some (.tup (encR (5, c, q)))) else X) else X) = some (.tup (encR (if (recOf ((rec.headD 0).toNat : Int) (numOf ((rec.drop 1).take 7)) (numOf (rec.drop 8))).1 ≠ 0 then (5, c, q) else if (recOf ((rec.headD 0).toNat : Int) (numOf ((rec.drop 1).take 7)) (numOf (rec.drop 8))).2 ≠ rec then (5, c, q) else
        if ((rec.headD 0).toNat : Int) = 1 then rScan c q (numOf ((rec.drop 1).take 7)) else if ((rec.headD 0).toNat : Int) = 2 then try' c q (numOf ((rec.drop 1).take 7)) (numOf (rec.drop 8)) else rSettle c q (numOf ((rec.drop 1).take 7))))) := by
      intro X hX
      rcases h with h | h
      · have : ((rec.length : Int) != 8) = false := by simp; omega
        rw [this]; exact hX
      · have h1 : ((rec.length : Int) != 8) = true := by simp; omega
        have h2 : ((rec.length : Int) != 15) = false := by simp; omega
        rw [h1, h2]; exact hX
    simp only [its_flat, Int.ofNat_lt, decide_true, decide_false, cond_true, cond_false, inB_nat, inB_zero, must_true, Int.toNat_natCast, asInt_int, asBool_bool, asSl_sl, asOsl_osl, asStr_str, orcE_R, orcE_W, orcE_L, orcE_X, need_some', asTup_tup, List.getElem?_cons_zero, List.getElem?_cons_succ, Bool.not_true, Bool.not_false, Bool.true_and, Bool.and_true, Bool.false_or, ble_dec, beq_dec, List.length_cons, List.length_nil, Nat.mul_one, Nat.zero_add, Nat.add_zero, Nat.sub_zero, both_self', bytesV_length, bytesV_flat, bytesV_isU8]
    refine step ?_
    simp only [rec_head rec h, hr, h8, n_a rec h, n_b rec h, n_b' rec h, w64_b, c53, Int.ofNat_lt, decide_true, decide_false, cond_true, cond_false, inB_nat, inB_zero, must_true, Int.toNat_natCast, asInt_int, asBool_bool, asSl_sl, asOsl_osl, asStr_str, orcE_R, orcE_W, orcE_L, orcE_X, need_some', asTup_tup, List.getElem?_cons_zero, List.getElem?_cons_succ, Bool.not_true, Bool.not_false, Bool.true_and, Bool.and_true, Bool.false_or, ble_dec, beq_dec, List.length_cons, List.length_nil, Nat.mul_one, Nat.zero_add, Nat.add_zero, Nat.sub_zero, both_self', bytesV_length, bytesV_flat, bytesV_isU8, hsame]
    by_cases h1 : (recOf ((rec.headD 0).toNat : Int) (numOf ((rec.drop 1).take 7)) (numOf (rec.drop 8))).1 = 0
    · by_cases h2 : (recOf ((rec.headD 0).toNat : Int) (numOf ((rec.drop 1).take 7)) (numOf (rec.drop 8))).2 = rec
      · by_cases h3 : ((rec.headD 0).toNat : Int) = 1
        · have h3b : (((rec.headD 0).toNat : Int) == 1) = true := by rw [h3]; rfl
          simp only [h1, bne_f, Int.ofNat_lt, decide_true, decide_false, cond_true, cond_false, inB_nat, inB_zero, must_true, Int.toNat_natCast, asInt_int, asBool_bool, asSl_sl, asOsl_osl, asStr_str, orcE_R, orcE_W, orcE_L, orcE_X, need_some', asTup_tup, List.getElem?_cons_zero, List.getElem?_cons_succ, Bool.not_true, Bool.not_false, Bool.true_and, Bool.and_true, Bool.false_or, ble_dec, beq_dec, List.length_cons, List.length_nil, Nat.mul_one, Nat.zero_add, Nat.add_zero, Nat.sub_zero, both_self', bytesV_length, bytesV_flat, bytesV_isU8, h2, h3b, if_pos h3, c55 c _ q hq, encR, its_flat, ne_eq, not_true, if_false]
        · by_cases h4 : ((rec.headD 0).toNat : Int) = 2
          · have h4b : (((rec.headD 0).toNat : Int) == 2) = true := by rw [h4]; rfl
            simp only [h1, bne_f, Int.ofNat_lt, decide_true, decide_false, cond_true, cond_false, inB_nat, inB_zero, must_true, Int.toNat_natCast, asInt_int, asBool_bool, asSl_sl, asOsl_osl, asStr_str, orcE_R, orcE_W, orcE_L, orcE_X, need_some', asTup_tup, List.getElem?_cons_zero, List.getElem?_cons_succ, Bool.not_true, Bool.not_false, Bool.true_and, Bool.and_true, Bool.false_or, ble_dec, beq_dec, List.length_cons, List.length_nil, Nat.mul_one, Nat.zero_add, Nat.add_zero, Nat.sub_zero, both_self', bytesV_length, bytesV_flat, bytesV_isU8, h2, beq_f h3, if_neg h3, h4b, if_pos h4, c56 c _ _ q hq hb, encR, its_flat, ne_eq, not_true, if_false]
          · simp only [h1, bne_f, Int.ofNat_lt, decide_true, decide_false, cond_true, cond_false, inB_nat, inB_zero, must_true, Int.toNat_natCast, asInt_int, asBool_bool, asSl_sl, asOsl_osl, asStr_str, orcE_R, orcE_W, orcE_L, orcE_X, need_some', asTup_tup, List.getElem?_cons_zero, List.getElem?_cons_succ, Bool.not_true, Bool.not_false, Bool.true_and, Bool.and_true, Bool.false_or, ble_dec, beq_dec, List.length_cons, List.length_nil, Nat.mul_one, Nat.zero_add, Nat.add_zero, Nat.sub_zero, both_self', bytesV_length, bytesV_flat, bytesV_isU8, h2, beq_f h3, if_neg h3, beq_f h4, if_neg h4, c57 c _ q hq, encR, its_flat, ne_eq, not_true, if_false]
      · simp only [h1, bne_f, Int.ofNat_lt, decide_true, decide_false, cond_true, cond_false, inB_nat, inB_zero, must_true, Int.toNat_natCast, asInt_int, asBool_bool, asSl_sl, asOsl_osl, asStr_str, orcE_R, orcE_W, orcE_L, orcE_X, need_some', asTup_tup, List.getElem?_cons_zero, List.getElem?_cons_succ, Bool.not_true, Bool.not_false, Bool.true_and, Bool.and_true, Bool.false_or, ble_dec, beq_dec, List.length_cons, List.length_nil, Nat.mul_one, Nat.zero_add, Nat.add_zero, Nat.sub_zero, both_self', bytesV_length, bytesV_flat, bytesV_isU8, h2, ne_eq, not_true, if_true, if_false, not_false_eq_true, encR]
    · simp only [h1, bne_t h1, Int.ofNat_lt, decide_true, decide_false, cond_true, cond_false, inB_nat, inB_zero, must_true, Int.toNat_natCast, asInt_int, asBool_bool, asSl_sl, asOsl_osl, asStr_str, orcE_R, orcE_W, orcE_L, orcE_X, need_some', asTup_tup, List.getElem?_cons_zero, List.getElem?_cons_succ, Bool.not_true, Bool.not_false, Bool.true_and, Bool.and_true, Bool.false_or, ble_dec, beq_dec, List.length_cons, List.length_nil, Nat.mul_one, Nat.zero_add, Nat.add_zero, Nat.sub_zero, both_self', bytesV_length, bytesV_flat, bytesV_isU8, ne_eq, not_false_eq_true, if_true, encR]
  · have h1 : ((rec.length : Int) != 8) = true := by simp; omega
    have h2 : ((rec.length : Int) != 15) = true := by simp; omega
    have hgo : rec.length ≠ 8 ∧ rec.length ≠ 15 := by omega
    unfold rApply
    rw [if_pos hgo]
    simp only [h1, h2, Int.ofNat_lt, decide_true, decide_false, cond_true, cond_false, inB_nat, inB_zero, must_true, Int.toNat_natCast, asInt_int, asBool_bool, asSl_sl, asOsl_osl, asStr_str, orcE_R, orcE_W, orcE_L, orcE_X, need_some', asTup_tup, List.getElem?_cons_zero, List.getElem?_cons_succ, Bool.not_true, Bool.not_false, Bool.true_and, Bool.and_true, Bool.false_or, ble_dec, beq_dec, List.length_cons, List.length_nil, Nat.mul_one, Nat.zero_add, Nat.add_zero, Nat.sub_zero, both_self', bytesV_length, bytesV_flat, bytesV_isU8, its_flat, encR]
end Go.Proofs.Ytkjjneejmjfhlaa.Rel
