/-
  The log's functions: the records that the specification reads; the records of a log.
-/
import Derived.Test.YtkjjneejmjfhlaaPLLog2T5
import Derived.Test.YtkjjneejmjfhlaaPLRelay3T5
namespace Go.Proofs.Ytkjjneejmjfhlaa.Log
open Go Go.PI Go.PI.Sha Go.PI.Log Go.Proofs.Ytkjjneejmjfhlaa.Sha Eq5
set_option maxHeartbeats 1000000
set_option linter.unusedVariables false
set_option linter.unusedSimpArgs false

theorem rd49 (d : List UInt8) (hd : d.length ≤ 1000000) : ∀ (f i : Nat) (o : List (List UInt8)), d.length ≤ i + f → i ≤ d.length → o.length ≤ i →
    loopE C 49 0 [true, true, true, false] [] [(0, V.sl d.length (bytesV d)), (2, V.ptr 0 0), (3, V.ptr 2 0), (4, V.int .i64 (i : Int))] [Ob.box 49 [V.int .i64 0, V.int .i64 0, V.ref 1] false, Ob.row 25 0 [] false, Ob.box 49 [V.int .i64 0, V.int .i64 0, V.ref 3] false, Ob.row 25 o.length (partsV o) false]
      = some (.tup [.int .i64 0, .int .i64 ((readR f i d o).2 : Int), .sl (readR f i d o).1.length (partsV (readR f i d o).1)]) := by
  intro f
  induction f with
  | zero =>
    intro i o h hi ho
    have : i = d.length := by omega
    subst this
    refine E49l1 _ _ _ _ _ _ _ _ _ _ _ ?_
    unfold T49l1
    have hl : ¬ d.length < d.length := by omega
    simp only [Int.ofNat_lt, decide_true, decide_false, cond_true, cond_false, inB_nat, inB_zero, must_true, Int.toNat_natCast, asInt_int, asBool_bool, asSl_sl, asOsl_osl, asStr_str, orcE_R, orcE_W, orcE_L, orcE_X, need_some', asTup_tup, List.getElem?_cons_zero, List.getElem?_cons_succ, Bool.not_true, Bool.not_false, Bool.true_and, Bool.and_true, Bool.false_or, ble_dec, beq_dec, List.length_cons, List.length_nil, Nat.mul_one, Nat.zero_add, Nat.add_zero, Nat.sub_zero, both_self', bytesV_length, bytesV_flat, bytesV_isU8, hl, readR]
  | succ f ih =>
    intro i o h hi ho
    refine E49l1 _ _ _ _ _ _ _ _ _ _ _ ?_
    unfold T49l1
    by_cases hlt : i < d.length
    · have hb := d[i].toNat_lt
      have e1 : IntKind.i64.wrap ((i : Int) + 1) = ((i + 1 : Nat) : Int) := w64_succ (by omega)
      have e2 : IntKind.i64.wrap (((i + 1 : Nat) : Int) + ((d[i].toNat : Nat) : Int)) = ((i + 1 + d[i].toNat : Nat) : Int) := w64_k (i + 1 + d[i].toNat) (by omega) (by omega)
      have e3 : IntKind.i64.wrap ((i : Int) + ((d[i].toNat : Nat) : Int)) = ((i + d[i].toNat : Nat) : Int) := w64_k (i + d[i].toNat) (by omega) (by omega)
      have e4 : IntKind.i64.wrap (((i + d[i].toNat : Nat) : Int) + 5) = ((i + d[i].toNat + 5 : Nat) : Int) := w64_k (i + d[i].toNat + 5) (by omega) (by omega)
      simp only [Int.ofNat_lt, decide_true, decide_false, cond_true, cond_false, inB_nat, inB_zero, must_true, Int.toNat_natCast, asInt_int, asBool_bool, asSl_sl, asOsl_osl, asStr_str, orcE_R, orcE_W, orcE_L, orcE_X, need_some', asTup_tup, List.getElem?_cons_zero, List.getElem?_cons_succ, Bool.not_true, Bool.not_false, Bool.true_and, Bool.and_true, Bool.false_or, ble_dec, beq_dec, List.length_cons, List.length_nil, Nat.mul_one, Nat.zero_add, Nat.add_zero, Nat.sub_zero, both_self', bytesV_length, bytesV_flat, bytesV_isU8, hlt, bytesV_get hlt, w64_b, e1, e2, e3, e4]
      rw [readR, if_pos hlt]
      by_cases h0 : d[i].toNat = 0
      · have hga : goodAt d i = none := by
          unfold goodAt
          dsimp only
          rw [getD_at hlt, if_pos (by omega)]
        rw [hga, h0]
        rfl
      by_cases h1 : 60 < d[i].toNat
      · have hga : goodAt d i = none := by
          unfold goodAt
          dsimp only
          rw [getD_at hlt, if_pos (by omega)]
        have n0 : (((d[i].toNat : Nat) : Int) == 0) = false := by simpa using h0
        have n1 : ((d[i].toNat : Nat) : Int) > 60 := by omega
        rw [hga]
        simp only [n0, n1, decide_true, cond_true, cond_false]
      have n0 : (((d[i].toNat : Nat) : Int) == 0) = false := by simpa using h0
      have n1 : ¬ ((d[i].toNat : Nat) : Int) > 60 := by omega
      by_cases h2 : i + d[i].toNat + 5 ≤ d.length
      · have hp : ((d.drop (i + 1)).take d[i].toNat).length = d[i].toNat := cut_length (by omega)
        generalize hpd : (d.drop (i + 1)).take d[i].toNat = p at hp
        have hq : ((d.drop i).take (d[i].toNat + 5)).length = d[i].toNat + 5 := cut_length (by omega)
        have k1 : i + 1 + d[i].toNat - (i + 1) = d[i].toNat := by omega
        have k2 : i + d[i].toNat + 5 - i = d[i].toNat + 5 := by omega
        have t1 : List.take d[i].toNat (List.drop (i + 1) (bytesV d)) = bytesV p := by rw [bytesV_drop, bytesV_take, hpd]
        have t2 : List.take (d[i].toNat + 5) (List.drop i (bytesV d)) = bytesV ((d.drop i).take (d[i].toNat + 5)) := by rw [bytesV_drop, bytesV_take]
        have c1 := c73 p (by omega)
        have c2 := Go.Proofs.Ytkjjneejmjfhlaa.Rel.c54 (frameB p) ((d.drop i).take (d[i].toNat + 5)) (by rw [frameB_length]; omega)
        rw [hp] at c1
        rw [hq] at c2
        have g1 : ¬ (d.length < i + d[i].toNat + 5) := by omega
        have g2 : i + 1 + d[i].toNat ≤ d.length := by omega
        have g3 : i + 1 ≤ i + 1 + d[i].toNat := by omega
        have g4 : i ≤ i + d[i].toNat + 5 := by omega
        have g5 : o.length + 1 ≤ 140737488355328 := by omega
        have g6 : (o.length + 1) * 24 ≤ 140737488355328 := by omega
        have g7 : d[i].toNat ≤ 140737488355328 := by omega
        have hga : goodAt d i = if frameB p = (d.drop i).take (d[i].toNat + 5) then some p else none := by
          unfold goodAt
          dsimp only
          rw [getD_at hlt, if_neg (by omega), hpd]
        rw [hga]
        simp only [n0, n1, decide_false, cond_false, gt_iff_lt, Int.ofNat_lt, g1, Int.natCast_nonneg, Int.ofNat_le, g2, g3, g4, h2, Int.toNat_natCast, k1, k2, t1, t2, Int.ofNat_lt, decide_true, decide_false, cond_true, cond_false, inB_nat, inB_zero, must_true, Int.toNat_natCast, asInt_int, asBool_bool, asSl_sl, asOsl_osl, asStr_str, orcE_R, orcE_W, orcE_L, orcE_X, need_some', asTup_tup, List.getElem?_cons_zero, List.getElem?_cons_succ, Bool.not_true, Bool.not_false, Bool.true_and, Bool.and_true, Bool.false_or, ble_dec, beq_dec, List.length_cons, List.length_nil, Nat.mul_one, Nat.zero_add, Nat.add_zero, Nat.sub_zero, both_self', bytesV_length, bytesV_flat, bytesV_isU8, c1, c2]
        by_cases he : frameB p = (d.drop i).take (d[i].toNat + 5)
        · have ih := ih (i + p.length + 5) (o ++ [p]) (by omega) (by omega) (by rw [List.length_append, List.length_singleton]; omega)
          have ea : partsV (o ++ [p]) = partsV o ++ [V.sl p.length (bytesV p)] := by simp [partsV]
          rw [ea, List.length_append, List.length_singleton, hp] at ih
          rw [if_pos he]
          simp only [he, decide_true, Bool.not_true, cond_false, Int.ofNat_lt, decide_true, decide_false, cond_true, cond_false, inB_nat, inB_zero, must_true, Int.toNat_natCast, asInt_int, asBool_bool, asSl_sl, asOsl_osl, asStr_str, orcE_R, orcE_W, orcE_L, orcE_X, need_some', asTup_tup, List.getElem?_cons_zero, List.getElem?_cons_succ, Bool.not_true, Bool.not_false, Bool.true_and, Bool.and_true, Bool.false_or, ble_dec, beq_dec, List.length_cons, List.length_nil, Nat.mul_one, Nat.zero_add, Nat.add_zero, Nat.sub_zero, both_self', bytesV_length, bytesV_flat, bytesV_isU8, g5, g6, g7, hp, ih]
        · rw [if_neg he]
          simp only [he, decide_false, Bool.not_false, cond_true]
      · have g1 : d.length < i + d[i].toNat + 5 := by omega
        have hga : goodAt d i = none := by
          unfold goodAt
          dsimp only
          rw [getD_at hlt, if_pos (by omega)]
        rw [hga]
        simp only [n0, n1, decide_false, cond_false, gt_iff_lt, Int.ofNat_lt, g1, decide_true, cond_true]
    · rw [readR, if_neg hlt]
      simp only [Int.ofNat_lt, decide_true, decide_false, cond_true, cond_false, inB_nat, inB_zero, must_true, Int.toNat_natCast, asInt_int, asBool_bool, asSl_sl, asOsl_osl, asStr_str, orcE_R, orcE_W, orcE_L, orcE_X, need_some', asTup_tup, List.getElem?_cons_zero, List.getElem?_cons_succ, Bool.not_true, Bool.not_false, Bool.true_and, Bool.and_true, Bool.false_or, ble_dec, beq_dec, List.length_cons, List.length_nil, Nat.mul_one, Nat.zero_add, Nat.add_zero, Nat.sub_zero, both_self', bytesV_length, bytesV_flat, bytesV_isU8, hlt]
theorem c49 (d : List UInt8) (hd : d.length ≤ 1000000) : runE C 49 [.sl d.length (bytesV d)] = some (.tup [.int .i64 0, .int .i64 ((recordsB d).2 : Int), .sl (recordsB d).1.length (partsV (recordsB d).1)]) := by
  refine E49 _ _ ?_
  unfold T49
  exact rd49 d hd d.length 0 [] (by omega) (by omega) (by simp)
end Go.Proofs.Ytkjjneejmjfhlaa.Log
