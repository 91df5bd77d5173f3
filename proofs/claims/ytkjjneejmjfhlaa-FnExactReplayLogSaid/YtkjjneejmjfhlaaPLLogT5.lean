/-
  The log's functions, each by its plain word: clones, frames.
-/
import Derived.Test.YtkjjneejmjfhlaaPLSha5T5
import Derived.Test.YtkjjneejmjfhlaaPMLog
namespace Go.Proofs.Ytkjjneejmjfhlaa.Log
open Go Go.PI Go.PI.Sha Go.PI.Log Go.Proofs.Ytkjjneejmjfhlaa.Sha Eq5
set_option maxHeartbeats 1000000
set_option linter.unusedVariables false
set_option linter.unusedSimpArgs false

theorem c88 (a b : List UInt8) : runE C 88 [.sl a.length (bytesV a), .sl b.length (bytesV b)] = some (.tup [.bool (decide (a = b))]) := by
  refine E88 _ _ _ _ ?_
  unfold T88
  simp only [Int.ofNat_lt, decide_true, decide_false, cond_true, cond_false, inB_nat, inB_zero, must_true, Int.toNat_natCast, asInt_int, asBool_bool, asSl_sl, asOsl_osl, asStr_str, orcE_R, orcE_W, orcE_L, orcE_X, need_some', asTup_tup, List.getElem?_cons_zero, List.getElem?_cons_succ, Bool.not_true, Bool.not_false, Bool.true_and, Bool.and_true, Bool.false_or, ble_dec, beq_dec, List.length_cons, List.length_nil, Nat.mul_one, Nat.zero_add, Nat.add_zero, Nat.sub_zero, both_self', bytesV_length, bytesV_flat, bytesV_isU8, packB_bytesV, strEq_mk, decide_true]
theorem c90 (a : List UInt8) (h : a.length ≤ 140737488355328) : runE C 90 [.sl a.length (bytesV a)] = some (.tup [.osl a.length (bytesV a)]) := by
  refine E90 _ _ ?_
  unfold T90
  by_cases e : a.length = 0
  · have : a = [] := List.eq_nil_of_length_eq_zero e
    subst this
    exact both_self' (some (V.tup [V.osl 0 []]))
  · simp only [Int.ofNat_lt, decide_true, decide_false, cond_true, cond_false, inB_nat, inB_zero, must_true, Int.toNat_natCast, asInt_int, asBool_bool, asSl_sl, asOsl_osl, asStr_str, orcE_R, orcE_W, orcE_L, orcE_X, need_some', asTup_tup, List.getElem?_cons_zero, List.getElem?_cons_succ, Bool.not_true, Bool.not_false, Bool.true_and, Bool.and_true, Bool.false_or, ble_dec, beq_dec, List.length_cons, List.length_nil, Nat.mul_one, Nat.zero_add, Nat.add_zero, Nat.sub_zero, both_self', bytesV_length, bytesV_flat, bytesV_isU8, e, h]
theorem cat2 (ps : List (List UInt8)) (hp : ps.length ≤ 1099511627776) (h : ps.flatten.length ≤ 1099511627776) : ∀ (n i : Nat) (o : List UInt8), ps.length - i = n → i ≤ ps.length → o ++ (ps.drop i).flatten = ps.flatten →
    loopE C 46 2 [true, true, true, true, false, true] [] [(6, V.ref 0), (25, V.sl ps.length (partsV ps)), (26, V.int .i64 (ps.length : Int)), (27, V.int .i64 (i : Int))] [Ob.row 5 o.length (bytesV o) false] = some (.tup [.osl ps.flatten.length (bytesV ps.flatten)]) := by
  intro n
  induction n with
  | zero =>
    intro i o hn hi ho
    have : i = ps.length := by omega
    subst this
    rw [List.drop_length, List.flatten_nil, List.append_nil] at ho
    subst ho
    refine E46l2 _ _ _ _ _ _ ?_
    unfold T46l2
    have hl : ¬ ps.length < ps.length := by omega
    simp only [Int.ofNat_lt, decide_true, decide_false, cond_true, cond_false, inB_nat, inB_zero, must_true, Int.toNat_natCast, asInt_int, asBool_bool, asSl_sl, asOsl_osl, asStr_str, orcE_R, orcE_W, orcE_L, orcE_X, need_some', asTup_tup, List.getElem?_cons_zero, List.getElem?_cons_succ, Bool.not_true, Bool.not_false, Bool.true_and, Bool.and_true, Bool.false_or, ble_dec, beq_dec, List.length_cons, List.length_nil, Nat.mul_one, Nat.zero_add, Nat.add_zero, Nat.sub_zero, both_self', bytesV_length, bytesV_flat, bytesV_isU8, hl]
  | succ n ih =>
    intro i o hn hi ho
    have hlt : i < ps.length := by omega
    have hw := w64_succ (n := i) (by omega)
    rw [drop_eq_cons hlt, List.flatten_cons, ← List.append_assoc] at ho
    have ih := ih (i + 1) (o ++ ps[i]) (by omega) (by omega) ho
    refine E46l2 _ _ _ _ _ _ ?_
    unfold T46l2
    have d : o.length + ps[i].length ≤ 140737488355328 := by
      rw [← ho, List.length_append, List.length_append] at h; omega
    rw [List.length_append, bytesV_append] at ih
    simp only [Int.ofNat_lt, decide_true, decide_false, cond_true, cond_false, inB_nat, inB_zero, must_true, Int.toNat_natCast, asInt_int, asBool_bool, asSl_sl, asOsl_osl, asStr_str, orcE_R, orcE_W, orcE_L, orcE_X, need_some', asTup_tup, List.getElem?_cons_zero, List.getElem?_cons_succ, Bool.not_true, Bool.not_false, Bool.true_and, Bool.and_true, Bool.false_or, ble_dec, beq_dec, List.length_cons, List.length_nil, Nat.mul_one, Nat.zero_add, Nat.add_zero, Nat.sub_zero, both_self', bytesV_length, bytesV_flat, bytesV_isU8, hlt, partsV_length, partsV_get hlt, d, hw, ih]
theorem cat1 (ps : List (List UInt8)) (hp : ps.length ≤ 1099511627776) (h : ps.flatten.length ≤ 1099511627776) : ∀ (n i : Nat), ps.length - i = n → i ≤ ps.length →
    loopE C 46 0 [true, true, false, true] [] [(0, V.sl ps.length (partsV ps)), (3, V.int .i64 ((ps.take i).flatten.length : Int)), (9, V.sl ps.length (partsV ps)), (10, V.int .i64 (ps.length : Int)), (11, V.int .i64 (i : Int))] [] = some (.tup [.osl ps.flatten.length (bytesV ps.flatten)]) := by
  intro n
  induction n with
  | zero =>
    intro i hn hi
    have : i = ps.length := by omega
    subst this
    refine E46l1 _ _ _ _ _ _ _ ?_
    unfold T46l1
    have hl : ¬ ps.length < ps.length := by omega
    have c1 : (ps.flatten.length : Int) ≤ 140737488355328 := by omega
    have c2 : (ps.flatten.length : Int) ≤ 4611686018427387904 := by omega
    have := cat2 ps hp h ps.length 0 [] rfl (by omega) (by simp)
    rw [List.take_length]
    simp only [Int.ofNat_lt, decide_true, decide_false, cond_true, cond_false, inB_nat, inB_zero, must_true, Int.toNat_natCast, asInt_int, asBool_bool, asSl_sl, asOsl_osl, asStr_str, orcE_R, orcE_W, orcE_L, orcE_X, need_some', asTup_tup, List.getElem?_cons_zero, List.getElem?_cons_succ, Bool.not_true, Bool.not_false, Bool.true_and, Bool.and_true, Bool.false_or, ble_dec, beq_dec, List.length_cons, List.length_nil, Nat.mul_one, Nat.zero_add, Nat.add_zero, Nat.sub_zero, both_self', bytesV_length, bytesV_flat, bytesV_isU8, hl, Int.natCast_nonneg, Int.mul_one, c1, c2]
    exact this
  | succ n ih =>
    intro i hn hi
    have hlt : i < ps.length := by omega
    have hw := w64_succ (n := i) (by omega)
    have ih := ih (i + 1) (by omega) (by omega)
    have e : (ps.take (i + 1)).flatten.length = (ps.take i).flatten.length + ps[i].length := by
      rw [List.take_succ_eq_append_getElem hlt, List.flatten_append, List.length_append]; simp
    have hle : (ps.take (i + 1)).flatten.length ≤ ps.flatten.length := by
      conv => rhs; rw [← List.take_append_drop (i + 1) ps, List.flatten_append, List.length_append]
      omega
    have hs : IntKind.i64.wrap (((ps.take i).flatten.length : Int) + (ps[i].length : Int)) = ((ps.take (i + 1)).flatten.length : Int) := by
      rw [w64 (by omega) (by omega), e]; omega
    have hn0 : ¬ (((ps.take (i + 1)).flatten.length : Int) < 0) := by omega
    refine E46l1 _ _ _ _ _ _ _ ?_
    unfold T46l1
    simp only [Int.ofNat_lt, decide_true, decide_false, cond_true, cond_false, inB_nat, inB_zero, must_true, Int.toNat_natCast, asInt_int, asBool_bool, asSl_sl, asOsl_osl, asStr_str, orcE_R, orcE_W, orcE_L, orcE_X, need_some', asTup_tup, List.getElem?_cons_zero, List.getElem?_cons_succ, Bool.not_true, Bool.not_false, Bool.true_and, Bool.and_true, Bool.false_or, ble_dec, beq_dec, List.length_cons, List.length_nil, Nat.mul_one, Nat.zero_add, Nat.add_zero, Nat.sub_zero, both_self', bytesV_length, bytesV_flat, bytesV_isU8, hlt, partsV_length, partsV_get hlt, hs, hn0, hw, ih]
theorem c46 (ps : List (List UInt8)) (hp : ps.length ≤ 1099511627776) (h : ps.flatten.length ≤ 1099511627776) : runE C 46 [.sl ps.length (partsV ps)] = some (.tup [.osl ps.flatten.length (bytesV ps.flatten)]) := by
  refine E46 _ _ ?_
  unfold T46
  exact cat1 ps hp h ps.length 0 rfl (by omega)

/-! ### frames -/
theorem c97 (p : List UInt8) (h : p.length ≤ 1000000) : runE C 97 [.str ⟨recTag.toArray⟩, .sl 1 [.sl p.length (bytesV p)]] = some (.tup [.sl 32 (bytesV (sha (tagB p)))]) := by
  refine E97 _ _ _ ?_
  unfold T97
  have := c99 [[6], recTag, p] (by simp) (by simp [recTag]; omega)
  have e : [[6], recTag, p].flatten = tagB p := by simp [tagB]
  rw [e] at this
  have e2 : partsV [[6], recTag, p] = [V.sl 1 [V.int .u8 6], V.sl 6 (bytesV recTag), V.sl p.length (bytesV p)] := rfl
  rw [e2] at this
  show must true (must true (must true (need (runE C 99 [.sl 3 [V.sl 1 [V.int .u8 6], V.sl 6 (bytesV recTag), V.sl p.length (bytesV p)]]) _))) = _
  have this : runE C 99 [.sl 3 [V.sl 1 [V.int .u8 6], V.sl 6 (bytesV recTag), V.sl p.length (bytesV p)]] = _ := this
  rw [this]
  rfl
theorem c89 (p : List UInt8) (h : p.length ≤ 60) : runE C 89 [.sl p.length (bytesV p)] = some (.tup [.sl (frameB p).length (bytesV (frameB p))]) := by
  refine E89 _ _ ?_
  unfold T89
  have h1 := c97 p (by omega)
  have h2 := c46 [[b8 (p.length : Int)], p, (sha (tagB p)).take 4] (by simp) (by simp; omega)
  have e : [[b8 (p.length : Int)], p, (sha (tagB p)).take 4].flatten = frameB p := by simp [frameB]
  have e2 : partsV [[b8 (p.length : Int)], p, (sha (tagB p)).take 4] = [V.sl 1 [V.int .u8 ((b8 (p.length : Int)).toNat : Int)], V.sl p.length (bytesV p), V.sl 4 (bytesV ((sha (tagB p)).take 4))] := by
    simp [partsV, sha_length, bytesV]
  rw [e, e2] at h2
  have t1 : List.take 4 (List.drop 0 (bytesV (sha (tagB p)))) = bytesV ((sha (tagB p)).take 4) := by rw [List.drop_zero, bytesV_take]
  have h1' : runE C 97 [.str { data := #[(114 : UInt8), (101 : UInt8), (99 : UInt8), (111 : UInt8), (114 : UInt8), (100 : UInt8)] }, .sl 1 [.sl p.length (bytesV p)]] = _ := h1
  have h2' : runE C 46 [.sl 3 [V.sl 1 [V.int .u8 ((b8 (p.length : Int)).toNat : Int)], V.sl p.length (bytesV p), V.sl 4 (bytesV ((sha (tagB p)).take 4))]] = _ := h2
  have c4 : decide ((4 : Int) ≤ ((32 : Nat) : Int)) = true := by decide
  simp only [Int.ofNat_lt, decide_true, decide_false, cond_true, cond_false, inB_nat, inB_zero, must_true, Int.toNat_natCast, asInt_int, asBool_bool, asSl_sl, asOsl_osl, asStr_str, orcE_R, orcE_W, orcE_L, orcE_X, need_some', asTup_tup, List.getElem?_cons_zero, List.getElem?_cons_succ, Bool.not_true, Bool.not_false, Bool.true_and, Bool.and_true, Bool.false_or, ble_dec, beq_dec, List.length_cons, List.length_nil, Nat.mul_one, Nat.zero_add, Nat.add_zero, Nat.sub_zero, both_self', bytesV_length, bytesV_flat, bytesV_isU8, h1', t1, wrap_b8, h2', c4]
theorem c91 (p : List UInt8) (h : p.length ≤ 1000000) : runE C 91 [.str ⟨recTag.toArray⟩, .sl p.length (bytesV p)] = some (.tup [.sl 32 (bytesV (sha (tagB p)))]) := by
  refine E91 _ _ _ ?_
  unfold T91
  have h1 := c98 (tagB p) (by simp [tagB, recTag]; omega)
  have hl : (tagB p).length = 7 + p.length := by simp [tagB, recTag]; omega
  rw [hl] at h1
  have e : bytesV (tagB p) = V.int .u8 6 :: (bytesV recTag ++ bytesV p) := by rw [tagB, bytesV_cons, bytesV_append]; rfl
  rw [e] at h1
  have d1 : (1 + 6 + p.length) ≤ 140737488355328 := by omega
  have d2 : 1 + 6 + p.length = 7 + p.length := by omega
  show must true (must true (must true (must (decide ((bytesV p).length = p.length * 1)) (must (true && (1 + 6 + p.length).ble 140737488355328 && ((1 + 6 + p.length) * 1).ble 140737488355328) (need (runE C 98 [V.sl (1 + 6 + p.length) (V.int .u8 6 :: (bytesV recTag ++ bytesV p))]) _))))) = _
  simp only [Int.ofNat_lt, decide_true, decide_false, cond_true, cond_false, inB_nat, inB_zero, must_true, Int.toNat_natCast, asInt_int, asBool_bool, asSl_sl, asOsl_osl, asStr_str, orcE_R, orcE_W, orcE_L, orcE_X, need_some', asTup_tup, List.getElem?_cons_zero, List.getElem?_cons_succ, Bool.not_true, Bool.not_false, Bool.true_and, Bool.and_true, Bool.false_or, ble_dec, beq_dec, List.length_cons, List.length_nil, Nat.mul_one, Nat.zero_add, Nat.add_zero, Nat.sub_zero, both_self', bytesV_length, bytesV_flat, bytesV_isU8, d1]
  rw [d2, h1]
  rfl
theorem c73 (p : List UInt8) (h : p.length ≤ 60) : runE C 73 [.sl p.length (bytesV p)] = some (.tup [.sl (frameB p).length (bytesV (frameB p))]) := by
  refine E73 _ _ ?_
  unfold T73
  have h1 := c91 p (by omega)
  have h1' : runE C 91 [.str { data := #[(114 : UInt8), (101 : UInt8), (99 : UInt8), (111 : UInt8), (114 : UInt8), (100 : UInt8)] }, .sl p.length (bytesV p)] = _ := h1
  have t1 : List.take 4 (List.drop 0 (bytesV (sha (tagB p)))) = bytesV ((sha (tagB p)).take 4) := by rw [List.drop_zero, bytesV_take]
  have t2 : (bytesV ((sha (tagB p)).take 4)).length = 4 := by rw [bytesV_length, List.length_take, sha_length]; rfl
  have c4 : decide ((4 : Int) ≤ ((32 : Nat) : Int)) = true := by decide
  have d1 : 1 + p.length ≤ 140737488355328 := by omega
  have d2 : 1 + p.length + 4 ≤ 140737488355328 := by omega
  have e : bytesV (frameB p) = V.int .u8 ((b8 (p.length : Int)).toNat : Int) :: (bytesV p ++ bytesV ((sha (tagB p)).take 4)) := by rw [frameB, bytesV_cons, bytesV_append]
  have e2 : 1 + p.length + 4 = (frameB p).length := by rw [frameB_length]; omega
  simp only [Int.ofNat_lt, decide_true, decide_false, cond_true, cond_false, inB_nat, inB_zero, must_true, Int.toNat_natCast, asInt_int, asBool_bool, asSl_sl, asOsl_osl, asStr_str, orcE_R, orcE_W, orcE_L, orcE_X, need_some', asTup_tup, List.getElem?_cons_zero, List.getElem?_cons_succ, Bool.not_true, Bool.not_false, Bool.true_and, Bool.and_true, Bool.false_or, ble_dec, beq_dec, List.length_cons, List.length_nil, Nat.mul_one, Nat.zero_add, Nat.add_zero, Nat.sub_zero, both_self', bytesV_length, bytesV_flat, bytesV_isU8, h1', t1, t2, c4, d1, d2, wrap_b8]
  rw [e, e2]
  rfl
end Go.Proofs.Ytkjjneejmjfhlaa.Log
