/-
  Small functions that many others call.
-/
import Derived.Test.YtkjjneejmjfhlaaDoorPIEqE
import Derived.Test.YtkjjneejmjfhlaaDoorPMLedger
namespace Go.Proofs.YtkjjneejmjfhlaaDoor.Base
open Go Go.PI Go.PI.Led EqE
set_option maxHeartbeats 1000000
set_option linter.unusedVariables false
set_option linter.unusedSimpArgs false
theorem c57 (a b c : Int) : runE C 57 [.int .i64 a, .int .i64 b, .int .i64 c] = some (.tup [.bool (decide (b ≤ a ∧ a ≤ c))]) := by
  refine E57 a b c ?_
  unfold T57
  by_cases h : b ≤ a <;> simp [h]
theorem c34 (a b c : Int) : runE C 34 [.int .i64 a, .int .i64 b, .int .i64 c] = some (.tup [.bool (decide (b ≤ a ∧ a ≤ c))]) := by
  refine E34 a b c ?_
  unfold T34
  by_cases h : b ≤ a <;> simp [h]
theorem c41 (n : Int) : runE C 41 [.int .i64 n] = some (.tup [.bool (decide (1 ≤ n ∧ n ≤ 1000000))]) := by
  refine E41 _ ?_
  unfold T41
  simp only [Int.ofNat_lt, decide_true, decide_false, cond_true, cond_false, inB_nat, inB_zero, must_true, Int.toNat_natCast, asInt_int, asBool_bool, asSl_sl, asOsl_osl, asStr_str, orcE_R, orcE_W, orcE_L, orcE_X, need_some', asTup_tup, List.getElem?_cons_zero, List.getElem?_cons_succ, Bool.not_true, Bool.not_false, Bool.true_and, Bool.and_true, Bool.false_or, ble_dec, beq_dec, List.length_cons, List.length_nil, Nat.mul_one, Nat.zero_add, Nat.add_zero, Nat.sub_zero, both_self', bytesV_length, bytesV_flat, bytesV_isU8, c34]
theorem c36 (n : Int) : runE C 36 [.int .i64 n] = some (.tup [.bool (decide (isCoins n))]) := by
  refine E36 _ ?_
  unfold T36
  simp only [Int.ofNat_lt, decide_true, decide_false, cond_true, cond_false, inB_nat, inB_zero, must_true, Int.toNat_natCast, asInt_int, asBool_bool, asSl_sl, asOsl_osl, asStr_str, orcE_R, orcE_W, orcE_L, orcE_X, need_some', asTup_tup, List.getElem?_cons_zero, List.getElem?_cons_succ, Bool.not_true, Bool.not_false, Bool.true_and, Bool.and_true, Bool.false_or, ble_dec, beq_dec, List.length_cons, List.length_nil, Nat.mul_one, Nat.zero_add, Nat.add_zero, Nat.sub_zero, both_self', bytesV_length, bytesV_flat, bytesV_isU8, c34]
  rfl
theorem c40 (n : Int) : runE C 40 [.int .i64 n] = some (.tup [.bool (decide (isKind n))]) := by
  refine E40 _ ?_
  unfold T40 isKind
  have h2 : (n == 2) = decide (n = 2) := by rw [Bool.eq_iff_iff]; simp
  by_cases h : n = 1
  · simp [h]
  · rw [h2]; simp [beq_f h, h]
theorem c56 (n : Int) : runE C 56 [.int .i64 n] = some (.tup [.bool (decide (isKind n))]) := by
  refine E56 _ ?_
  unfold T56 isKind
  have h2 : (n == 2) = decide (n = 2) := by rw [Bool.eq_iff_iff]; simp
  by_cases h : n = 1
  · simp [h]
  · rw [h2]; simp [beq_f h, h]
theorem c42 (n : Nat) (cs : List V) (left : Int) (h : n ≤ 9223372036854775807) (h1 : 0 ≤ left) (h2 : left ≤ 4611686018427387904) :
    runE C 42 [.sl n cs, .int .i64 left] = some (.tup [.int .i64 (if left < n then -1 else left - n)]) := by
  refine E42 _ _ _ ?_
  unfold T42
  rw [w64 (by omega) (by omega)]
  by_cases h : left < n
  · rw [if_pos h, decide_eq_true (by omega)]; rfl
  · rw [if_neg h, decide_eq_false (by omega)]; rfl
theorem c43 (l : List Int) (hq : l.length ≤ 1000000000) : runE C 43 [.sl l.length (ints l)] = some (.tup [.osl l.length (ints l)]) := by
  have loop : ∀ n i (o : List Int), l.length - i = n → i ≤ l.length → o.length = l.length → (∀ j, j < i → o.getD j 0 = l.getD j 0) →
      loopE C 43 0 [true, true, false, true] [] [(0, V.sl l.length (ints l)), (3, V.ref 0), (4, V.int .i64 (i : Int))] [Ob.row 2 l.length (ints o) false] = some (.tup [.osl l.length (ints l)]) := by
    intro n
    induction n with
    | zero =>
      intro i o h hi ho he
      have : i = l.length := by omega
      subst this
      refine E43l1 _ _ _ _ _ ?_
      unfold T43l1
      have : o = l := List.ext_getElem ho fun j h1 h2 => by
        have := he j (by omega)
        simpa [List.getD, h1, h2] using this
      subst this
      simp [ints_flat]
    | succ n ih =>
      intro i o h hi ho he
      have hlt : i < l.length := by omega
      have hio : i < o.length := by omega
      have hw := w64_succ (n := i) (by omega)
      have ih := ih (i + 1) (o.set i l[i]) (by omega) (by omega) (by simpa using ho) (fun j hj => by
        by_cases e : j = i
        · subst e; simp [List.getD, hio, hlt]
        · have := he j (by omega)
          simpa [List.getD, List.getElem?_set, Ne.symm e] using this)
      refine E43l1 _ _ _ _ _ ?_
      unfold T43l1
      simp only [Int.ofNat_lt, decide_true, decide_false, cond_true, cond_false, inB_nat, inB_zero, must_true, Int.toNat_natCast, asInt_int, asBool_bool, asSl_sl, asOsl_osl, asStr_str, orcE_R, orcE_W, orcE_L, orcE_X, need_some', asTup_tup, List.getElem?_cons_zero, List.getElem?_cons_succ, Bool.not_true, Bool.not_false, Bool.true_and, Bool.and_true, Bool.false_or, ble_dec, beq_dec, List.length_cons, List.length_nil, Nat.mul_one, Nat.zero_add, Nat.add_zero, Nat.sub_zero, both_self', bytesV_length, bytesV_flat, bytesV_isU8, hlt, ints_get hlt, ints_set hio, hw, ints_length, ho, ih]
      simp only [show i + (0 + 1) ≤ l.length by omega, Int.ofNat_lt, decide_true, decide_false, cond_true, cond_false, inB_nat, inB_zero, must_true, Int.toNat_natCast, asInt_int, asBool_bool, asSl_sl, asOsl_osl, asStr_str, orcE_R, orcE_W, orcE_L, orcE_X, need_some', asTup_tup, List.getElem?_cons_zero, List.getElem?_cons_succ, Bool.not_true, Bool.not_false, Bool.true_and, Bool.and_true, Bool.false_or, ble_dec, beq_dec, List.length_cons, List.length_nil, Nat.mul_one, Nat.zero_add, Nat.add_zero, Nat.sub_zero, both_self', bytesV_length, bytesV_flat, bytesV_isU8]
  refine E43 _ _ ?_
  unfold T43
  have := loop l.length 0 (List.replicate l.length 0) (by omega) (by omega) (by simp) (fun j hj => by omega)
  have e1 : ((l.length : Int) ≤ 140737488355328) := by omega
  have e2 : ((l.length : Int) * 8 ≤ 140737488355328) := by omega
  simp only [Int.ofNat_lt, decide_true, decide_false, cond_true, cond_false, inB_nat, inB_zero, must_true, Int.toNat_natCast, asInt_int, asBool_bool, asSl_sl, asOsl_osl, asStr_str, orcE_R, orcE_W, orcE_L, orcE_X, need_some', asTup_tup, List.getElem?_cons_zero, List.getElem?_cons_succ, Bool.not_true, Bool.not_false, Bool.true_and, Bool.and_true, Bool.false_or, ble_dec, beq_dec, List.length_cons, List.length_nil, Nat.mul_one, Nat.zero_add, Nat.add_zero, Nat.sub_zero, both_self', bytesV_length, bytesV_flat, bytesV_isU8, e1, e2, ints_reps, Int.natCast_nonneg]
  exact this
theorem c45 (l : List Int) (hq : l.length ≤ 1000000000) : runE C 45 [.sl l.length (ints l), .sl l.length (ints l)] = some (.tup [.bool true]) := by
  have loop : ∀ n i, l.length - i = n → i ≤ l.length →
      loopE C 45 0 [true, true, false, true] [] [(0, V.sl l.length (ints l)), (1, V.sl l.length (ints l)), (5, V.int .i64 (i : Int))] [] = some (.tup [.bool true]) := by
    intro n
    induction n with
    | zero =>
      intro i h hi
      refine E45l1 _ _ _ _ _ ?_
      unfold T45l1
      have : ¬ i < l.length := by omega
      simp only [Int.ofNat_lt, decide_true, decide_false, cond_true, cond_false, inB_nat, inB_zero, must_true, Int.toNat_natCast, asInt_int, asBool_bool, asSl_sl, asOsl_osl, asStr_str, orcE_R, orcE_W, orcE_L, orcE_X, need_some', asTup_tup, List.getElem?_cons_zero, List.getElem?_cons_succ, Bool.not_true, Bool.not_false, Bool.true_and, Bool.and_true, Bool.false_or, ble_dec, beq_dec, List.length_cons, List.length_nil, Nat.mul_one, Nat.zero_add, Nat.add_zero, Nat.sub_zero, both_self', bytesV_length, bytesV_flat, bytesV_isU8, this]
    | succ n ih =>
      intro i h hi
      have hlt : i < l.length := by omega
      have hw := w64_succ (n := i) (by omega)
      refine E45l1 _ _ _ _ _ ?_
      unfold T45l1
      simp only [Int.ofNat_lt, decide_true, decide_false, cond_true, cond_false, inB_nat, inB_zero, must_true, Int.toNat_natCast, asInt_int, asBool_bool, asSl_sl, asOsl_osl, asStr_str, orcE_R, orcE_W, orcE_L, orcE_X, need_some', asTup_tup, List.getElem?_cons_zero, List.getElem?_cons_succ, Bool.not_true, Bool.not_false, Bool.true_and, Bool.and_true, Bool.false_or, ble_dec, beq_dec, List.length_cons, List.length_nil, Nat.mul_one, Nat.zero_add, Nat.add_zero, Nat.sub_zero, both_self', bytesV_length, bytesV_flat, bytesV_isU8, hlt, ints_get hlt, bne_f, hw, ih (i + 1) (by omega) (by omega)]
  refine E45 _ _ _ _ ?_
  unfold T45
  simp only [bne_f, cond_false]
  exact loop l.length 0 (by omega) (by omega)
theorem c46 (l : List Int) (k : Int) (hk : 0 ≤ k) (hq : l.length < 1000000000) (hk2 : k < 4611686018427387904) :
    runWE C 46 [0] [.ref 0, .int .i64 k] [.row 2 l.length (ints l) false] = some (.tup [.int .i64 (k + l.length), .osl l.length (ints (mkN k l))]) := by
  have loop : ∀ n i, l.length - i = n → i ≤ l.length →
      loopWE C 46 [0] [Ob.row 2 0 [] false] 0 [true, false, true] [] [(0, V.ref 0), (1, V.int .i64 (k + i)), (5, V.int .i64 (i : Int))] [Ob.row 2 l.length (ints ((mkN k l).take i ++ l.drop i)) false] = some (.tup [.int .i64 (k + l.length), .osl l.length (ints (mkN k l))]) := by
    intro n
    induction n with
    | zero =>
      intro i h hi
      have : i = l.length := by omega
      subst this
      refine E46l1 _ _ _ _ ?_
      unfold T46l1
      have : (mkN k l).take l.length = mkN k l := List.take_of_length_le (by simp)
      simp [this]
    | succ n ih =>
      intro i h hi
      have hlt : i < l.length := by omega
      have hw := w64_succ (n := i) (by omega)
      have ih := ih (i + 1) (by omega) (by omega)
      refine E46l1 _ _ _ _ ?_
      unfold T46l1
      have k1 : IntKind.i64.wrap (k + i + 1) = k + ((i + 1 : Nat) : Int) := by rw [w64 (by omega) (by omega)]; omega
      obtain ⟨L, hL⟩ : ∃ L, L = (mkN k l).take i ++ l.drop i := ⟨_, rfl⟩
      have hlen : L.length = l.length := by rw [hL]; simp; omega
      have hi0 : i < L.length := by omega
      have hset : L.set i (k + i) = (mkN k l).take (i + 1) ++ l.drop (i + 1) := by
        rw [hL, ← take_drop_set (a := mkN k l) (b := l) (by simp) (by simpa using hlt), mkN_get]
      rw [← hL]
      simp only [Int.ofNat_lt, decide_true, decide_false, cond_true, cond_false, inB_nat, inB_zero, must_true, Int.toNat_natCast, asInt_int, asBool_bool, asSl_sl, asOsl_osl, asStr_str, orcE_R, orcE_W, orcE_L, orcE_X, need_some', asTup_tup, List.getElem?_cons_zero, List.getElem?_cons_succ, Bool.not_true, Bool.not_false, Bool.true_and, Bool.and_true, Bool.false_or, ble_dec, beq_dec, List.length_cons, List.length_nil, Nat.mul_one, Nat.zero_add, Nat.add_zero, Nat.sub_zero, both_self', bytesV_length, bytesV_flat, bytesV_isU8, hlt, k1, ints_set hi0, hw, ints_length, hlen, hset, ih]
      simp only [show i + (0 + 1) ≤ l.length by omega, Int.ofNat_lt, decide_true, decide_false, cond_true, cond_false, inB_nat, inB_zero, must_true, Int.toNat_natCast, asInt_int, asBool_bool, asSl_sl, asOsl_osl, asStr_str, orcE_R, orcE_W, orcE_L, orcE_X, need_some', asTup_tup, List.getElem?_cons_zero, List.getElem?_cons_succ, Bool.not_true, Bool.not_false, Bool.true_and, Bool.and_true, Bool.false_or, ble_dec, beq_dec, List.length_cons, List.length_nil, Nat.mul_one, Nat.zero_add, Nat.add_zero, Nat.sub_zero, both_self', bytesV_length, bytesV_flat, bytesV_isU8]
  have h := loop l.length 0 (by simp) (by simp)
  refine E46 _ _ _ ?_
  unfold T46
  simpa using h
theorem c60 (l : List Int) (k : Int) (hk : 0 ≤ k) (hq : l.length < 1000000000) (hk2 : k < 4611686018427387904) :
    runE C 60 [.sl l.length (ints (mkN k l)), .int .i64 k] = some (.tup [.int .i64 (k + l.length)]) := by
  have loop : ∀ n i, l.length - i = n → i ≤ l.length →
      loopE C 60 0 [true, false, true] [] [(0, V.sl l.length (ints (mkN k l))), (1, V.int .i64 (k + i)), (5, V.int .i64 (i : Int))] [] = some (.tup [.int .i64 (k + l.length)]) := by
    intro n
    induction n with
    | zero =>
      intro i h hi
      have : i = l.length := by omega
      subst this
      refine E60l1 _ _ _ _ ?_
      unfold T60l1
      simp
    | succ n ih =>
      intro i h hi
      have hlt : i < l.length := by omega
      have hltm : i < (mkN k l).length := by simpa using hlt
      have hw := w64_succ (n := i) (by omega)
      have ih := ih (i + 1) (by omega) (by omega)
      refine E60l1 _ _ _ _ ?_
      unfold T60l1
      have k1 : IntKind.i64.wrap (k + i + 1) = k + ((i + 1 : Nat) : Int) := by rw [w64 (by omega) (by omega)]; omega
      simp only [Int.ofNat_lt, decide_true, decide_false, cond_true, cond_false, inB_nat, inB_zero, must_true, Int.toNat_natCast, asInt_int, asBool_bool, asSl_sl, asOsl_osl, asStr_str, orcE_R, orcE_W, orcE_L, orcE_X, need_some', asTup_tup, List.getElem?_cons_zero, List.getElem?_cons_succ, Bool.not_true, Bool.not_false, Bool.true_and, Bool.and_true, Bool.false_or, ble_dec, beq_dec, List.length_cons, List.length_nil, Nat.mul_one, Nat.zero_add, Nat.add_zero, Nat.sub_zero, both_self', bytesV_length, bytesV_flat, bytesV_isU8, hlt, ints_get hltm, mkN_get, bne_f, k1, hw, ih]
  refine E60 _ _ _ ?_
  unfold T60
  have := loop l.length 0 (by simp) (by simp)
  simpa using this
theorem c25 (a b c : Int) (t : ByteArray) (left : Int) (h : t.size ≤ 9223372036854775807) (h1 : 0 ≤ left) (h2 : left ≤ 4611686018427387904) :
    runE C 25 [.agg [.int .i64 a, .int .i64 b, .int .i64 c, .str t], .int .i64 left] = some (.tup [.int .i64 (if left < t.size then -1 else left - t.size)]) := by
  refine E25 _ _ _ _ _ ?_
  unfold T25
  rw [w64 (by omega) (by omega)]
  by_cases h : left < t.size
  · rw [if_pos h, decide_eq_true (by omega)]; rfl
  · rw [if_neg h, decide_eq_false (by omega)]; rfl
end Go.Proofs.YtkjjneejmjfhlaaDoor.Base
