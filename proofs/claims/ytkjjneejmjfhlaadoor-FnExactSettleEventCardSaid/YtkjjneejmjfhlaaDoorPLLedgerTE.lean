/-
  The ledger's functions, each by its plain word.
-/
import Derived.Test.YtkjjneejmjfhlaaDoorPLBaseTE
namespace Go.Proofs.YtkjjneejmjfhlaaDoor.Led
open Go Go.PI Go.PI.Led Go.Proofs.YtkjjneejmjfhlaaDoor.Base EqE
set_option maxHeartbeats 1000000
set_option linter.unusedVariables false
set_option linter.unusedSimpArgs false
theorem strEq_self (a : ByteArray) : strEq a a = true := by simp [strEq]
theorem strEq_nil (l : List UInt8) : strEq ⟨l.toArray⟩ ⟨#[]⟩ = decide (l = []) := by
  exact strEq_mk l []
theorem size_list (a : ByteArray) : a.data.toList.length = a.size := rfl
/-! ### the laws' helpers -/
theorem c13 (k s t n : Int) (m : Nat) (cs : List V) (c : Int) (p : Bool) (left : Int) (h : m ≤ 9223372036854775807) (h1 : 0 ≤ left) (h2 : left ≤ 4611686018427387904) :
    runE C 13 [.agg [.int .i64 k, .int .i64 s, .int .i64 t, .int .i64 n, .sl m cs, .int .i64 c, .bool p], .int .i64 left] = some (.tup [.int .i64 (if left < m then -1 else left - m)]) := by
  refine E13 _ _ _ _ _ _ _ _ _ ?_
  unfold T13
  simp only [Int.ofNat_lt, decide_true, decide_false, cond_true, cond_false, inB_nat, inB_zero, must_true, Int.toNat_natCast, asInt_int, asBool_bool, asSl_sl, asOsl_osl, asStr_str, orcE_R, orcE_W, orcE_L, orcE_X, need_some', asTup_tup, List.getElem?_cons_zero, List.getElem?_cons_succ, Bool.not_true, Bool.not_false, Bool.true_and, Bool.and_true, Bool.false_or, ble_dec, beq_dec, List.length_cons, List.length_nil, Nat.mul_one, Nat.zero_add, Nat.add_zero, Nat.sub_zero, both_self', bytesV_length, bytesV_flat, bytesV_isU8, c42 m cs left h h1 h2]
  by_cases h : left < m
  · rw [if_pos h]; rfl
  · rw [if_neg h, decide_eq_false (by omega)]; rfl
theorem c14 (k s t n : Int) (d : List Int) (c : Int) (p : Bool) (h : d.length ≤ 1000000000) :
    runE C 14 [.agg [.int .i64 k, .int .i64 s, .int .i64 t, .int .i64 n, .sl d.length (ints d), .int .i64 c, .bool p]] = some (.tup [.int .i64 k, .int .i64 s, .int .i64 t, .int .i64 n, .osl d.length (ints d), .int .i64 c, .bool p]) := by
  refine E14 _ _ _ _ _ _ _ _ ?_
  unfold T14
  simp only [Int.ofNat_lt, decide_true, decide_false, cond_true, cond_false, inB_nat, inB_zero, must_true, Int.toNat_natCast, asInt_int, asBool_bool, asSl_sl, asOsl_osl, asStr_str, orcE_R, orcE_W, orcE_L, orcE_X, need_some', asTup_tup, List.getElem?_cons_zero, List.getElem?_cons_succ, Bool.not_true, Bool.not_false, Bool.true_and, Bool.and_true, Bool.false_or, ble_dec, beq_dec, List.length_cons, List.length_nil, Nat.mul_one, Nat.zero_add, Nat.add_zero, Nat.sub_zero, both_self', bytesV_length, bytesV_flat, bytesV_isU8, c43 d h, ints_flat]
theorem c26 (a b c : Int) (t : ByteArray) : runE C 26 [.agg [.int .i64 a, .int .i64 b, .int .i64 c, .str t]] = some (.tup [.int .i64 a, .int .i64 b, .int .i64 c, .str t]) := E26 _ _ _ _ rfl
theorem c44 (a b c : Int) (t : ByteArray) : runE C 44 [.agg [.int .i64 a, .int .i64 b, .int .i64 c, .str t], .agg [.int .i64 a, .int .i64 b, .int .i64 c, .str t]] = some (.tup [.bool true]) := by
  refine E44 _ _ _ _ _ _ _ _ ?_
  unfold T44
  simp only [bne_f, strEq_self, Int.ofNat_lt, decide_true, decide_false, cond_true, cond_false, inB_nat, inB_zero, must_true, Int.toNat_natCast, asInt_int, asBool_bool, asSl_sl, asOsl_osl, asStr_str, orcE_R, orcE_W, orcE_L, orcE_X, need_some', asTup_tup, List.getElem?_cons_zero, List.getElem?_cons_succ, Bool.not_true, Bool.not_false, Bool.true_and, Bool.and_true, Bool.false_or, ble_dec, beq_dec, List.length_cons, List.length_nil, Nat.mul_one, Nat.zero_add, Nat.add_zero, Nat.sub_zero, both_self', bytesV_length, bytesV_flat, bytesV_isU8]
theorem bool_ne_self (p : Bool) : (!p == p) = false := by cases p <;> rfl
theorem c16 (k s t n : Int) (d : List Int) (c : Int) (p : Bool) (h : d.length ≤ 1000000000) :
    runE C 16 [.agg [.int .i64 k, .int .i64 s, .int .i64 t, .int .i64 n, .sl d.length (ints d), .int .i64 c, .bool p], .agg [.int .i64 k, .int .i64 s, .int .i64 t, .int .i64 n, .sl d.length (ints d), .int .i64 c, .bool p]] = some (.tup [.bool true]) := by
  refine E16 _ _ _ _ _ _ _ _ _ _ _ _ _ _ _ _ ?_
  unfold T16
  simp only [bne_f, Int.ofNat_lt, decide_true, decide_false, cond_true, cond_false, inB_nat, inB_zero, must_true, Int.toNat_natCast, asInt_int, asBool_bool, asSl_sl, asOsl_osl, asStr_str, orcE_R, orcE_W, orcE_L, orcE_X, need_some', asTup_tup, List.getElem?_cons_zero, List.getElem?_cons_succ, Bool.not_true, Bool.not_false, Bool.true_and, Bool.and_true, Bool.false_or, ble_dec, beq_dec, List.length_cons, List.length_nil, Nat.mul_one, Nat.zero_add, Nat.add_zero, Nat.sub_zero, both_self', bytesV_length, bytesV_flat, bytesV_isU8, c45 d h, bool_ne_self]
theorem c15 (e k s t n : Int) (d : List Int) (c : Int) (p : Bool) (a b g : Int) (u : ByteArray) (h : d.length ≤ 1000000000) :
    runE C 15 [.agg [.int .i64 e, .int .i64 k, .int .i64 s, .int .i64 t, .int .i64 n, .sl d.length (ints d), .int .i64 c, .bool p, .int .i64 a, .int .i64 b, .int .i64 g, .str u],
      .agg [.int .i64 e, .int .i64 k, .int .i64 s, .int .i64 t, .int .i64 n, .sl d.length (ints d), .int .i64 c, .bool p, .int .i64 a, .int .i64 b, .int .i64 g, .str u]] = some (.tup [.bool true]) := by
  refine E15 _ _ _ _ _ _ _ _ _ _ _ _ _ _ _ _ _ _ _ _ _ _ _ _ _ _ ?_
  unfold T15
  simp only [bne_f, Int.ofNat_lt, decide_true, decide_false, cond_true, cond_false, inB_nat, inB_zero, must_true, Int.toNat_natCast, asInt_int, asBool_bool, asSl_sl, asOsl_osl, asStr_str, orcE_R, orcE_W, orcE_L, orcE_X, need_some', asTup_tup, List.getElem?_cons_zero, List.getElem?_cons_succ, Bool.not_true, Bool.not_false, Bool.true_and, Bool.and_true, Bool.false_or, ble_dec, beq_dec, List.length_cons, List.length_nil, Nat.mul_one, Nat.zero_add, Nat.add_zero, Nat.sub_zero, both_self', bytesV_length, bytesV_flat, bytesV_isU8, c16 k s t n d c p h, c44]
theorem c17 (k s t n : Int) (d : List Int) (c : Int) (p : Bool) (q : Int) (h0 : 0 ≤ q) (h : d.length < 1000000000) (h2 : q < 4611686018427387904) :
    runWE C 17 [0] [.agg [.int .i64 k, .int .i64 s, .int .i64 t, .int .i64 n, .ref 0, .int .i64 c, .bool p], .int .i64 q] [.row 2 d.length (ints d) false] = some (.tup [.int .i64 (q + d.length), .osl d.length (ints (mkN q d))]) := by
  refine E17 _ _ _ _ _ _ _ _ _ ?_
  unfold T17
  simp only [Int.ofNat_lt, decide_true, decide_false, cond_true, cond_false, inB_nat, inB_zero, must_true, Int.toNat_natCast, asInt_int, asBool_bool, asSl_sl, asOsl_osl, asStr_str, orcE_R, orcE_W, orcE_L, orcE_X, need_some', asTup_tup, List.getElem?_cons_zero, List.getElem?_cons_succ, Bool.not_true, Bool.not_false, Bool.true_and, Bool.and_true, Bool.false_or, ble_dec, beq_dec, List.length_cons, List.length_nil, Nat.mul_one, Nat.zero_add, Nat.add_zero, Nat.sub_zero, both_self', bytesV_length, bytesV_flat, bytesV_isU8, c46 d q h0 h h2, ints_flat]
theorem c18 (e k s t n : Int) (d : List Int) (c : Int) (p : Bool) (a b g : Int) (u : ByteArray) (q : Int) (h0 : 0 ≤ q) (h : d.length < 1000000000) (h2 : q < 4611686018427387904) :
    runWE C 18 [0] [.agg [.int .i64 e, .int .i64 k, .int .i64 s, .int .i64 t, .int .i64 n, .ref 0, .int .i64 c, .bool p, .int .i64 a, .int .i64 b, .int .i64 g, .str u], .int .i64 q] [.row 2 d.length (ints d) false] = some (.tup [.int .i64 (q + d.length), .osl d.length (ints (mkN q d))]) := by
  refine E18 _ _ _ _ _ _ _ _ _ _ _ _ _ _ ?_
  unfold T18
  simp only [Int.ofNat_lt, decide_true, decide_false, cond_true, cond_false, inB_nat, inB_zero, must_true, Int.toNat_natCast, asInt_int, asBool_bool, asSl_sl, asOsl_osl, asStr_str, orcE_R, orcE_W, orcE_L, orcE_X, need_some', asTup_tup, List.getElem?_cons_zero, List.getElem?_cons_succ, Bool.not_true, Bool.not_false, Bool.true_and, Bool.and_true, Bool.false_or, ble_dec, beq_dec, List.length_cons, List.length_nil, Nat.mul_one, Nat.zero_add, Nat.add_zero, Nat.sub_zero, both_self', bytesV_length, bytesV_flat, bytesV_isU8, c17 k s t n d c p q h0 h h2, ints_flat]
theorem c47 (k s t n : Int) (d : List Int) (c : Int) (p : Bool) (q : Int) (h0 : 0 ≤ q) (h : d.length < 1000000000) (h2 : q < 4611686018427387904) :
    runE C 47 [.agg [.int .i64 k, .int .i64 s, .int .i64 t, .int .i64 n, .sl d.length (ints (mkN q d)), .int .i64 c, .bool p], .int .i64 q] = some (.tup [.int .i64 (q + d.length)]) := by
  refine E47 _ _ _ _ _ _ _ _ _ ?_
  unfold T47
  have : ¬ (q + (d.length : Int) < 0) := by omega
  simp only [Int.ofNat_lt, decide_true, decide_false, cond_true, cond_false, inB_nat, inB_zero, must_true, Int.toNat_natCast, asInt_int, asBool_bool, asSl_sl, asOsl_osl, asStr_str, orcE_R, orcE_W, orcE_L, orcE_X, need_some', asTup_tup, List.getElem?_cons_zero, List.getElem?_cons_succ, Bool.not_true, Bool.not_false, Bool.true_and, Bool.and_true, Bool.false_or, ble_dec, beq_dec, List.length_cons, List.length_nil, Nat.mul_one, Nat.zero_add, Nat.add_zero, Nat.sub_zero, both_self', bytesV_length, bytesV_flat, bytesV_isU8, c60 d q h0 h h2, this]
theorem c19 (e k s t n : Int) (d : List Int) (c : Int) (p : Bool) (a b g : Int) (u : ByteArray) (q : Int) (h0 : 0 ≤ q) (h : d.length < 1000000000) (h2 : q < 4611686018427387904) :
    runE C 19 [.agg [.int .i64 e, .int .i64 k, .int .i64 s, .int .i64 t, .int .i64 n, .sl d.length (ints (mkN q d)), .int .i64 c, .bool p, .int .i64 a, .int .i64 b, .int .i64 g, .str u], .int .i64 q] = some (.tup [.int .i64 (q + d.length)]) := by
  refine E19 _ _ _ _ _ _ _ _ _ _ _ _ _ _ ?_
  unfold T19
  have : ¬ (q + (d.length : Int) < 0) := by omega
  simp only [Int.ofNat_lt, decide_true, decide_false, cond_true, cond_false, inB_nat, inB_zero, must_true, Int.toNat_natCast, asInt_int, asBool_bool, asSl_sl, asOsl_osl, asStr_str, orcE_R, orcE_W, orcE_L, orcE_X, need_some', asTup_tup, List.getElem?_cons_zero, List.getElem?_cons_succ, Bool.not_true, Bool.not_false, Bool.true_and, Bool.and_true, Bool.false_or, ble_dec, beq_dec, List.length_cons, List.length_nil, Nat.mul_one, Nat.zero_add, Nat.add_zero, Nat.sub_zero, both_self', bytesV_length, bytesV_flat, bytesV_isU8, c47 k s t n d c p q h0 h h2, this]
/-! ### faults -/
theorem c32 (k n a : Int) (to : ByteArray) (h : to.size ≤ 9223372036854775807) : runE C 32 [.agg [.int .i64 k, .int .i64 n, .int .i64 a, .str to]] = some (.tup [.int .i64 (evFault k n a to)]) := by
  refine E32 _ _ _ _ ?_
  unfold T32 evFault
  have ht : ∀ l : List UInt8, strEq { data := (trimL l [97, 98, 99, 100, 101, 102, 103, 104, 105, 106, 107, 108, 109, 110, 111, 112, 113, 114, 115, 116, 117, 118, 119, 120, 121, 122, 48, 49, 50, 51, 52, 53, 54, 55, 56, 57]).toArray } { data := #[] } = l.all goodC := by
    intro l
    rw [strEq_nil]
    have := trim_name l
    rw [Bool.eq_iff_iff, decide_eq_true_iff]
    exact this
  by_cases h1 : isKind k
  · by_cases h2 : 1 ≤ n ∧ n ≤ 1000000
    · by_cases h3 : 1 ≤ a ∧ a ≤ 1000000000
      · by_cases h4 : 1 ≤ to.size ∧ to.size ≤ 12
        · have h4' : (1 : Int) ≤ (to.size : Int) ∧ (to.size : Int) ≤ 12 := by omega
          simp only [Int.ofNat_lt, decide_true, decide_false, cond_true, cond_false, inB_nat, inB_zero, must_true, Int.toNat_natCast, asInt_int, asBool_bool, asSl_sl, asOsl_osl, asStr_str, orcE_R, orcE_W, orcE_L, orcE_X, need_some', asTup_tup, List.getElem?_cons_zero, List.getElem?_cons_succ, Bool.not_true, Bool.not_false, Bool.true_and, Bool.and_true, Bool.false_or, ble_dec, beq_dec, List.length_cons, List.length_nil, Nat.mul_one, Nat.zero_add, Nat.add_zero, Nat.sub_zero, both_self', bytesV_length, bytesV_flat, bytesV_isU8, and_self, and_true, true_and, and_false, false_and, or_true, true_or, or_false, false_or, not_true_eq_false, not_false_eq_true, if_true, if_false, Bool.true_eq_false, Bool.false_eq_true, Bool.true_and, Bool.false_and, Bool.and_false, Bool.and_true, Bool.or_true, Bool.true_or, Bool.not_true, Bool.not_false, cond_true, cond_false, c40, c41, c34, h1, h2, h3, h4, h4', ht, h]
          cases to.data.toList.all goodC <;> rfl
        · have h4' : ¬ ((1 : Int) ≤ (to.size : Int) ∧ (to.size : Int) ≤ 12) := by omega
          simp only [Int.ofNat_lt, decide_true, decide_false, cond_true, cond_false, inB_nat, inB_zero, must_true, Int.toNat_natCast, asInt_int, asBool_bool, asSl_sl, asOsl_osl, asStr_str, orcE_R, orcE_W, orcE_L, orcE_X, need_some', asTup_tup, List.getElem?_cons_zero, List.getElem?_cons_succ, Bool.not_true, Bool.not_false, Bool.true_and, Bool.and_true, Bool.false_or, ble_dec, beq_dec, List.length_cons, List.length_nil, Nat.mul_one, Nat.zero_add, Nat.add_zero, Nat.sub_zero, both_self', bytesV_length, bytesV_flat, bytesV_isU8, and_self, and_true, true_and, and_false, false_and, or_true, true_or, or_false, false_or, not_true_eq_false, not_false_eq_true, if_true, if_false, Bool.true_eq_false, Bool.false_eq_true, Bool.true_and, Bool.false_and, Bool.and_false, Bool.and_true, Bool.or_true, Bool.true_or, Bool.not_true, Bool.not_false, cond_true, cond_false, c40, c41, c34, h1, h2, h3, h4, h4']
      · simp only [Int.ofNat_lt, decide_true, decide_false, cond_true, cond_false, inB_nat, inB_zero, must_true, Int.toNat_natCast, asInt_int, asBool_bool, asSl_sl, asOsl_osl, asStr_str, orcE_R, orcE_W, orcE_L, orcE_X, need_some', asTup_tup, List.getElem?_cons_zero, List.getElem?_cons_succ, Bool.not_true, Bool.not_false, Bool.true_and, Bool.and_true, Bool.false_or, ble_dec, beq_dec, List.length_cons, List.length_nil, Nat.mul_one, Nat.zero_add, Nat.add_zero, Nat.sub_zero, both_self', bytesV_length, bytesV_flat, bytesV_isU8, and_self, and_true, true_and, and_false, false_and, or_true, true_or, or_false, false_or, not_true_eq_false, not_false_eq_true, if_true, if_false, Bool.true_eq_false, Bool.false_eq_true, Bool.true_and, Bool.false_and, Bool.and_false, Bool.and_true, Bool.or_true, Bool.true_or, Bool.not_true, Bool.not_false, cond_true, cond_false, c40, c41, c34, h1, h2, h3]
    · simp only [Int.ofNat_lt, decide_true, decide_false, cond_true, cond_false, inB_nat, inB_zero, must_true, Int.toNat_natCast, asInt_int, asBool_bool, asSl_sl, asOsl_osl, asStr_str, orcE_R, orcE_W, orcE_L, orcE_X, need_some', asTup_tup, List.getElem?_cons_zero, List.getElem?_cons_succ, Bool.not_true, Bool.not_false, Bool.true_and, Bool.and_true, Bool.false_or, ble_dec, beq_dec, List.length_cons, List.length_nil, Nat.mul_one, Nat.zero_add, Nat.add_zero, Nat.sub_zero, both_self', bytesV_length, bytesV_flat, bytesV_isU8, and_self, and_true, true_and, and_false, false_and, or_true, true_or, or_false, false_or, not_true_eq_false, not_false_eq_true, if_true, if_false, Bool.true_eq_false, Bool.false_eq_true, Bool.true_and, Bool.false_and, Bool.and_false, Bool.and_true, Bool.or_true, Bool.true_or, Bool.not_true, Bool.not_false, cond_true, cond_false, c40, c41, c34, h1, h2]
  · simp only [Int.ofNat_lt, decide_true, decide_false, cond_true, cond_false, inB_nat, inB_zero, must_true, Int.toNat_natCast, asInt_int, asBool_bool, asSl_sl, asOsl_osl, asStr_str, orcE_R, orcE_W, orcE_L, orcE_X, need_some', asTup_tup, List.getElem?_cons_zero, List.getElem?_cons_succ, Bool.not_true, Bool.not_false, Bool.true_and, Bool.and_true, Bool.false_or, ble_dec, beq_dec, List.length_cons, List.length_nil, Nat.mul_one, Nat.zero_add, Nat.add_zero, Nat.sub_zero, both_self', bytesV_length, bytesV_flat, bytesV_isU8, and_self, and_true, true_and, and_false, false_and, or_true, true_or, or_false, false_or, not_true_eq_false, not_false_eq_true, if_true, if_false, Bool.true_eq_false, Bool.false_eq_true, Bool.true_and, Bool.false_and, Bool.and_false, Bool.and_true, Bool.or_true, Bool.true_or, Bool.not_true, Bool.not_false, cond_true, cond_false, c40, h1]
theorem name_loop (k n a : Int) (to : ByteArray) (h : to.size ≤ 9223372036854775806) : ∀ m i, to.size - i = m → i ≤ to.size →
    loopE C 58 0 [true, true, true, true, false, true] [] [(1, V.ptr 0 0), (3, V.int .i64 (i : Int))] [Ob.box 30 [V.int .i64 k, V.int .i64 n, V.int .i64 a, V.str to] false] = some (.tup [.int .i64 (if (to.data.toList.drop i).all goodC then 0 else 5)]) := by
  intro m
  induction m with
  | zero =>
    intro i h1 h2
    have e : i = to.data.toList.length := by rw [size_list]; omega
    refine E58l1 _ _ _ _ _ ?_
    unfold T58l1
    have : ¬ i < to.size := by omega
    rw [e, List.drop_length]
    rw [← e]
    simp only [Int.ofNat_lt, decide_true, decide_false, cond_true, cond_false, inB_nat, inB_zero, must_true, Int.toNat_natCast, asInt_int, asBool_bool, asSl_sl, asOsl_osl, asStr_str, orcE_R, orcE_W, orcE_L, orcE_X, need_some', asTup_tup, List.getElem?_cons_zero, List.getElem?_cons_succ, Bool.not_true, Bool.not_false, Bool.true_and, Bool.and_true, Bool.false_or, ble_dec, beq_dec, List.length_cons, List.length_nil, Nat.mul_one, Nat.zero_add, Nat.add_zero, Nat.sub_zero, both_self', bytesV_length, bytesV_flat, bytesV_isU8, this, List.all_nil, if_true]
  | succ m ih =>
    intro i h1 h2
    have hlt : i < to.size := by omega
    have hl : i < to.data.toList.length := hlt
    have hw := w64_succ (n := i) (by omega)
    have ih := ih (i + 1) (by omega) (by omega)
    refine E58l1 _ _ _ _ _ ?_
    unfold T58l1
    have hg : to.data.toList.getD i 0 = to.data.toList[i] := by rw [List.getD, List.getElem?_eq_getElem hl]; rfl
    rw [drop_eq_cons hl, List.all_cons]
    simp only [Int.ofNat_lt, decide_true, decide_false, cond_true, cond_false, inB_nat, inB_zero, must_true, Int.toNat_natCast, asInt_int, asBool_bool, asSl_sl, asOsl_osl, asStr_str, orcE_R, orcE_W, orcE_L, orcE_X, need_some', asTup_tup, List.getElem?_cons_zero, List.getElem?_cons_succ, Bool.not_true, Bool.not_false, Bool.true_and, Bool.and_true, Bool.false_or, ble_dec, beq_dec, List.length_cons, List.length_nil, Nat.mul_one, Nat.zero_add, Nat.add_zero, Nat.sub_zero, both_self', bytesV_length, bytesV_flat, bytesV_isU8, hlt, hg, hw, ih]
    generalize to.data.toList[i] = c
    unfold goodC
    have q1 : ((c.toNat : Int) < 97) ↔ ¬ (97 ≤ c.toNat) := by omega
    have q2 : ((c.toNat : Int) > 122) ↔ ¬ (c.toNat ≤ 122) := by omega
    have q3 : ((c.toNat : Int) < 48) ↔ ¬ (48 ≤ c.toNat) := by omega
    have q4 : ((c.toNat : Int) > 57) ↔ ¬ (c.toNat ≤ 57) := by omega
    by_cases a1 : 97 ≤ c.toNat <;> by_cases a2 : c.toNat ≤ 122 <;> by_cases a3 : 48 ≤ c.toNat <;> by_cases a4 : c.toNat ≤ 57 <;> simp [a1, a2, a3, a4, q1, q2, q3, q4]
theorem c58 (k n a : Int) (to : ByteArray) : runE C 58 [.agg [.int .i64 k, .int .i64 n, .int .i64 a, .str to]] = some (.tup [.int .i64 (evFault k n a to)]) := by
  refine E58 _ _ _ _ ?_
  unfold T58 evFault
  by_cases h1 : isKind k
  · by_cases h2 : 1 ≤ n ∧ n ≤ 1000000
    · by_cases h3 : 1 ≤ a ∧ a ≤ 1000000000
      · by_cases h4 : 1 ≤ to.size
        · have e1 : ¬ ((to.size : Int) < 1) := by omega
          by_cases h5 : to.size ≤ 12
          · have e2 : ¬ ((to.size : Int) > 12) := by omega
            have hl := name_loop k n a to (by omega) to.size 0 (by omega) (by omega)
            rw [List.drop_zero] at hl
            simp only [Int.ofNat_lt, decide_true, decide_false, cond_true, cond_false, inB_nat, inB_zero, must_true, Int.toNat_natCast, asInt_int, asBool_bool, asSl_sl, asOsl_osl, asStr_str, orcE_R, orcE_W, orcE_L, orcE_X, need_some', asTup_tup, List.getElem?_cons_zero, List.getElem?_cons_succ, Bool.not_true, Bool.not_false, Bool.true_and, Bool.and_true, Bool.false_or, ble_dec, beq_dec, List.length_cons, List.length_nil, Nat.mul_one, Nat.zero_add, Nat.add_zero, Nat.sub_zero, both_self', bytesV_length, bytesV_flat, bytesV_isU8, and_self, and_true, true_and, and_false, false_and, or_true, true_or, or_false, false_or, not_true_eq_false, not_false_eq_true, if_true, if_false, Bool.true_eq_false, Bool.false_eq_true, Bool.true_and, Bool.false_and, Bool.and_false, Bool.and_true, Bool.or_true, Bool.true_or, Bool.not_true, Bool.not_false, cond_true, cond_false, c56, c57, h1, h2, h3, h4, h5, e1, e2]
            exact hl
          · have e2 : (to.size : Int) > 12 := by omega
            simp only [Int.ofNat_lt, decide_true, decide_false, cond_true, cond_false, inB_nat, inB_zero, must_true, Int.toNat_natCast, asInt_int, asBool_bool, asSl_sl, asOsl_osl, asStr_str, orcE_R, orcE_W, orcE_L, orcE_X, need_some', asTup_tup, List.getElem?_cons_zero, List.getElem?_cons_succ, Bool.not_true, Bool.not_false, Bool.true_and, Bool.and_true, Bool.false_or, ble_dec, beq_dec, List.length_cons, List.length_nil, Nat.mul_one, Nat.zero_add, Nat.add_zero, Nat.sub_zero, both_self', bytesV_length, bytesV_flat, bytesV_isU8, and_self, and_true, true_and, and_false, false_and, or_true, true_or, or_false, false_or, not_true_eq_false, not_false_eq_true, if_true, if_false, Bool.true_eq_false, Bool.false_eq_true, Bool.true_and, Bool.false_and, Bool.and_false, Bool.and_true, Bool.or_true, Bool.true_or, Bool.not_true, Bool.not_false, cond_true, cond_false, c56, c57, h1, h2, h3, h4, h5, e1, e2]
        · have e1 : (to.size : Int) < 1 := by omega
          simp only [Int.ofNat_lt, decide_true, decide_false, cond_true, cond_false, inB_nat, inB_zero, must_true, Int.toNat_natCast, asInt_int, asBool_bool, asSl_sl, asOsl_osl, asStr_str, orcE_R, orcE_W, orcE_L, orcE_X, need_some', asTup_tup, List.getElem?_cons_zero, List.getElem?_cons_succ, Bool.not_true, Bool.not_false, Bool.true_and, Bool.and_true, Bool.false_or, ble_dec, beq_dec, List.length_cons, List.length_nil, Nat.mul_one, Nat.zero_add, Nat.add_zero, Nat.sub_zero, both_self', bytesV_length, bytesV_flat, bytesV_isU8, and_self, and_true, true_and, and_false, false_and, or_true, true_or, or_false, false_or, not_true_eq_false, not_false_eq_true, if_true, if_false, Bool.true_eq_false, Bool.false_eq_true, Bool.true_and, Bool.false_and, Bool.and_false, Bool.and_true, Bool.or_true, Bool.true_or, Bool.not_true, Bool.not_false, cond_true, cond_false, c56, c57, h1, h2, h3, h4, e1]
      · simp only [Int.ofNat_lt, decide_true, decide_false, cond_true, cond_false, inB_nat, inB_zero, must_true, Int.toNat_natCast, asInt_int, asBool_bool, asSl_sl, asOsl_osl, asStr_str, orcE_R, orcE_W, orcE_L, orcE_X, need_some', asTup_tup, List.getElem?_cons_zero, List.getElem?_cons_succ, Bool.not_true, Bool.not_false, Bool.true_and, Bool.and_true, Bool.false_or, ble_dec, beq_dec, List.length_cons, List.length_nil, Nat.mul_one, Nat.zero_add, Nat.add_zero, Nat.sub_zero, both_self', bytesV_length, bytesV_flat, bytesV_isU8, and_self, and_true, true_and, and_false, false_and, or_true, true_or, or_false, false_or, not_true_eq_false, not_false_eq_true, if_true, if_false, Bool.true_eq_false, Bool.false_eq_true, Bool.true_and, Bool.false_and, Bool.and_false, Bool.and_true, Bool.or_true, Bool.true_or, Bool.not_true, Bool.not_false, cond_true, cond_false, c56, c57, h1, h2, h3]
    · simp only [Int.ofNat_lt, decide_true, decide_false, cond_true, cond_false, inB_nat, inB_zero, must_true, Int.toNat_natCast, asInt_int, asBool_bool, asSl_sl, asOsl_osl, asStr_str, orcE_R, orcE_W, orcE_L, orcE_X, need_some', asTup_tup, List.getElem?_cons_zero, List.getElem?_cons_succ, Bool.not_true, Bool.not_false, Bool.true_and, Bool.and_true, Bool.false_or, ble_dec, beq_dec, List.length_cons, List.length_nil, Nat.mul_one, Nat.zero_add, Nat.add_zero, Nat.sub_zero, both_self', bytesV_length, bytesV_flat, bytesV_isU8, and_self, and_true, true_and, and_false, false_and, or_true, true_or, or_false, false_or, not_true_eq_false, not_false_eq_true, if_true, if_false, Bool.true_eq_false, Bool.false_eq_true, Bool.true_and, Bool.false_and, Bool.and_false, Bool.and_true, Bool.or_true, Bool.true_or, Bool.not_true, Bool.not_false, cond_true, cond_false, c56, c57, h1, h2]
  · simp only [Int.ofNat_lt, decide_true, decide_false, cond_true, cond_false, inB_nat, inB_zero, must_true, Int.toNat_natCast, asInt_int, asBool_bool, asSl_sl, asOsl_osl, asStr_str, orcE_R, orcE_W, orcE_L, orcE_X, need_some', asTup_tup, List.getElem?_cons_zero, List.getElem?_cons_succ, Bool.not_true, Bool.not_false, Bool.true_and, Bool.and_true, Bool.false_or, ble_dec, beq_dec, List.length_cons, List.length_nil, Nat.mul_one, Nat.zero_add, Nat.add_zero, Nat.sub_zero, both_self', bytesV_length, bytesV_flat, bytesV_isU8, and_self, and_true, true_and, and_false, false_and, or_true, true_or, or_false, false_or, not_true_eq_false, not_false_eq_true, if_true, if_false, Bool.true_eq_false, Bool.false_eq_true, Bool.true_and, Bool.false_and, Bool.and_false, Bool.and_true, Bool.or_true, Bool.true_or, Bool.not_true, Bool.not_false, cond_true, cond_false, c56, h1]
theorem c35 (k s t n : Int) (m : Nat) (cs : List V) (c : Int) (p : Bool) : runE C 35 [.agg [.int .i64 k, .int .i64 s, .int .i64 t, .int .i64 n, .sl m cs, .int .i64 c, .bool p]] = some (.tup [.int .i64 (IntKind.i64.wrap (held k s t))]) := by
  refine E35 _ _ _ _ _ _ _ _ ?_
  unfold T35 held
  by_cases h : k = 1
  · simp [h]
  · simp [h, beq_f h]
theorem c31 (k s t n : Int) (m : Nat) (cs : List V) (c : Int) (p : Bool) : runE C 31 [.pin [.int .i64 k, .int .i64 s, .int .i64 t, .int .i64 n, .sl m cs, .int .i64 c, .bool p] 0] = some (.tup [.int .i64 (IntKind.i64.wrap (held k s t))]) := by
  refine E31 _ _ _ _ _ _ _ _ ?_
  unfold T31 held
  by_cases h : k = 1
  · simp [h]
  · simp [h, beq_f h]
theorem held_wrap {k s t : Int} (h1 : isCoins s) (h2 : isCoins t) : IntKind.i64.wrap (held k s t) = held k s t := by
  unfold isCoins at h1 h2
  unfold held
  split <;> exact w64 (by omega) (by omega)
theorem done_loop (k s t n : Int) (d : List Int) (c : Int) (p : Bool) (hd : d.length ≤ 1000000000) (h1 : isCoins s) (h2 : isCoins t) : ∀ m i, d.length - i = m → i ≤ d.length →
    loopE C 12 1 [true, true, false, true] [] [(1, V.ptr 0 0), (39, V.sl d.length (ints d)), (40, V.int .i64 (d.length : Int)), (41, V.int .i64 (i : Int))] [Ob.box 26 [V.int .i64 k, V.int .i64 s, V.int .i64 t, V.int .i64 n, V.sl d.length (ints d), V.int .i64 c, V.bool p] false]
      = some (.tup [.int .i64 (if okFrom d m i = false then 1 else if ¬ (0 ≤ held k s t ∧ held k s t ≤ c) then 1 else 0)]) := by
  intro m
  induction m with
  | zero =>
    intro i e1 e2
    have : i = d.length := by omega
    subst this
    refine E12l1 _ _ _ _ _ _ _ _ _ _ _ _ ?_
    unfold T12l1
    have hl : ¬ ((d.length : Int) < (d.length : Int)) := by omega
    simp only [Int.ofNat_lt, decide_true, decide_false, cond_true, cond_false, inB_nat, inB_zero, must_true, Int.toNat_natCast, asInt_int, asBool_bool, asSl_sl, asOsl_osl, asStr_str, orcE_R, orcE_W, orcE_L, orcE_X, need_some', asTup_tup, List.getElem?_cons_zero, List.getElem?_cons_succ, Bool.not_true, Bool.not_false, Bool.true_and, Bool.and_true, Bool.false_or, ble_dec, beq_dec, List.length_cons, List.length_nil, Nat.mul_one, Nat.zero_add, Nat.add_zero, Nat.sub_zero, both_self', bytesV_length, bytesV_flat, bytesV_isU8, hl, c35, held_wrap h1 h2, c34, okFrom, Bool.true_eq_false, if_false]
    by_cases h3 : 0 ≤ held k s t ∧ held k s t ≤ c
    · simp [h3]
    · simp [h3]
  | succ m ih =>
    intro i e1 e2
    have hlt : i < d.length := by omega
    have hw := w64_succ (n := i) (by omega)
    have ih := ih (i + 1) (by omega) (by omega)
    refine E12l1 _ _ _ _ _ _ _ _ _ _ _ _ ?_
    unfold T12l1
    rw [okFrom]
    simp only [Int.ofNat_lt, decide_true, decide_false, cond_true, cond_false, inB_nat, inB_zero, must_true, Int.toNat_natCast, asInt_int, asBool_bool, asSl_sl, asOsl_osl, asStr_str, orcE_R, orcE_W, orcE_L, orcE_X, need_some', asTup_tup, List.getElem?_cons_zero, List.getElem?_cons_succ, Bool.not_true, Bool.not_false, Bool.true_and, Bool.and_true, Bool.false_or, ble_dec, beq_dec, List.length_cons, List.length_nil, Nat.mul_one, Nat.zero_add, Nat.add_zero, Nat.sub_zero, both_self', bytesV_length, bytesV_flat, bytesV_isU8, hlt, ints_getD hlt, c41, hw, ih]
    by_cases h3 : 1 ≤ d.getD i 0 ∧ d.getD i 0 ≤ 1000000
    · by_cases h4 : i = 0
      · have hk : okAt d i = true := by unfold okAt; exact decide_eq_true ⟨h3, .inl h4⟩
        have hp : ¬ ((i : Int) > 0) := by omega
        simp only [h3, hk, hp, and_self, decide_true, decide_false, Bool.not_true, cond_false, Bool.true_and]
      · have hw1 : IntKind.i64.wrap ((i : Int) - 1) = ((i - 1 : Nat) : Int) := by rw [w64 (by omega) (by omega)]; omega
        have hi1 : i - 1 < d.length := by omega
        have hp : (i : Int) > 0 := by omega
        simp only [h3, and_self, decide_true, Bool.not_true, cond_false, hp, cond_true, hw1, inB_nat, hi1, must_true, Int.toNat_natCast, Nat.mul_one, ints_getD hi1, asInt_int]
        by_cases h5 : d.getD (i - 1) 0 < d.getD i 0
        · have : okAt d i = true := by unfold okAt; simp only [h3, h5, or_true, and_self, decide_true]
          have h6 : ¬ (d.getD (i - 1) 0 ≥ d.getD i 0) := by omega
          simp only [this, h6, decide_false, cond_false, Bool.true_and]
        · have : okAt d i = false := by unfold okAt; simp only [h3, h4, h5, or_false, and_false, decide_false]
          have h6 : d.getD (i - 1) 0 ≥ d.getD i 0 := by omega
          simp only [this, h6, decide_true, cond_true, Bool.false_and, if_true]
    · have : okAt d i = false := by unfold okAt; simp only [h3, false_and, decide_false]
      simp only [h3, this, decide_false, Bool.not_false, cond_true, Bool.false_and, if_true]
theorem c12 (k s t n : Int) (d : List Int) (c : Int) (p : Bool) (hd : d.length ≤ 1000000000) :
    runE C 12 [.agg [.int .i64 k, .int .i64 s, .int .i64 t, .int .i64 n, .sl d.length (ints d), .int .i64 c, .bool p]] = some (.tup [.int .i64 (ledFault k s t n d c)]) := by
  refine E12 _ _ _ _ _ _ _ _ ?_
  unfold T12 ledFault
  by_cases h1 : isKind k
  · by_cases h2 : isCoins s
    · by_cases h3 : isCoins t
      · by_cases h4 : isCoins c
        · by_cases h5 : 1 ≤ n ∧ n ≤ 1000001
          · by_cases h6 : 60 < d.length
            · have h6' : (d.length : Int) > 60 := by omega
              simp only [Int.ofNat_lt, decide_true, decide_false, cond_true, cond_false, inB_nat, inB_zero, must_true, Int.toNat_natCast, asInt_int, asBool_bool, asSl_sl, asOsl_osl, asStr_str, orcE_R, orcE_W, orcE_L, orcE_X, need_some', asTup_tup, List.getElem?_cons_zero, List.getElem?_cons_succ, Bool.not_true, Bool.not_false, Bool.true_and, Bool.and_true, Bool.false_or, ble_dec, beq_dec, List.length_cons, List.length_nil, Nat.mul_one, Nat.zero_add, Nat.add_zero, Nat.sub_zero, both_self', bytesV_length, bytesV_flat, bytesV_isU8, and_self, and_true, true_and, and_false, false_and, or_true, true_or, or_false, false_or, not_true_eq_false, not_false_eq_true, if_true, if_false, Bool.true_eq_false, Bool.false_eq_true, Bool.true_and, Bool.false_and, Bool.and_false, Bool.and_true, Bool.or_true, Bool.true_or, Bool.not_true, Bool.not_false, cond_true, cond_false, c40, c36, c34, h1, h2, h3, h4, h5, h6, h6']
            · have h6' : ¬ ((d.length : Int) > 60) := by omega
              have := done_loop k s t n d c p hd h2 h3 d.length 0 (by omega) (by omega)
              simp only [Int.ofNat_lt, decide_true, decide_false, cond_true, cond_false, inB_nat, inB_zero, must_true, Int.toNat_natCast, asInt_int, asBool_bool, asSl_sl, asOsl_osl, asStr_str, orcE_R, orcE_W, orcE_L, orcE_X, need_some', asTup_tup, List.getElem?_cons_zero, List.getElem?_cons_succ, Bool.not_true, Bool.not_false, Bool.true_and, Bool.and_true, Bool.false_or, ble_dec, beq_dec, List.length_cons, List.length_nil, Nat.mul_one, Nat.zero_add, Nat.add_zero, Nat.sub_zero, both_self', bytesV_length, bytesV_flat, bytesV_isU8, and_self, and_true, true_and, and_false, false_and, or_true, true_or, or_false, false_or, not_true_eq_false, not_false_eq_true, if_true, if_false, Bool.true_eq_false, Bool.false_eq_true, Bool.true_and, Bool.false_and, Bool.and_false, Bool.and_true, Bool.or_true, Bool.true_or, Bool.not_true, Bool.not_false, cond_true, cond_false, c40, c36, c34, h1, h2, h3, h4, h5, h6, h6']
              exact this
          · simp only [Int.ofNat_lt, decide_true, decide_false, cond_true, cond_false, inB_nat, inB_zero, must_true, Int.toNat_natCast, asInt_int, asBool_bool, asSl_sl, asOsl_osl, asStr_str, orcE_R, orcE_W, orcE_L, orcE_X, need_some', asTup_tup, List.getElem?_cons_zero, List.getElem?_cons_succ, Bool.not_true, Bool.not_false, Bool.true_and, Bool.and_true, Bool.false_or, ble_dec, beq_dec, List.length_cons, List.length_nil, Nat.mul_one, Nat.zero_add, Nat.add_zero, Nat.sub_zero, both_self', bytesV_length, bytesV_flat, bytesV_isU8, and_self, and_true, true_and, and_false, false_and, or_true, true_or, or_false, false_or, not_true_eq_false, not_false_eq_true, if_true, if_false, Bool.true_eq_false, Bool.false_eq_true, Bool.true_and, Bool.false_and, Bool.and_false, Bool.and_true, Bool.or_true, Bool.true_or, Bool.not_true, Bool.not_false, cond_true, cond_false, c40, c36, c34, h1, h2, h3, h4, h5]
        · simp only [Int.ofNat_lt, decide_true, decide_false, cond_true, cond_false, inB_nat, inB_zero, must_true, Int.toNat_natCast, asInt_int, asBool_bool, asSl_sl, asOsl_osl, asStr_str, orcE_R, orcE_W, orcE_L, orcE_X, need_some', asTup_tup, List.getElem?_cons_zero, List.getElem?_cons_succ, Bool.not_true, Bool.not_false, Bool.true_and, Bool.and_true, Bool.false_or, ble_dec, beq_dec, List.length_cons, List.length_nil, Nat.mul_one, Nat.zero_add, Nat.add_zero, Nat.sub_zero, both_self', bytesV_length, bytesV_flat, bytesV_isU8, and_self, and_true, true_and, and_false, false_and, or_true, true_or, or_false, false_or, not_true_eq_false, not_false_eq_true, if_true, if_false, Bool.true_eq_false, Bool.false_eq_true, Bool.true_and, Bool.false_and, Bool.and_false, Bool.and_true, Bool.or_true, Bool.true_or, Bool.not_true, Bool.not_false, cond_true, cond_false, c40, c36, c34, h1, h2, h3, h4]
      · simp only [Int.ofNat_lt, decide_true, decide_false, cond_true, cond_false, inB_nat, inB_zero, must_true, Int.toNat_natCast, asInt_int, asBool_bool, asSl_sl, asOsl_osl, asStr_str, orcE_R, orcE_W, orcE_L, orcE_X, need_some', asTup_tup, List.getElem?_cons_zero, List.getElem?_cons_succ, Bool.not_true, Bool.not_false, Bool.true_and, Bool.and_true, Bool.false_or, ble_dec, beq_dec, List.length_cons, List.length_nil, Nat.mul_one, Nat.zero_add, Nat.add_zero, Nat.sub_zero, both_self', bytesV_length, bytesV_flat, bytesV_isU8, and_self, and_true, true_and, and_false, false_and, or_true, true_or, or_false, false_or, not_true_eq_false, not_false_eq_true, if_true, if_false, Bool.true_eq_false, Bool.false_eq_true, Bool.true_and, Bool.false_and, Bool.and_false, Bool.and_true, Bool.or_true, Bool.true_or, Bool.not_true, Bool.not_false, cond_true, cond_false, c40, c36, c34, h1, h2, h3]
    · simp only [Int.ofNat_lt, decide_true, decide_false, cond_true, cond_false, inB_nat, inB_zero, must_true, Int.toNat_natCast, asInt_int, asBool_bool, asSl_sl, asOsl_osl, asStr_str, orcE_R, orcE_W, orcE_L, orcE_X, need_some', asTup_tup, List.getElem?_cons_zero, List.getElem?_cons_succ, Bool.not_true, Bool.not_false, Bool.true_and, Bool.and_true, Bool.false_or, ble_dec, beq_dec, List.length_cons, List.length_nil, Nat.mul_one, Nat.zero_add, Nat.add_zero, Nat.sub_zero, both_self', bytesV_length, bytesV_flat, bytesV_isU8, and_self, and_true, true_and, and_false, false_and, or_true, true_or, or_false, false_or, not_true_eq_false, not_false_eq_true, if_true, if_false, Bool.true_eq_false, Bool.false_eq_true, Bool.true_and, Bool.false_and, Bool.and_false, Bool.and_true, Bool.or_true, Bool.true_or, Bool.not_true, Bool.not_false, cond_true, cond_false, c40, c36, c34, h1, h2]
  · simp only [Int.ofNat_lt, decide_true, decide_false, cond_true, cond_false, inB_nat, inB_zero, must_true, Int.toNat_natCast, asInt_int, asBool_bool, asSl_sl, asOsl_osl, asStr_str, orcE_R, orcE_W, orcE_L, orcE_X, need_some', asTup_tup, List.getElem?_cons_zero, List.getElem?_cons_succ, Bool.not_true, Bool.not_false, Bool.true_and, Bool.and_true, Bool.false_or, ble_dec, beq_dec, List.length_cons, List.length_nil, Nat.mul_one, Nat.zero_add, Nat.add_zero, Nat.sub_zero, both_self', bytesV_length, bytesV_flat, bytesV_isU8, and_self, and_true, true_and, and_false, false_and, or_true, true_or, or_false, false_or, not_true_eq_false, not_false_eq_true, if_true, if_false, Bool.true_eq_false, Bool.false_eq_true, Bool.true_and, Bool.false_and, Bool.and_false, Bool.and_true, Bool.or_true, Bool.true_or, Bool.not_true, Bool.not_false, cond_true, cond_false, c40, h1]
end Go.Proofs.YtkjjneejmjfhlaaDoor.Led
