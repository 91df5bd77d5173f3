/-
  The relayer's functions, each by its plain word: sizes, copies, sameness, marks.
-/
import Derived.Test.YtkjjneejmjfhlaaPIEq5
import Derived.Test.YtkjjneejmjfhlaaPMRelay
namespace Go.Proofs.Ytkjjneejmjfhlaa.Rel
open Go Go.PI Go.PI.Rel Eq5
set_option maxHeartbeats 1000000
set_option linter.unusedVariables false
set_option linter.unusedSimpArgs false

theorem c51 (a b c : Int) : runE C 51 [.int .i64 a, .int .i64 b, .int .i64 c] = some (.tup [.bool (decide (b ≤ a ∧ a ≤ c))]) := by
  refine E51 a b c ?_
  unfold T51
  by_cases h : b ≤ a <;> simp [h]
theorem c47 (a b c : Int) : runE C 47 [.int .i64 a, .int .i64 b, .int .i64 c] = some (.tup [.bool (decide (b ≤ a ∧ a ≤ c))]) := by
  refine E47 a b c ?_
  unfold T47
  by_cases h : b ≤ a <;> simp [h]

/-! ### sizes -/
theorem c29 (n : Nat) (cs : List V) (left : Int) (h : n ≤ 9223372036854775807) (h1 : 0 ≤ left) (h2 : left ≤ 4611686018427387904) :
    runE C 29 [.sl n cs, .int .i64 left] = some (.tup [.int .i64 (if left < n then -1 else left - n)]) := by
  refine E29 _ _ _ ?_
  unfold T29
  rw [w64 (by omega) (by omega)]
  by_cases h : left < n
  · rw [if_pos h, decide_eq_true (by omega)]; rfl
  · rw [if_neg h, decide_eq_false (by omega)]; rfl
theorem c6 (c : Int) (n : Nat) (cs : List V) (left : Int) (h : n ≤ 9223372036854775807) (h1 : 0 ≤ left) (h2 : left ≤ 4611686018427387904) :
    runE C 6 [.agg [.int .i64 c, .sl n cs], .int .i64 left] = some (.tup [.int .i64 (if left < n then -1 else left - n)]) := by
  refine E6 _ _ _ _ ?_
  unfold T6
  simp only [Int.ofNat_lt, decide_true, decide_false, cond_true, cond_false, inB_nat, inB_zero, must_true, Int.toNat_natCast, asInt_int, asBool_bool, asSl_sl, asOsl_osl, asStr_str, orcE_R, orcE_W, orcE_L, orcE_X, need_some', asTup_tup, List.getElem?_cons_zero, List.getElem?_cons_succ, Bool.not_true, Bool.not_false, Bool.true_and, Bool.and_true, Bool.false_or, ble_dec, beq_dec, List.length_cons, List.length_nil, Nat.mul_one, Nat.zero_add, Nat.add_zero, Nat.sub_zero, both_self', bytesV_length, bytesV_flat, bytesV_isU8, c29 n cs left h h1 h2]
  by_cases h : left < n
  · simp [h]
  · have : ¬ (left - n < 0) := by omega
    simp [h, this]

/-! ### copies -/
theorem l9 (l : List UInt8) (hq : l.length < 4611686018427387904) : ∀ n i, l.length - i = n → i ≤ l.length →
    loopE C 9 0 [true, true, false, true] [] [(0, V.sl l.length (bytesV l)), (3, V.ref 0), (4, V.int .i64 (i : Int))] [Ob.row 5 l.length (bytesV (l.take i ++ (List.replicate l.length 0).drop i)) false] = some (.tup [.osl l.length (bytesV l)]) := by
  intro n
  induction n with
  | zero =>
    intro i h hi
    have : i = l.length := by omega
    subst this
    refine E9l1 _ _ _ _ _ ?_
    unfold T9l1
    simp
  | succ n ih =>
    intro i h hi
    have hlt : i < l.length := by omega
    have hw := w64_succ (n := i) (by omega)
    have ih := ih (i + 1) (by omega) (by omega)
    refine E9l1 _ _ _ _ _ ?_
    unfold T9l1
    have hlen : (l.take i ++ (List.replicate l.length (0 : UInt8)).drop i).length = l.length := by simp; omega
    simp only [Int.ofNat_lt, decide_true, decide_false, cond_true, cond_false, inB_nat, inB_zero, must_true, Int.toNat_natCast, asInt_int, asBool_bool, asSl_sl, asOsl_osl, asStr_str, orcE_R, orcE_W, orcE_L, orcE_X, need_some', asTup_tup, List.getElem?_cons_zero, List.getElem?_cons_succ, Bool.not_true, Bool.not_false, Bool.true_and, Bool.and_true, Bool.false_or, ble_dec, beq_dec, List.length_cons, List.length_nil, Nat.mul_one, Nat.zero_add, Nat.add_zero, Nat.sub_zero, both_self', bytesV_length, bytesV_flat, bytesV_isU8, hlt, bytesV_get hlt, splice_bytes (l := l.take i ++ (List.replicate l.length 0).drop i) (by rw [hlen]; exact hlt), take_drop_set (a := l) (b := List.replicate l.length 0) (by simp) hlt, hw, ih, hlen]
    simp only [show i + (0 + 1) ≤ l.length by omega, Int.ofNat_lt, decide_true, decide_false, cond_true, cond_false, inB_nat, inB_zero, must_true, Int.toNat_natCast, asInt_int, asBool_bool, asSl_sl, asOsl_osl, asStr_str, orcE_R, orcE_W, orcE_L, orcE_X, need_some', asTup_tup, List.getElem?_cons_zero, List.getElem?_cons_succ, Bool.not_true, Bool.not_false, Bool.true_and, Bool.and_true, Bool.false_or, ble_dec, beq_dec, List.length_cons, List.length_nil, Nat.mul_one, Nat.zero_add, Nat.add_zero, Nat.sub_zero, both_self', bytesV_length, bytesV_flat, bytesV_isU8]
theorem c9 (l : List UInt8) (hq : l.length ≤ 140737488355328) : runE C 9 [.sl l.length (bytesV l)] = some (.tup [.osl l.length (bytesV l)]) := by
  refine E9 _ _ ?_
  unfold T9
  have := l9 l (by omega) l.length 0 (by simp) (by simp)
  rw [List.take_zero, List.nil_append, List.drop_zero, ← reps_bytes] at this
  rw [must_of (by simp; omega)]
  simpa using this
theorem c58 (a b c : Int) : runE C 58 [.agg [.int .i64 a, .int .i64 b, .int .i64 c]] = some (.tup [.int .i64 a, .int .i64 b, .int .i64 c]) := E58 _ _ _ rfl
theorem l34 (l : List Itm) (hq : l.length < 4611686018427387904) : ∀ n i, l.length - i = n → i ≤ l.length →
    loopE C 34 0 [true, true, false, true] [] [(0, V.sl l.length (its l)), (3, V.ref 0), (4, V.int .i64 (i : Int))] [Ob.row 52 l.length (its (l.take i ++ (List.replicate l.length ⟨0, 0, 0⟩).drop i)) false] = some (.tup [.osl l.length (its l)]) := by
  intro n
  induction n with
  | zero =>
    intro i h hi
    have : i = l.length := by omega
    subst this
    refine E34l1 _ _ _ _ _ ?_
    unfold T34l1
    simp
  | succ n ih =>
    intro i h hi
    have hlt : i < l.length := by omega
    have hw := w64_succ (n := i) (by omega)
    have ih := ih (i + 1) (by omega) (by omega)
    refine E34l1 _ _ _ _ _ ?_
    unfold T34l1
    have hlen : (l.take i ++ (List.replicate l.length (⟨0, 0, 0⟩ : Itm)).drop i).length = l.length := by simp; omega
    simp only [Int.ofNat_lt, decide_true, decide_false, cond_true, cond_false, inB_nat, inB_zero, must_true, Int.toNat_natCast, asInt_int, asBool_bool, asSl_sl, asOsl_osl, asStr_str, orcE_R, orcE_W, orcE_L, orcE_X, need_some', asTup_tup, List.getElem?_cons_zero, List.getElem?_cons_succ, Bool.not_true, Bool.not_false, Bool.true_and, Bool.and_true, Bool.false_or, ble_dec, beq_dec, List.length_cons, List.length_nil, Nat.mul_one, Nat.zero_add, Nat.add_zero, Nat.sub_zero, both_self', bytesV_length, bytesV_flat, bytesV_isU8, hlt, its_0 hlt, its_1 hlt, its_2' hlt, c58, its_set (l := l.take i ++ (List.replicate l.length ⟨0, 0, 0⟩).drop i) (by rw [hlen]; exact hlt), take_drop_set (a := l) (b := List.replicate l.length ⟨0, 0, 0⟩) (by simp) hlt, hw, ih, hlen, its_length]
    simp only [show i * 3 + (0 + 1 + 1 + 1) ≤ l.length * 3 by omega, Int.ofNat_lt, decide_true, decide_false, cond_true, cond_false, inB_nat, inB_zero, must_true, Int.toNat_natCast, asInt_int, asBool_bool, asSl_sl, asOsl_osl, asStr_str, orcE_R, orcE_W, orcE_L, orcE_X, need_some', asTup_tup, List.getElem?_cons_zero, List.getElem?_cons_succ, Bool.not_true, Bool.not_false, Bool.true_and, Bool.and_true, Bool.false_or, ble_dec, beq_dec, List.length_cons, List.length_nil, Nat.mul_one, Nat.zero_add, Nat.add_zero, Nat.sub_zero, both_self', bytesV_length, bytesV_flat, bytesV_isU8]
theorem c34 (l : List Itm) (hq : l.length ≤ 1000000000) : runE C 34 [.sl l.length (its l)] = some (.tup [.osl l.length (its l)]) := by
  refine E34 _ _ ?_
  unfold T34
  have := l34 l (by omega) l.length 0 (by simp) (by simp)
  rw [List.take_zero, List.nil_append, List.drop_zero, ← its_reps] at this
  rw [must_of (by simp; omega)]
  simpa using this
theorem c8 (c : Int) (l : List Itm) (hq : l.length ≤ 1000000000) : runE C 8 [.agg [.int .i64 c, .sl l.length (its l)]] = some (.tup [.int .i64 c, .osl l.length (its l)]) := by
  refine E8 _ _ _ ?_
  unfold T8
  simp only [Int.ofNat_lt, decide_true, decide_false, cond_true, cond_false, inB_nat, inB_zero, must_true, Int.toNat_natCast, asInt_int, asBool_bool, asSl_sl, asOsl_osl, asStr_str, orcE_R, orcE_W, orcE_L, orcE_X, need_some', asTup_tup, List.getElem?_cons_zero, List.getElem?_cons_succ, Bool.not_true, Bool.not_false, Bool.true_and, Bool.and_true, Bool.false_or, ble_dec, beq_dec, List.length_cons, List.length_nil, Nat.mul_one, Nat.zero_add, Nat.add_zero, Nat.sub_zero, both_self', bytesV_length, bytesV_flat, bytesV_isU8, c34 l hq, its_flat]

/-! ### sameness -/
theorem l13 (a b : List UInt8) (hab : a.length = b.length) (hq : a.length < 4611686018427387904) : ∀ n i, a.length - i = n → i ≤ a.length →
    loopE C 13 0 [true, true, false, true] [] [(0, V.sl a.length (bytesV a)), (1, V.sl b.length (bytesV b)), (5, V.int .i64 (i : Int))] [] = some (.tup [.bool (decide (a.drop i = b.drop i))]) := by
  intro n
  induction n with
  | zero =>
    intro i h hi
    have : i = a.length := by omega
    subst this
    refine E13l1 _ _ _ _ _ ?_
    unfold T13l1
    simp [hab]
  | succ n ih =>
    intro i h hi
    have hlt : i < a.length := by omega
    have hltb : i < b.length := by omega
    have hw := w64_succ (n := i) (by omega)
    have ih := ih (i + 1) (by omega) (by omega)
    refine E13l1 _ _ _ _ _ ?_
    unfold T13l1
    rw [drop_eq_cons hlt, drop_eq_cons hltb, dec_cons]
    simp only [Int.ofNat_lt, decide_true, decide_false, cond_true, cond_false, inB_nat, inB_zero, must_true, Int.toNat_natCast, asInt_int, asBool_bool, asSl_sl, asOsl_osl, asStr_str, orcE_R, orcE_W, orcE_L, orcE_X, need_some', asTup_tup, List.getElem?_cons_zero, List.getElem?_cons_succ, Bool.not_true, Bool.not_false, Bool.true_and, Bool.and_true, Bool.false_or, ble_dec, beq_dec, List.length_cons, List.length_nil, Nat.mul_one, Nat.zero_add, Nat.add_zero, Nat.sub_zero, both_self', bytesV_length, bytesV_flat, bytesV_isU8, hlt, hltb, bytesV_get hlt, bytesV_get hltb, hw, ih]
    by_cases he : a[i] = b[i]
    · simp [he]
    · have : ((a[i].toNat : Int) != (b[i].toNat : Int)) = true := by simp only [bne_iff_ne, ne_eq, byte_eq]; exact he
      simp [this, he]
theorem c13 (a b : List UInt8) (hq : a.length < 4611686018427387904) : runE C 13 [.sl a.length (bytesV a), .sl b.length (bytesV b)] = some (.tup [.bool (decide (a = b))]) := by
  refine E13 _ _ _ _ ?_
  unfold T13
  by_cases h : a.length = b.length
  · have := l13 a b h hq a.length 0 (by simp) (by simp)
    simp only [List.drop_zero] at this
    simpa [h] using this
  · have : a ≠ b := fun e => h (by rw [e])
    have h' : ((a.length : Int) != (b.length : Int)) = true := by simp; omega
    simp [h', this]
theorem c64 (x y : Itm) : runE C 64 [.agg [.int .i64 x.a, .int .i64 x.b, .int .i64 x.c], .agg [.int .i64 y.a, .int .i64 y.b, .int .i64 y.c]] = some (.tup [.bool (decide (x = y))]) := by
  refine E64 _ _ _ _ _ _ ?_
  unfold T64
  obtain ⟨a, b, c⟩ := x
  obtain ⟨a', b', c'⟩ := y
  by_cases h1 : a = a'
  · by_cases h2 : b = b'
    · by_cases h3 : c = c'
      · simp [h1, h2, h3]
      · simp [h1, h2, h3, bne_t h3]
    · simp [h1, h2, bne_t h2]
  · simp [h1, bne_t h1]
theorem l38 (a b : List Itm) (hab : a.length = b.length) (hq : a.length < 4611686018427387904) : ∀ n i, a.length - i = n → i ≤ a.length →
    loopE C 38 0 [true, true, false, true] [] [(0, V.sl a.length (its a)), (1, V.sl b.length (its b)), (5, V.int .i64 (i : Int))] [] = some (.tup [.bool (decide (a.drop i = b.drop i))]) := by
  intro n
  induction n with
  | zero =>
    intro i h hi
    have : i = a.length := by omega
    subst this
    refine E38l1 _ _ _ _ _ ?_
    unfold T38l1
    simp [hab]
  | succ n ih =>
    intro i h hi
    have hlt : i < a.length := by omega
    have hltb : i < b.length := by omega
    have hw := w64_succ (n := i) (by omega)
    have ih := ih (i + 1) (by omega) (by omega)
    refine E38l1 _ _ _ _ _ ?_
    unfold T38l1
    rw [drop_eq_cons hlt, drop_eq_cons hltb, dec_cons]
    simp only [Int.ofNat_lt, decide_true, decide_false, cond_true, cond_false, inB_nat, inB_zero, must_true, Int.toNat_natCast, asInt_int, asBool_bool, asSl_sl, asOsl_osl, asStr_str, orcE_R, orcE_W, orcE_L, orcE_X, need_some', asTup_tup, List.getElem?_cons_zero, List.getElem?_cons_succ, Bool.not_true, Bool.not_false, Bool.true_and, Bool.and_true, Bool.false_or, ble_dec, beq_dec, List.length_cons, List.length_nil, Nat.mul_one, Nat.zero_add, Nat.add_zero, Nat.sub_zero, both_self', bytesV_length, bytesV_flat, bytesV_isU8, hlt, hltb, its_0 hlt, its_1 hlt, its_2' hlt, its_0 hltb, its_1 hltb, its_2' hltb, c64, hw, ih]
    by_cases he : a[i] = b[i] <;> simp [he]
theorem c38 (a b : List Itm) (hq : a.length < 4611686018427387904) : runE C 38 [.sl a.length (its a), .sl b.length (its b)] = some (.tup [.bool (decide (a = b))]) := by
  refine E38 _ _ _ _ ?_
  unfold T38
  by_cases h : a.length = b.length
  · have := l38 a b h hq a.length 0 (by simp) (by simp)
    simp only [List.drop_zero] at this
    simpa [h] using this
  · have : a ≠ b := fun e => h (by rw [e])
    have h' : ((a.length : Int) != (b.length : Int)) = true := by simp; omega
    simp [h', this]
theorem c12 (c c' : Int) (a b : List Itm) (hq : a.length < 4611686018427387904) : runE C 12 [.agg [.int .i64 c, .sl a.length (its a)], .agg [.int .i64 c', .sl b.length (its b)]] = some (.tup [.bool (decide (c = c' ∧ a = b))]) := by
  refine E12 _ _ _ _ _ _ ?_
  unfold T12
  simp only [Int.ofNat_lt, decide_true, decide_false, cond_true, cond_false, inB_nat, inB_zero, must_true, Int.toNat_natCast, asInt_int, asBool_bool, asSl_sl, asOsl_osl, asStr_str, orcE_R, orcE_W, orcE_L, orcE_X, need_some', asTup_tup, List.getElem?_cons_zero, List.getElem?_cons_succ, Bool.not_true, Bool.not_false, Bool.true_and, Bool.and_true, Bool.false_or, ble_dec, beq_dec, List.length_cons, List.length_nil, Nat.mul_one, Nat.zero_add, Nat.add_zero, Nat.sub_zero, both_self', bytesV_length, bytesV_flat, bytesV_isU8, c38 a b hq]
  by_cases h : c = c'
  · by_cases h2 : a = b <;> simp [h, h2]
  · simp [h, bne_t h]
theorem c11 (k k' c c' : Int) (a b : List Itm) (hq : a.length < 4611686018427387904) :
    runE C 11 [.agg [.int .i64 k, .int .i64 c, .sl a.length (its a)], .agg [.int .i64 k', .int .i64 c', .sl b.length (its b)]] = some (.tup [.bool (decide (k = k' ∧ c = c' ∧ a = b))]) := by
  refine E11 _ _ _ _ _ _ _ _ ?_
  unfold T11
  simp only [Int.ofNat_lt, decide_true, decide_false, cond_true, cond_false, inB_nat, inB_zero, must_true, Int.toNat_natCast, asInt_int, asBool_bool, asSl_sl, asOsl_osl, asStr_str, orcE_R, orcE_W, orcE_L, orcE_X, need_some', asTup_tup, List.getElem?_cons_zero, List.getElem?_cons_succ, Bool.not_true, Bool.not_false, Bool.true_and, Bool.and_true, Bool.false_or, ble_dec, beq_dec, List.length_cons, List.length_nil, Nat.mul_one, Nat.zero_add, Nat.add_zero, Nat.sub_zero, both_self', bytesV_length, bytesV_flat, bytesV_isU8, c12 c c' a b hq]
  by_cases h : k = k'
  · by_cases h2 : c = c' ∧ a = b <;> simp [h, h2]
  · simp [h, bne_t h]

/-! ### marks -/
theorem l15 (l : List UInt8) (k : Int) (hk : 0 ≤ k) (hq : l.length < 1000000000) (hk2 : k < 4611686018427387904) : ∀ n i (l' : List UInt8), l.length - i = n → i ≤ l.length → l'.length = l.length →
    ∃ l'', l''.length = l.length ∧ loopWE C 15 [0] [Ob.row 5 0 [] false] 0 [true, false, true] [] [(0, V.ref 0), (1, V.int .i64 (k + i)), (5, V.int .i64 (i : Int))] [Ob.row 5 l.length (bytesV l') false] = some (.tup [.int .i64 (k + l.length), .osl l.length (bytesV l'')]) := by
  intro n
  induction n with
  | zero =>
    intro i l' h hi hl
    have : i = l.length := by omega
    subst this
    refine ⟨l', hl, E15l1 _ _ _ _ ?_⟩
    unfold T15l1
    simp
  | succ n ih =>
    intro i l' h hi hl
    have hlt : i < l.length := by omega
    have hw := w64_succ (n := i) (by omega)
    obtain ⟨l'', h1, ih⟩ := ih (i + 1) (l'.set i (b8 (k + i))) (by omega) (by omega) (by simp [hl])
    refine ⟨l'', h1, E15l1 _ _ _ _ ?_⟩
    unfold T15l1
    have hk' : IntKind.i64.wrap (k + i + 1) = k + ((i + 1 : Nat) : Int) := by rw [w64 (by omega) (by omega)]; omega
    simp only [Int.ofNat_lt, decide_true, decide_false, cond_true, cond_false, inB_nat, inB_zero, must_true, Int.toNat_natCast, asInt_int, asBool_bool, asSl_sl, asOsl_osl, asStr_str, orcE_R, orcE_W, orcE_L, orcE_X, need_some', asTup_tup, List.getElem?_cons_zero, List.getElem?_cons_succ, Bool.not_true, Bool.not_false, Bool.true_and, Bool.and_true, Bool.false_or, ble_dec, beq_dec, List.length_cons, List.length_nil, Nat.mul_one, Nat.zero_add, Nat.add_zero, Nat.sub_zero, both_self', bytesV_length, bytesV_flat, bytesV_isU8, hlt, wrap_b8, splice_bytes (l := l') (i := i) (by omega), hw, hk', ih, hl]
    simp only [show i + (0 + 1) ≤ l.length by omega, Int.ofNat_lt, decide_true, decide_false, cond_true, cond_false, inB_nat, inB_zero, must_true, Int.toNat_natCast, asInt_int, asBool_bool, asSl_sl, asOsl_osl, asStr_str, orcE_R, orcE_W, orcE_L, orcE_X, need_some', asTup_tup, List.getElem?_cons_zero, List.getElem?_cons_succ, Bool.not_true, Bool.not_false, Bool.true_and, Bool.and_true, Bool.false_or, ble_dec, beq_dec, List.length_cons, List.length_nil, Nat.mul_one, Nat.zero_add, Nat.add_zero, Nat.sub_zero, both_self', bytesV_length, bytesV_flat, bytesV_isU8]
theorem c15 (l : List UInt8) (k : Int) (hk : 0 ≤ k) (hq : l.length < 1000000000) (hk2 : k < 4611686018427387904) :
    ∃ l', l'.length = l.length ∧ runWE C 15 [0] [.ref 0, .int .i64 k] [.row 5 l.length (bytesV l) false] = some (.tup [.int .i64 (k + l.length), .osl l.length (bytesV l')]) := by
  obtain ⟨l', h1, h2⟩ := l15 l k hk hq hk2 l.length 0 l (by simp) (by simp) rfl
  refine ⟨l', h1, E15 _ _ _ ?_⟩
  unfold T15
  simpa using h2
theorem l39 (l : List Itm) (k : Int) (hk : 0 ≤ k) (hq : l.length < 1000000000) (hk2 : k < 4611686018427387904) : ∀ n i, l.length - i = n → i ≤ l.length →
    loopWE C 39 [0] [Ob.row 52 0 [] false] 0 [true, false, true] [] [(0, V.ref 0), (1, V.int .i64 (k + 3 * i)), (5, V.int .i64 (i : Int))] [Ob.row 52 l.length (its ((mkI k l).take i ++ l.drop i)) false] = some (.tup [.int .i64 (k + 3 * l.length), .osl l.length (its (mkI k l))]) := by
  intro n
  induction n with
  | zero =>
    intro i h hi
    have : i = l.length := by omega
    subst this
    refine E39l1 _ _ _ _ ?_
    unfold T39l1
    have : (mkI k l).take l.length = mkI k l := List.take_of_length_le (by simp)
    simp [this]
  | succ n ih =>
    intro i h hi
    have hlt : i < l.length := by omega
    have hw := w64_succ (n := i) (by omega)
    have ih := ih (i + 1) (by omega) (by omega)
    refine E39l1 _ _ _ _ ?_
    unfold T39l1
    have k1 : IntKind.i64.wrap (k + 3 * i + 1) = k + 3 * i + 1 := w64 (by omega) (by omega)
    have k2 : IntKind.i64.wrap (k + 3 * i + 1 + 1) = k + 3 * i + 2 := by rw [w64 (by omega) (by omega)]; omega
    have k3 : IntKind.i64.wrap (k + 3 * i + 2 + 1) = k + 3 * ((i + 1 : Nat) : Int) := by rw [w64 (by omega) (by omega)]; omega
    obtain ⟨L, hL⟩ : ∃ L, L = (mkI k l).take i ++ l.drop i := ⟨_, rfl⟩
    have hlen : L.length = l.length := by rw [hL]; simp; omega
    have hi0 : i < L.length := by omega
    have hset : L.set i ⟨k + 3 * i, k + 3 * i + 1, k + 3 * i + 2⟩ = (mkI k l).take (i + 1) ++ l.drop (i + 1) := by
      rw [hL, ← take_drop_set (a := mkI k l) (b := l) (by simp) (by simpa using hlt), mkI_get]
    rw [← hL]
    simp only [Int.ofNat_lt, decide_true, decide_false, cond_true, cond_false, inB_nat, inB_zero, must_true, Int.toNat_natCast, asInt_int, asBool_bool, asSl_sl, asOsl_osl, asStr_str, orcE_R, orcE_W, orcE_L, orcE_X, need_some', asTup_tup, List.getElem?_cons_zero, List.getElem?_cons_succ, Bool.not_true, Bool.not_false, Bool.true_and, Bool.and_true, Bool.false_or, ble_dec, beq_dec, List.length_cons, List.length_nil, Nat.mul_one, Nat.zero_add, Nat.add_zero, Nat.sub_zero, both_self', bytesV_length, bytesV_flat, bytesV_isU8, hlt, k1, k2, k3, its_set0 hi0, its_set1 (l := L.set i _) (i := i) (by simpa using hi0), its_set2 (l := L.set i _) (i := i) (by simpa using hi0), hw, its_length, List.length_set, hlen, List.set_set, List.getElem_set_self, hset, ih]
    simp only [show i * 3 + 1 ≤ l.length * 3 by omega, show i * 3 + 1 + 1 ≤ l.length * 3 by omega, show i * 3 + 2 + 1 ≤ l.length * 3 by omega, Int.ofNat_lt, decide_true, decide_false, cond_true, cond_false, inB_nat, inB_zero, must_true, Int.toNat_natCast, asInt_int, asBool_bool, asSl_sl, asOsl_osl, asStr_str, orcE_R, orcE_W, orcE_L, orcE_X, need_some', asTup_tup, List.getElem?_cons_zero, List.getElem?_cons_succ, Bool.not_true, Bool.not_false, Bool.true_and, Bool.and_true, Bool.false_or, ble_dec, beq_dec, List.length_cons, List.length_nil, Nat.mul_one, Nat.zero_add, Nat.add_zero, Nat.sub_zero, both_self', bytesV_length, bytesV_flat, bytesV_isU8]
theorem c39 (l : List Itm) (k : Int) (hk : 0 ≤ k) (hq : l.length < 1000000000) (hk2 : k < 4611686018427387904) :
    runWE C 39 [0] [.ref 0, .int .i64 k] [.row 52 l.length (its l) false] = some (.tup [.int .i64 (k + 3 * l.length), .osl l.length (its (mkI k l))]) := by
  have h := l39 l k hk hq hk2 l.length 0 (by simp) (by simp)
  refine E39 _ _ _ ?_
  unfold T39
  simpa using h
theorem c14 (c : Int) (l : List Itm) (k : Int) (hk : 0 ≤ k) (hq : l.length < 1000000000) (hk2 : k < 4611686018427387904) :
    runWE C 14 [0] [.agg [.int .i64 c, .ref 0], .int .i64 k] [.row 52 l.length (its l) false] = some (.tup [.int .i64 (k + 3 * l.length), .osl l.length (its (mkI k l))]) := by
  refine E14 _ _ _ _ ?_
  unfold T14
  simp only [Int.ofNat_lt, decide_true, decide_false, cond_true, cond_false, inB_nat, inB_zero, must_true, Int.toNat_natCast, asInt_int, asBool_bool, asSl_sl, asOsl_osl, asStr_str, orcE_R, orcE_W, orcE_L, orcE_X, need_some', asTup_tup, List.getElem?_cons_zero, List.getElem?_cons_succ, Bool.not_true, Bool.not_false, Bool.true_and, Bool.and_true, Bool.false_or, ble_dec, beq_dec, List.length_cons, List.length_nil, Nat.mul_one, Nat.zero_add, Nat.add_zero, Nat.sub_zero, both_self', bytesV_length, bytesV_flat, bytesV_isU8, c39 l k hk hq hk2, its_flat]
theorem c16 (e c : Int) (l : List Itm) (k : Int) (hk : 0 ≤ k) (hq : l.length < 1000000000) (hk2 : k < 4611686018427387904) :
    runWE C 16 [0] [.agg [.int .i64 e, .int .i64 c, .ref 0], .int .i64 k] [.row 52 l.length (its l) false] = some (.tup [.int .i64 (k + 3 * l.length), .osl l.length (its (mkI k l))]) := by
  refine E16 _ _ _ _ _ ?_
  unfold T16
  simp only [Int.ofNat_lt, decide_true, decide_false, cond_true, cond_false, inB_nat, inB_zero, must_true, Int.toNat_natCast, asInt_int, asBool_bool, asSl_sl, asOsl_osl, asStr_str, orcE_R, orcE_W, orcE_L, orcE_X, need_some', asTup_tup, List.getElem?_cons_zero, List.getElem?_cons_succ, Bool.not_true, Bool.not_false, Bool.true_and, Bool.and_true, Bool.false_or, ble_dec, beq_dec, List.length_cons, List.length_nil, Nat.mul_one, Nat.zero_add, Nat.add_zero, Nat.sub_zero, both_self', bytesV_length, bytesV_flat, bytesV_isU8, c14 c l k hk hq hk2, its_flat]
theorem l65 (l : List Itm) (k : Int) (hk : 0 ≤ k) (hq : l.length < 1000000000) (hk2 : k < 4611686018427387904) : ∀ n i, l.length - i = n → i ≤ l.length →
    loopE C 65 0 [true, false, true] [] [(0, V.sl l.length (its (mkI k l))), (1, V.int .i64 (k + 3 * i)), (5, V.int .i64 (i : Int))] [] = some (.tup [.int .i64 (k + 3 * l.length)]) := by
  intro n
  induction n with
  | zero =>
    intro i h hi
    have : i = l.length := by omega
    subst this
    refine E65l1 _ _ _ _ ?_
    unfold T65l1
    simp
  | succ n ih =>
    intro i h hi
    have hlt : i < l.length := by omega
    have hltm : i < (mkI k l).length := by simpa using hlt
    have hw := w64_succ (n := i) (by omega)
    have ih := ih (i + 1) (by omega) (by omega)
    refine E65l1 _ _ _ _ ?_
    unfold T65l1
    have k1 : IntKind.i64.wrap (k + 3 * i + 1) = k + 3 * i + 1 := w64 (by omega) (by omega)
    have k2 : IntKind.i64.wrap (k + 3 * i + 1 + 1) = k + 3 * i + 2 := by rw [w64 (by omega) (by omega)]; omega
    have k3 : IntKind.i64.wrap (k + 3 * i + 2 + 1) = k + 3 * ((i + 1 : Nat) : Int) := by rw [w64 (by omega) (by omega)]; omega
    simp only [Int.ofNat_lt, decide_true, decide_false, cond_true, cond_false, inB_nat, inB_zero, must_true, Int.toNat_natCast, asInt_int, asBool_bool, asSl_sl, asOsl_osl, asStr_str, orcE_R, orcE_W, orcE_L, orcE_X, need_some', asTup_tup, List.getElem?_cons_zero, List.getElem?_cons_succ, Bool.not_true, Bool.not_false, Bool.true_and, Bool.and_true, Bool.false_or, ble_dec, beq_dec, List.length_cons, List.length_nil, Nat.mul_one, Nat.zero_add, Nat.add_zero, Nat.sub_zero, both_self', bytesV_length, bytesV_flat, bytesV_isU8, hlt, its_0 hltm, its_1 hltm, its_2 hltm, mkI_get, k1, k2, k3, hw, bne_self_eq_false, ih]
theorem c17 (e c : Int) (l : List Itm) (k : Int) (hk : 0 ≤ k) (hq : l.length < 1000000000) (hk2 : k < 4611686018427387904) :
    runE C 17 [.agg [.int .i64 e, .int .i64 c, .sl l.length (its (mkI k l))], .int .i64 k] = some (.tup [.int .i64 (k + 3 * l.length)]) := by
  have h := l65 l k hk hq hk2 l.length 0 (by simp) (by simp)
  have h1 : runE C 65 [.sl l.length (its (mkI k l)), .int .i64 k] = some (.tup [.int .i64 (k + 3 * l.length)]) := by
    refine E65 _ _ _ ?_
    unfold T65
    simpa using h
  have hn : ¬ (k + 3 * (l.length : Int) < 0) := by omega
  have h2 : runE C 40 [.agg [.int .i64 c, .sl l.length (its (mkI k l))], .int .i64 k] = some (.tup [.int .i64 (k + 3 * l.length)]) := by
    refine E40 _ _ _ _ ?_
    unfold T40
    simp only [Int.ofNat_lt, decide_true, decide_false, cond_true, cond_false, inB_nat, inB_zero, must_true, Int.toNat_natCast, asInt_int, asBool_bool, asSl_sl, asOsl_osl, asStr_str, orcE_R, orcE_W, orcE_L, orcE_X, need_some', asTup_tup, List.getElem?_cons_zero, List.getElem?_cons_succ, Bool.not_true, Bool.not_false, Bool.true_and, Bool.and_true, Bool.false_or, ble_dec, beq_dec, List.length_cons, List.length_nil, Nat.mul_one, Nat.zero_add, Nat.add_zero, Nat.sub_zero, both_self', bytesV_length, bytesV_flat, bytesV_isU8, h1, hn]
  refine E17 _ _ _ _ _ ?_
  unfold T17
  simp only [Int.ofNat_lt, decide_true, decide_false, cond_true, cond_false, inB_nat, inB_zero, must_true, Int.toNat_natCast, asInt_int, asBool_bool, asSl_sl, asOsl_osl, asStr_str, orcE_R, orcE_W, orcE_L, orcE_X, need_some', asTup_tup, List.getElem?_cons_zero, List.getElem?_cons_succ, Bool.not_true, Bool.not_false, Bool.true_and, Bool.and_true, Bool.false_or, ble_dec, beq_dec, List.length_cons, List.length_nil, Nat.mul_one, Nat.zero_add, Nat.add_zero, Nat.sub_zero, both_self', bytesV_length, bytesV_flat, bytesV_isU8, h2, hn]
end Go.Proofs.Ytkjjneejmjfhlaa.Rel
