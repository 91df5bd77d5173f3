/-
  The relayer's functions, each by its plain word: faults, records, turns.
-/
import Derived.Test.YtkjjneejmjfhlaaPLRelayT5
namespace Go.Proofs.Ytkjjneejmjfhlaa.Rel
open Go Go.PI Go.PI.Rel Eq5
set_option maxHeartbeats 1000000
set_option linter.unusedVariables false
set_option linter.unusedSimpArgs false

/-! ### faults -/
theorem l30 (c : Int) (q : List Itm) (hq : q.length < 4611686018427387904) : ∀ n i, q.length - i = n → i ≤ q.length →
    loopE C 30 0 [true, true, true, false, true] [] [(1, V.ptr 0 0), (3, V.int .i64 (i : Int))] [Ob.box 29 [V.int .i64 c, V.sl q.length (its q)] false] = some (.tup [.int .i64 (rf c (prevA q i) (q.drop i))]) := by
  intro n
  induction n with
  | zero =>
    intro i h hi
    have : i = q.length := by omega
    subst this
    refine E30l1 _ _ _ _ ?_
    unfold T30l1
    simp [rf]
  | succ n ih =>
    intro i h hi
    have hlt : i < q.length := by omega
    have hw := w64_succ (n := i) (by omega)
    have ih := ih (i + 1) (by omega) (by omega)
    refine E30l1 _ _ _ _ ?_
    unfold T30l1
    rw [drop_eq_cons hlt]
    simp only [Int.ofNat_lt, decide_true, decide_false, cond_true, cond_false, inB_nat, inB_zero, must_true, Int.toNat_natCast, asInt_int, asBool_bool, asSl_sl, asOsl_osl, asStr_str, orcE_R, orcE_W, orcE_L, orcE_X, need_some', asTup_tup, List.getElem?_cons_zero, List.getElem?_cons_succ, Bool.not_true, Bool.not_false, Bool.true_and, Bool.and_true, Bool.false_or, ble_dec, beq_dec, List.length_cons, List.length_nil, Nat.mul_one, Nat.zero_add, Nat.add_zero, Nat.sub_zero, both_self', bytesV_length, bytesV_flat, bytesV_isU8, hlt, its_0 hlt, its_1 hlt, its_2' hlt, c51, rf, hw, ih]
    have hp : prevA q (i + 1) = some q[i].a := by simp [prevA, hlt]
    by_cases h1 : 1 ≤ q[i].a ∧ q[i].a ≤ c
    · by_cases h2 : 0 ≤ q[i].b ∧ q[i].b ≤ 8
      · by_cases h3 : 0 ≤ q[i].c ∧ q[i].c ≤ 2199023255552
        · cases i with
          | zero => simp [h1, h2, h3, hp, show prevA q 0 = none from rfl]
          | succ j =>
            have hj : j < q.length := by omega
            have hw2 : IntKind.i64.wrap (((j + 1 : Nat) : Int) - 1) = (j : Int) := by rw [w64 (by omega) (by omega)]; omega
            have hpj : prevA q (j + 1) = some q[j].a := by simp [prevA, hj]
            have hgt : ((j + 1 : Nat) : Int) > 0 := by omega
            simp only [hw2, hp, hpj, hgt, Int.ofNat_lt, decide_true, decide_false, cond_true, cond_false, inB_nat, inB_zero, must_true, Int.toNat_natCast, asInt_int, asBool_bool, asSl_sl, asOsl_osl, asStr_str, orcE_R, orcE_W, orcE_L, orcE_X, need_some', asTup_tup, List.getElem?_cons_zero, List.getElem?_cons_succ, Bool.not_true, Bool.not_false, Bool.true_and, Bool.and_true, Bool.false_or, ble_dec, beq_dec, List.length_cons, List.length_nil, Nat.mul_one, Nat.zero_add, Nat.add_zero, Nat.sub_zero, both_self', bytesV_length, bytesV_flat, bytesV_isU8, hj, its_0 hj, h1, h2, h3]
            by_cases h4 : q[j + 1].a ≤ q[j].a <;> simp [h4]
        · simp [h1, h2, h3]
      · simp [h1, h2]
    · simp [h1]
theorem c30 (c : Int) (q : List Itm) (hq : q.length < 4611686018427387904) : runE C 30 [.agg [.int .i64 c, .sl q.length (its q)]] = some (.tup [.int .i64 (fault c q)]) := by
  refine E30 _ _ _ ?_
  unfold T30
  have h := l30 c q hq q.length 0 (by simp) (by simp)
  simp only [Int.ofNat_lt, decide_true, decide_false, cond_true, cond_false, inB_nat, inB_zero, must_true, Int.toNat_natCast, asInt_int, asBool_bool, asSl_sl, asOsl_osl, asStr_str, orcE_R, orcE_W, orcE_L, orcE_X, need_some', asTup_tup, List.getElem?_cons_zero, List.getElem?_cons_succ, Bool.not_true, Bool.not_false, Bool.true_and, Bool.and_true, Bool.false_or, ble_dec, beq_dec, List.length_cons, List.length_nil, Nat.mul_one, Nat.zero_add, Nat.add_zero, Nat.sub_zero, both_self', bytesV_length, bytesV_flat, bytesV_isU8, c51, fault]
  by_cases h1 : 0 ≤ c ∧ c ≤ 1000000
  · by_cases h2 : 12 < q.length
    · have : (q.length : Int) > 12 := by omega
      simp [h1, h2, this]
    · have : ¬ ((q.length : Int) > 12) := by omega
      simpa [h1, h2, this, prevA] using h
  · simp [h1]
theorem l23 (c : Int) (q : List Itm) (hq : q.length < 4611686018427387904) : ∀ n i, q.length - i = n → i ≤ q.length →
    loopE C 23 1 [true, true, false, true] [] [(1, V.ptr 0 0), (16, V.sl q.length (its q)), (17, V.int .i64 (q.length : Int)), (18, V.int .i64 (i : Int))] [Ob.box 29 [V.int .i64 c, V.sl q.length (its q)] false] = some (.tup [.int .i64 (rf c (prevA q i) (q.drop i))]) := by
  intro n
  induction n with
  | zero =>
    intro i h hi
    have : i = q.length := by omega
    subst this
    refine E23l1 _ _ _ _ _ _ _ ?_
    unfold T23l1
    simp [rf]
  | succ n ih =>
    intro i h hi
    have hlt : i < q.length := by omega
    have hw := w64_succ (n := i) (by omega)
    have ih := ih (i + 1) (by omega) (by omega)
    refine E23l1 _ _ _ _ _ _ _ ?_
    unfold T23l1
    rw [drop_eq_cons hlt]
    simp only [Int.ofNat_lt, decide_true, decide_false, cond_true, cond_false, inB_nat, inB_zero, must_true, Int.toNat_natCast, asInt_int, asBool_bool, asSl_sl, asOsl_osl, asStr_str, orcE_R, orcE_W, orcE_L, orcE_X, need_some', asTup_tup, List.getElem?_cons_zero, List.getElem?_cons_succ, Bool.not_true, Bool.not_false, Bool.true_and, Bool.and_true, Bool.false_or, ble_dec, beq_dec, List.length_cons, List.length_nil, Nat.mul_one, Nat.zero_add, Nat.add_zero, Nat.sub_zero, both_self', bytesV_length, bytesV_flat, bytesV_isU8, hlt, its_0 hlt, its_1 hlt, its_2' hlt, c47, rf, hw, ih]
    have hp : prevA q (i + 1) = some q[i].a := by simp [prevA, hlt]
    by_cases h1 : 1 ≤ q[i].a ∧ q[i].a ≤ c
    · by_cases h2 : 0 ≤ q[i].b ∧ q[i].b ≤ 8
      · by_cases h3 : 0 ≤ q[i].c ∧ q[i].c ≤ 2199023255552
        · cases i with
          | zero => simp [h1, h2, h3, hp, show prevA q 0 = none from rfl]
          | succ j =>
            have hj : j < q.length := by omega
            have hw2 : IntKind.i64.wrap (((j + 1 : Nat) : Int) - 1) = (j : Int) := by rw [w64 (by omega) (by omega)]; omega
            have hpj : prevA q (j + 1) = some q[j].a := by simp [prevA, hj]
            have hgt : ((j + 1 : Nat) : Int) > 0 := by omega
            simp only [hw2, hp, hpj, hgt, Int.ofNat_lt, decide_true, decide_false, cond_true, cond_false, inB_nat, inB_zero, must_true, Int.toNat_natCast, asInt_int, asBool_bool, asSl_sl, asOsl_osl, asStr_str, orcE_R, orcE_W, orcE_L, orcE_X, need_some', asTup_tup, List.getElem?_cons_zero, List.getElem?_cons_succ, Bool.not_true, Bool.not_false, Bool.true_and, Bool.and_true, Bool.false_or, ble_dec, beq_dec, List.length_cons, List.length_nil, Nat.mul_one, Nat.zero_add, Nat.add_zero, Nat.sub_zero, both_self', bytesV_length, bytesV_flat, bytesV_isU8, hj, its_0 hj, h1, h2, h3, ge_iff_le]
            by_cases h4 : q[j + 1].a ≤ q[j].a <;> simp [h4]
        · simp [h1, h2, h3]
      · simp [h1, h2]
    · simp [h1]
theorem c23 (c : Int) (q : List Itm) (hq : q.length < 4611686018427387904) : runE C 23 [.agg [.int .i64 c, .sl q.length (its q)]] = some (.tup [.int .i64 (fault c q)]) := by
  refine E23 _ _ _ ?_
  unfold T23
  have h := l23 c q hq q.length 0 (by simp) (by simp)
  simp only [Int.ofNat_lt, decide_true, decide_false, cond_true, cond_false, inB_nat, inB_zero, must_true, Int.toNat_natCast, asInt_int, asBool_bool, asSl_sl, asOsl_osl, asStr_str, orcE_R, orcE_W, orcE_L, orcE_X, need_some', asTup_tup, List.getElem?_cons_zero, List.getElem?_cons_succ, Bool.not_true, Bool.not_false, Bool.true_and, Bool.and_true, Bool.false_or, ble_dec, beq_dec, List.length_cons, List.length_nil, Nat.mul_one, Nat.zero_add, Nat.add_zero, Nat.sub_zero, both_self', bytesV_length, bytesV_flat, bytesV_isU8, c47, fault]
  by_cases h1 : 0 ≤ c ∧ c ≤ 1000000
  · by_cases h2 : 12 < q.length
    · have : (q.length : Int) > 12 := by omega
      simp [h1, h2, this]
    · have : ¬ ((q.length : Int) > 12) := by omega
      simpa [h1, h2, this, prevA] using h
  · simp [h1]

/-! ### copies -/
theorem c31 (c : Int) (q : List Itm) (hq : q.length ≤ 1000000000) : runE C 31 [.agg [.int .i64 c, .sl q.length (its q)]] = some (.tup [.int .i64 c, .osl q.length (its q)]) := by
  refine E31 _ _ _ ?_
  unfold T31
  have h1 : q.length ≤ 140737488355328 := by omega
  have h2 : q.length * 24 ≤ 140737488355328 := by omega
  simp only [Int.ofNat_lt, decide_true, decide_false, cond_true, cond_false, inB_nat, inB_zero, must_true, Int.toNat_natCast, asInt_int, asBool_bool, asSl_sl, asOsl_osl, asStr_str, orcE_R, orcE_W, orcE_L, orcE_X, need_some', asTup_tup, List.getElem?_cons_zero, List.getElem?_cons_succ, Bool.not_true, Bool.not_false, Bool.true_and, Bool.and_true, Bool.false_or, ble_dec, beq_dec, List.length_cons, List.length_nil, Nat.mul_one, Nat.zero_add, Nat.add_zero, Nat.sub_zero, both_self', bytesV_length, bytesV_flat, bytesV_isU8, its_length, its_flat, h1, h2]
theorem c78 (q : List Itm) (hq : q.length ≤ 1000000000) : runE C 78 [.sl q.length (its q)] = some (.tup [.osl q.length (its q)]) := by
  refine E78 _ _ ?_
  unfold T78
  have h1 : q.length ≤ 140737488355328 := by omega
  have h2 : q.length * 24 ≤ 140737488355328 := by omega
  by_cases h0 : q.length = 0
  · have : q = [] := List.eq_nil_of_length_eq_zero h0
    subst this; simp [its_nil]
  · simp only [Int.ofNat_lt, decide_true, decide_false, cond_true, cond_false, inB_nat, inB_zero, must_true, Int.toNat_natCast, asInt_int, asBool_bool, asSl_sl, asOsl_osl, asStr_str, orcE_R, orcE_W, orcE_L, orcE_X, need_some', asTup_tup, List.getElem?_cons_zero, List.getElem?_cons_succ, Bool.not_true, Bool.not_false, Bool.true_and, Bool.and_true, Bool.false_or, ble_dec, beq_dec, List.length_cons, List.length_nil, Nat.mul_one, Nat.zero_add, Nat.add_zero, Nat.sub_zero, both_self', bytesV_length, bytesV_flat, bytesV_isU8, its_length, its_flat, h0, h1, h2]
theorem c59 (c : Int) (q : List Itm) (hq : q.length ≤ 1000000000) : runE C 59 [.agg [.int .i64 c, .sl q.length (its q)]] = some (.tup [.int .i64 c, .osl q.length (its q)]) := by
  refine E59 _ _ _ ?_
  unfold T59
  simp only [Int.ofNat_lt, decide_true, decide_false, cond_true, cond_false, inB_nat, inB_zero, must_true, Int.toNat_natCast, asInt_int, asBool_bool, asSl_sl, asOsl_osl, asStr_str, orcE_R, orcE_W, orcE_L, orcE_X, need_some', asTup_tup, List.getElem?_cons_zero, List.getElem?_cons_succ, Bool.not_true, Bool.not_false, Bool.true_and, Bool.and_true, Bool.false_or, ble_dec, beq_dec, List.length_cons, List.length_nil, Nat.mul_one, Nat.zero_add, Nat.add_zero, Nat.sub_zero, both_self', bytesV_length, bytesV_flat, bytesV_isU8, c78 q hq, its_flat]
theorem c33 (c : Int) (n : Nat) (cs : List V) (e : Int) : runE C 33 [.agg [.int .i64 c, .sl n cs], .int .i64 e] = some (.tup (if e = 0 then [.int .i64 0, .int .i64 c, .sl n cs] else [.int .i64 e, .int .i64 0, .sl 0 []])) := by
  refine E33 _ _ _ _ ?_
  unfold T33
  by_cases h : e = 0
  · simp [h]
  · simp [h, bne_t h]

/-! ### numbers as bytes -/
theorem l52 (l : List UInt8) (hl : l.length ≤ 7) : ∀ n i, l.length - i = n → i ≤ l.length →
    loopE C 52 0 [true, true, false, true] [] [(0, V.sl l.length (bytesV l)), (3, V.int .i64 (numOf (l.take i))), (4, V.int .i64 (i : Int))] [] = some (.tup [.int .i64 (numOf l)]) := by
  intro n
  induction n with
  | zero =>
    intro i h hi
    have : i = l.length := by omega
    subst this
    refine E52l1 _ _ _ _ ?_
    unfold T52l1
    simp
  | succ n ih =>
    intro i h hi
    have hlt : i < l.length := by omega
    have hw := w64_succ (n := i) (by omega)
    have ih := ih (i + 1) (by omega) (by omega)
    refine E52l1 _ _ _ _ ?_
    unfold T52l1
    obtain ⟨b1, b2⟩ := numOf_lt (l.take i)
    have hle : (l.take i).length ≤ 6 := by rw [List.length_take]; omega
    have b3 : numOf (l.take i) < 281474976710656 := by
      refine Int.lt_of_lt_of_le b2 ?_
      exact pow256 hle
    have e1 : IntKind.i64.wrap (numOf (l.take i) * 256) = numOf (l.take i) * 256 := w64 (by omega) (by omega)
    have e3 : IntKind.i64.wrap (numOf (l.take i) * 256 + (l[i].toNat : Int)) = numOf (l.take (i + 1)) := by
      have := l[i].toNat_lt
      rw [w64 (by omega) (by omega), numOf_take hlt]
    simp only [Int.ofNat_lt, decide_true, decide_false, cond_true, cond_false, inB_nat, inB_zero, must_true, Int.toNat_natCast, asInt_int, asBool_bool, asSl_sl, asOsl_osl, asStr_str, orcE_R, orcE_W, orcE_L, orcE_X, need_some', asTup_tup, List.getElem?_cons_zero, List.getElem?_cons_succ, Bool.not_true, Bool.not_false, Bool.true_and, Bool.and_true, Bool.false_or, ble_dec, beq_dec, List.length_cons, List.length_nil, Nat.mul_one, Nat.zero_add, Nat.add_zero, Nat.sub_zero, both_self', bytesV_length, bytesV_flat, bytesV_isU8, hlt, bytesV_get hlt, hw, e1, w64_b, e3, ih]
theorem c52 (l : List UInt8) (hl : l.length ≤ 7) : runE C 52 [.sl l.length (bytesV l)] = some (.tup [.int .i64 (numOf l)]) := by
  refine E52 _ _ ?_
  unfold T52
  have h := l52 l hl l.length 0 (by simp) (by simp)
  simpa [numOf] using h
theorem l79 (l : List UInt8) (hl : l.length ≤ 7) : ∀ n i, l.length - i = n → i ≤ l.length →
    loopE C 79 0 [true, true, true, false, true] [] [(2, V.ptr 0 0), (3, V.int .i64 (numOf (l.take i))), (10, V.sl l.length (bytesV l)), (11, V.int .i64 (l.length : Int)), (12, V.int .i64 (i : Int))] [Ob.box 112 [V.int .i64 0, V.int .i64 0] false] = some (.tup [.int .i64 0, .int .i64 (numOf l)]) := by
  intro n
  induction n with
  | zero =>
    intro i h hi
    have : i = l.length := by omega
    subst this
    refine E79l1 _ _ _ _ _ _ _ ?_
    unfold T79l1
    simp
  | succ n ih =>
    intro i h hi
    have hlt : i < l.length := by omega
    have hw := w64_succ (n := i) (by omega)
    have ih := ih (i + 1) (by omega) (by omega)
    refine E79l1 _ _ _ _ _ _ _ ?_
    unfold T79l1
    obtain ⟨b1, b2⟩ := numOf_lt (l.take i)
    have hle : (l.take i).length ≤ 6 := by rw [List.length_take]; omega
    have b3 : numOf (l.take i) < 281474976710656 := by
      refine Int.lt_of_lt_of_le b2 ?_
      exact pow256 hle
    have e1 : IntKind.i64.wrap (numOf (l.take i) * 256) = numOf (l.take i) * 256 := w64 (by omega) (by omega)
    have e3 : PI.bits IntKind.i64 (fun x1 x2 => x1 ||| x2) (numOf (l.take i) * 256) (l[i].toNat : Int) = numOf (l.take (i + 1)) := by
      rw [or_byte _ _ b1 b3, numOf_take hlt]
    simp only [Int.ofNat_lt, decide_true, decide_false, cond_true, cond_false, inB_nat, inB_zero, must_true, Int.toNat_natCast, asInt_int, asBool_bool, asSl_sl, asOsl_osl, asStr_str, orcE_R, orcE_W, orcE_L, orcE_X, need_some', asTup_tup, List.getElem?_cons_zero, List.getElem?_cons_succ, Bool.not_true, Bool.not_false, Bool.true_and, Bool.and_true, Bool.false_or, ble_dec, beq_dec, List.length_cons, List.length_nil, Nat.mul_one, Nat.zero_add, Nat.add_zero, Nat.sub_zero, both_self', bytesV_length, bytesV_flat, bytesV_isU8, hlt, bytesV_get hlt, hw, e1, w64_b, e3, ih]
theorem c79 (l : List UInt8) : runE C 79 [.sl l.length (bytesV l)] = some (.tup (if l.length = 7 then [.int .i64 0, .int .i64 (numOf l)] else [.int .i64 1, .int .i64 0])) := by
  refine E79 _ _ ?_
  unfold T79
  by_cases h7 : l.length = 7
  · have h := l79 l (by omega) l.length 0 (by simp) (by simp)
    simp only [h7] at h ⊢
    simpa [numOf] using h
  · have : ((l.length : Int) != 7) = true := by simp; omega
    simp [h7, this]
theorem l92 (n : Int) : ∀ (k : Nat) (acc : List UInt8), k ≤ 7 → acc.length + k ≤ 7 → loopE C 92 0 [true, true, false, true] [] [(0, V.int .i64 n), (3, V.ref 0), (4, V.int .i64 ((k : Int) - 1))] [Ob.row 5 acc.length (bytesV acc) false] =
    some (.tup [.sl (acc.length + k) (bytesV (acc ++ putT n k))])
  | 0, acc, _, _ => by
    refine E92l1 _ _ _ _ ?_
    unfold T92l1
    simp [putT]
  | k + 1, acc, hk, ha => by
    have ih := l92 n k (acc ++ [b8 (n.fdiv (2 ^ (8 * k)))]) (by omega) (by simp; omega)
    refine E92l1 _ _ _ _ ?_
    unfold T92l1
    have e1 : ((k + 1 : Nat) : Int) - 1 = (k : Int) := by omega
    have e2 : IntKind.i64.wrap ((k : Int) - 1) = (k : Int) - 1 := w64 (by omega) (by omega)
    have e3 : IntKind.i64.wrap (8 * (k : Int)) = ((8 * k : Nat) : Int) := by rw [w64 (by omega) (by omega)]; omega
    have e4 : IntKind.u64.wrap ((8 * k : Nat) : Int) = ((8 * k : Nat) : Int) := IntWalk.u64_in _ (by omega)
    have e5 : decide ((k : Int) ≥ 0) = true := by simp
    have e6 : min (8 * k) 64 = 8 * k := by omega
    have e7 : decide ((0 : Int) ≤ ((8 * k : Nat) : Int)) = true := decide_eq_true (by omega)
    have e8 : acc.length + 1 ≤ 140737488355328 := by omega
    simp only [bytesV_append, bytesV_cons, bytesV_nil, List.length_append, List.length_cons, List.length_nil, Nat.zero_add, List.append_assoc, List.cons_append, List.nil_append] at ih
    simp only [e1, e2, e3, e4, e5, e6, e7, e8, Int.ofNat_lt, decide_true, decide_false, cond_true, cond_false, inB_nat, inB_zero, must_true, Int.toNat_natCast, asInt_int, asBool_bool, asSl_sl, asOsl_osl, asStr_str, orcE_R, orcE_W, orcE_L, orcE_X, need_some', asTup_tup, List.getElem?_cons_zero, List.getElem?_cons_succ, Bool.not_true, Bool.not_false, Bool.true_and, Bool.and_true, Bool.false_or, ble_dec, beq_dec, List.length_cons, List.length_nil, Nat.mul_one, Nat.zero_add, Nat.add_zero, Nat.sub_zero, both_self', bytesV_length, bytesV_flat, bytesV_isU8, wrap_b8, putT, ih, bytesV_append, bytesV_cons]
    rw [show acc.length + 1 + k = acc.length + (k + 1) by omega]
theorem c92 (n : Int) : runE C 92 [.int .i64 n] = some (.tup [.sl 7 (bytesV (num7 n))]) := by
  refine E92 _ ?_
  unfold T92
  exact l92 n 7 [] (by omega) (by simp)
theorem l94 : ∀ (k : Nat) (n : Int) (suf : List UInt8), k + suf.length = 7 → loopE C 94 0 [true, true, false, true] [] [(0, V.int .i64 n), (3, V.ref 0), (4, V.int .i64 ((k : Int) - 1))] [Ob.row 5 7 (bytesV (List.replicate k 0 ++ suf)) false] =
    some (.tup [.sl 7 (bytesV (putT n k ++ suf))])
  | 0, n, suf, h => by
    refine E94l1 _ _ _ _ ?_
    unfold T94l1
    simp [putT]
  | k + 1, n, suf, h => by
    have ih := l94 k (n.fdiv 256) (b8 n :: suf) (by simp only [List.length_cons]; omega)
    refine E94l1 _ _ _ _ ?_
    unfold T94l1
    have e1 : ((k + 1 : Nat) : Int) - 1 = (k : Int) := by omega
    have e2 : IntKind.i64.wrap ((k : Int) - 1) = (k : Int) - 1 := w64 (by omega) (by omega)
    have e3 : (List.replicate (k + 1) (0 : UInt8) ++ suf).set k (b8 n) = List.replicate k 0 ++ b8 n :: suf := by
      rw [List.replicate_succ', List.append_assoc, List.set_append_right _ _ (by simp)]
      simp
    have e4 : (List.replicate (k + 1) (0 : UInt8) ++ suf).length = 7 := by simp; omega
    have hk7 : k < 7 := by omega
    have hk8 : k + 1 ≤ 7 := by omega
    have e5 : decide ((k : Int) ≥ 0) = true := by simp
    rw [putT_snoc, List.append_assoc]
    simp only [e1, e2, e5, Int.ofNat_lt, decide_true, decide_false, cond_true, cond_false, inB_nat, inB_zero, must_true, Int.toNat_natCast, asInt_int, asBool_bool, asSl_sl, asOsl_osl, asStr_str, orcE_R, orcE_W, orcE_L, orcE_X, need_some', asTup_tup, List.getElem?_cons_zero, List.getElem?_cons_succ, Bool.not_true, Bool.not_false, Bool.true_and, Bool.and_true, Bool.false_or, ble_dec, beq_dec, List.length_cons, List.length_nil, Nat.mul_one, Nat.zero_add, Nat.add_zero, Nat.sub_zero, both_self', bytesV_length, bytesV_flat, bytesV_isU8, hk7, hk8, wrap_b8, splice_bytes (l := List.replicate (k + 1) (0 : UInt8) ++ suf) (i := k) (by omega), e3, e4, ih, List.singleton_append]
theorem c94 (n : Int) : runE C 94 [.int .i64 n] = some (.tup [.sl 7 (bytesV (num7 n))]) := by
  refine E94 _ ?_
  unfold T94
  have h := l94 7 n [] (by simp)
  simpa [bytesV, num7] using h
end Go.Proofs.Ytkjjneejmjfhlaa.Rel
