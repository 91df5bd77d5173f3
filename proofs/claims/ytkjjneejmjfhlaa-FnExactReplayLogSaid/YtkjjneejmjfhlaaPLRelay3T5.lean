/-
  The relayer's functions, each by its plain word: records and turns.
-/
import Derived.Test.YtkjjneejmjfhlaaPLRelay2T5
namespace Go.Proofs.Ytkjjneejmjfhlaa.Rel
open Go Go.PI Go.PI.Rel Eq5
set_option maxHeartbeats 1000000
set_option linter.unusedVariables false
set_option linter.unusedSimpArgs false

theorem recBytes_length (k n w : Int) : (recBytes k n w).length = if k = 2 then 15 else 8 := by
  unfold recBytes
  by_cases h : k = 2 <;> simp [h]
theorem c74 (k n w : Int) : runE C 74 [.int .i64 k, .int .i64 n, .int .i64 w] = some (.tup [.sl (recBytes k n w).length (bytesV (recBytes k n w))]) := by
  refine E74 _ _ _ ?_
  unfold T74
  by_cases h : k = 2
  · simp [h, c92, recBytes, bytesV_cons, bytesV_append, wrap_b8]
  · simp [h, beq_f h, c92, recBytes, bytesV_cons, bytesV_append, wrap_b8]
theorem c53 (k n w : Int) : runE C 53 [.int .i64 k, .int .i64 n, .int .i64 w] = some (.tup [.int .i64 (recOf k n w).1, .sl (recOf k n w).2.length (bytesV (recOf k n w).2)]) := by
  refine E53 _ _ _ ?_
  unfold T53
  simp only [Int.ofNat_lt, decide_true, decide_false, cond_true, cond_false, inB_nat, inB_zero, must_true, Int.toNat_natCast, asInt_int, asBool_bool, asSl_sl, asOsl_osl, asStr_str, orcE_R, orcE_W, orcE_L, orcE_X, need_some', asTup_tup, List.getElem?_cons_zero, List.getElem?_cons_succ, Bool.not_true, Bool.not_false, Bool.true_and, Bool.and_true, Bool.false_or, ble_dec, beq_dec, List.length_cons, List.length_nil, Nat.mul_one, Nat.zero_add, Nat.add_zero, Nat.sub_zero, both_self', bytesV_length, bytesV_flat, bytesV_isU8, c51, c74, recOf]
  by_cases h1 : 1 ≤ k ∧ k ≤ 3
  · by_cases h2 : 1 ≤ n ∧ n ≤ 1000000
    · by_cases h3 : 0 ≤ w ∧ w ≤ 1099511627776
      · by_cases h4 : k = 2
        · simp [h1, h2, h3, h4]
        · by_cases h5 : w = 0
          · simp [h1, h2, h3, h4, h5, bne_t h4]
          · simp [h1, h2, h3, h4, h5, bne_t h4, bne_t h5, bytesV_nil]
      · simp [h1, h2, h3, bytesV_nil]
    · simp [h1, h2, bytesV_nil]
  · simp [h1, bytesV_nil]
theorem c93 (n : Int) : runE C 93 [.int .i64 n] = some (.tup [.bool (decide (1 ≤ n ∧ n ≤ 1000000))]) := by
  refine E93 _ ?_
  unfold T93
  simp only [Int.ofNat_lt, decide_true, decide_false, cond_true, cond_false, inB_nat, inB_zero, must_true, Int.toNat_natCast, asInt_int, asBool_bool, asSl_sl, asOsl_osl, asStr_str, orcE_R, orcE_W, orcE_L, orcE_X, need_some', asTup_tup, List.getElem?_cons_zero, List.getElem?_cons_succ, Bool.not_true, Bool.not_false, Bool.true_and, Bool.and_true, Bool.false_or, ble_dec, beq_dec, List.length_cons, List.length_nil, Nat.mul_one, Nat.zero_add, Nat.add_zero, Nat.sub_zero, both_self', bytesV_length, bytesV_flat, bytesV_isU8, c47]
theorem c80 (k n w : Int) : runE C 80 [.int .i64 k, .int .i64 n, .int .i64 w] = some (.tup [.int .i64 (recOf k n w).1, .sl (recOf k n w).2.length (bytesV (recOf k n w).2)]) := by
  refine E80 _ _ _ ?_
  unfold T80
  simp only [Int.ofNat_lt, decide_true, decide_false, cond_true, cond_false, inB_nat, inB_zero, must_true, Int.toNat_natCast, asInt_int, asBool_bool, asSl_sl, asOsl_osl, asStr_str, orcE_R, orcE_W, orcE_L, orcE_X, need_some', asTup_tup, List.getElem?_cons_zero, List.getElem?_cons_succ, Bool.not_true, Bool.not_false, Bool.true_and, Bool.and_true, Bool.false_or, ble_dec, beq_dec, List.length_cons, List.length_nil, Nat.mul_one, Nat.zero_add, Nat.add_zero, Nat.sub_zero, both_self', bytesV_length, bytesV_flat, bytesV_isU8, c47, c93, c94, recOf]
  by_cases h1 : 1 ≤ k ∧ k ≤ 3
  · by_cases h2 : 1 ≤ n ∧ n ≤ 1000000
    · by_cases h3 : 0 ≤ w ∧ w ≤ 1099511627776
      · by_cases h4 : k = 2
        · by_cases h5 : w = 0
          · simp [h1, h2, h3, h4, h5, recBytes, bytesV_cons, bytesV_append, wrap_b8]
          · simp [h1, h2, h3, h4, h5, recBytes, bytesV_cons, bytesV_append, wrap_b8, bne_t h5]
        · by_cases h5 : w = 0
          · simp [h1, h2, h3, h4, h5, bne_t h4, beq_f h4, recBytes, bytesV_cons, bytesV_append, wrap_b8]
          · simp [h1, h2, h3, h4, h5, bne_t h4, bne_t h5, bytesV_nil]
      · simp [h1, h2, h3, bytesV_nil]
    · simp [h1, h2, bytesV_nil]
  · simp [h1, bytesV_nil]

/-! ### bytes alike -/
theorem l75 (a b : List UInt8) (hq : a.length < 4611686018427387904) : ∀ n i, a.length - i = n → i ≤ a.length → i ≤ b.length → ∃ r : Int, (r = 0 ↔ a.drop i = b.drop i) ∧
    loopE C 75 0 [true, false, true] [] [(0, V.sl a.length (bytesV a)), (1, V.sl b.length (bytesV b)), (5, V.int .i64 (i : Int))] [] = some (.tup [.int .i64 r]) := by
  have fin : ∀ i : Nat, i ≤ a.length → i ≤ b.length → ¬ (i < a.length ∧ i < b.length) → ∃ r : Int, (r = 0 ↔ a.drop i = b.drop i) ∧
      (bif decide ((a.length : Int) < (b.length : Int)) then some (V.tup [V.int .i64 (-1)]) else bif decide ((a.length : Int) > (b.length : Int)) then some (V.tup [V.int .i64 1]) else some (V.tup [V.int .i64 0])) = some (.tup [.int .i64 r]) := by
    intro i h1 h2 h3
    by_cases h4 : a.length < b.length
    · refine ⟨-1, ⟨fun h => by simp at h, fun h => ?_⟩, by simp [h4]⟩
      have := congrArg List.length h; simp at this; omega
    · by_cases h5 : b.length < a.length
      · refine ⟨1, ⟨fun h => by simp at h, fun h => ?_⟩, by simp [h4, h5]⟩
        have := congrArg List.length h; simp at this; omega
      · refine ⟨0, ⟨fun _ => ?_, fun _ => rfl⟩, by simp [h4, h5]⟩
        rw [List.drop_eq_nil_of_le (by omega), List.drop_eq_nil_of_le (by omega)]
  intro n
  induction n with
  | zero =>
    intro i h hi hib
    have e : i = a.length := by omega
    obtain ⟨r, h1, h2⟩ := fin i hi hib (by omega)
    refine ⟨r, h1, E75l1 _ _ _ _ _ ?_⟩
    unfold T75l1
    have : ¬ ((i : Int) < (a.length : Int)) := by omega
    simpa [this] using h2
  | succ n ih =>
    intro i h hi hib
    have hlt : i < a.length := by omega
    by_cases hltb : i < b.length
    · have hw := w64_succ (n := i) (by omega)
      by_cases he : a[i] = b[i]
      · obtain ⟨r, h1, ih⟩ := ih (i + 1) (by omega) (by omega) (by omega)
        refine ⟨r, ?_, E75l1 _ _ _ _ _ ?_⟩
        · rw [h1, drop_eq_cons hlt, drop_eq_cons hltb, he]; simp only [List.cons.injEq, true_and]
        · unfold T75l1
          simp only [Int.ofNat_lt, decide_true, decide_false, cond_true, cond_false, inB_nat, inB_zero, must_true, Int.toNat_natCast, asInt_int, asBool_bool, asSl_sl, asOsl_osl, asStr_str, orcE_R, orcE_W, orcE_L, orcE_X, need_some', asTup_tup, List.getElem?_cons_zero, List.getElem?_cons_succ, Bool.not_true, Bool.not_false, Bool.true_and, Bool.and_true, Bool.false_or, ble_dec, beq_dec, List.length_cons, List.length_nil, Nat.mul_one, Nat.zero_add, Nat.add_zero, Nat.sub_zero, both_self', bytesV_length, bytesV_flat, bytesV_isU8, hlt, hltb, bytesV_get hlt, bytesV_get hltb, hw, ih, he, gt_iff_lt, Int.lt_irrefl]
      · have hne : a[i].toNat ≠ b[i].toNat := fun e => he (UInt8.toNat_inj.1 e)
        rcases Nat.lt_or_gt_of_ne hne with hl | hg
        · refine ⟨-1, ⟨fun h => by simp at h, fun h => ?_⟩, E75l1 _ _ _ _ _ ?_⟩
          · rw [drop_eq_cons hlt, drop_eq_cons hltb] at h
            exact absurd (List.cons.inj h).1 he
          · unfold T75l1
            simp only [Int.ofNat_lt, decide_true, decide_false, cond_true, cond_false, inB_nat, inB_zero, must_true, Int.toNat_natCast, asInt_int, asBool_bool, asSl_sl, asOsl_osl, asStr_str, orcE_R, orcE_W, orcE_L, orcE_X, need_some', asTup_tup, List.getElem?_cons_zero, List.getElem?_cons_succ, Bool.not_true, Bool.not_false, Bool.true_and, Bool.and_true, Bool.false_or, ble_dec, beq_dec, List.length_cons, List.length_nil, Nat.mul_one, Nat.zero_add, Nat.add_zero, Nat.sub_zero, both_self', bytesV_length, bytesV_flat, bytesV_isU8, hlt, hltb, bytesV_get hlt, bytesV_get hltb, hl]
        · have hn : ¬ (a[i].toNat < b[i].toNat) := by omega
          refine ⟨1, ⟨fun h => by simp at h, fun h => ?_⟩, E75l1 _ _ _ _ _ ?_⟩
          · rw [drop_eq_cons hlt, drop_eq_cons hltb] at h
            exact absurd (List.cons.inj h).1 he
          · unfold T75l1
            simp only [Int.ofNat_lt, decide_true, decide_false, cond_true, cond_false, inB_nat, inB_zero, must_true, Int.toNat_natCast, asInt_int, asBool_bool, asSl_sl, asOsl_osl, asStr_str, orcE_R, orcE_W, orcE_L, orcE_X, need_some', asTup_tup, List.getElem?_cons_zero, List.getElem?_cons_succ, Bool.not_true, Bool.not_false, Bool.true_and, Bool.and_true, Bool.false_or, ble_dec, beq_dec, List.length_cons, List.length_nil, Nat.mul_one, Nat.zero_add, Nat.add_zero, Nat.sub_zero, both_self', bytesV_length, bytesV_flat, bytesV_isU8, hlt, hltb, bytesV_get hlt, bytesV_get hltb, hn, gt_iff_lt, hg]
    · obtain ⟨r, h1, h2⟩ := fin i hi hib (by omega)
      refine ⟨r, h1, E75l1 _ _ _ _ _ ?_⟩
      unfold T75l1
      have : ¬ ((i : Int) < (b.length : Int)) := by omega
      have h3 : ((i : Int) < (a.length : Int)) := by omega
      simpa [this, h3] using h2
theorem c54 (a b : List UInt8) (hq : a.length < 4611686018427387904) : runE C 54 [.sl a.length (bytesV a), .sl b.length (bytesV b)] = some (.tup [.bool (decide (a = b))]) := by
  obtain ⟨r, h1, h2⟩ := l75 a b hq a.length 0 (by simp) (by simp) (by simp)
  have h : runE C 75 [.sl a.length (bytesV a), .sl b.length (bytesV b)] = some (.tup [.int .i64 r]) := by
    refine E75 _ _ _ _ ?_
    unfold T75
    simpa using h2
  refine E54 _ _ _ _ ?_
  unfold T54
  simp only [List.drop_zero] at h1
  have : (r == 0) = decide (a = b) := by rw [Bool.eq_iff_iff]; simp [h1]
  simp only [Int.ofNat_lt, decide_true, decide_false, cond_true, cond_false, inB_nat, inB_zero, must_true, Int.toNat_natCast, asInt_int, asBool_bool, asSl_sl, asOsl_osl, asStr_str, orcE_R, orcE_W, orcE_L, orcE_X, need_some', asTup_tup, List.getElem?_cons_zero, List.getElem?_cons_succ, Bool.not_true, Bool.not_false, Bool.true_and, Bool.and_true, Bool.false_or, ble_dec, beq_dec, List.length_cons, List.length_nil, Nat.mul_one, Nat.zero_add, Nat.add_zero, Nat.sub_zero, both_self', bytesV_length, bytesV_flat, bytesV_isU8, h, this]
theorem c88 (a b : List UInt8) : runE C 88 [.sl a.length (bytesV a), .sl b.length (bytesV b)] = some (.tup [.bool (decide (a = b))]) := by
  refine E88 _ _ _ _ ?_
  unfold T88
  simp
theorem c81 (a b : List UInt8) : runE C 81 [.sl a.length (bytesV a), .sl b.length (bytesV b)] = some (.tup [.bool (decide (a = b))]) := by
  refine E81 _ _ _ _ ?_
  unfold T81
  simp only [Int.ofNat_lt, decide_true, decide_false, cond_true, cond_false, inB_nat, inB_zero, must_true, Int.toNat_natCast, asInt_int, asBool_bool, asSl_sl, asOsl_osl, asStr_str, orcE_R, orcE_W, orcE_L, orcE_X, need_some', asTup_tup, List.getElem?_cons_zero, List.getElem?_cons_succ, Bool.not_true, Bool.not_false, Bool.true_and, Bool.and_true, Bool.false_or, ble_dec, beq_dec, List.length_cons, List.length_nil, Nat.mul_one, Nat.zero_add, Nat.add_zero, Nat.sub_zero, both_self', bytesV_length, bytesV_flat, bytesV_isU8, c88]

/-! ### where an item stands -/
theorem l76 (c n : Int) (q : List Itm) (hq : q.length < 4611686018427387904) : ∀ m i, q.length - i = m → i ≤ q.length →
    loopE C 76 0 [true, false, true] [] [(0, V.pin [V.int .i64 c, V.sl q.length (its q)] 0), (1, V.int .i64 n), (5, V.int .i64 (i : Int))] [] = some (.tup [.int .i64 (posOf (rIdx n (q.drop i) i))]) := by
  intro m
  induction m with
  | zero =>
    intro i h hi
    have : i = q.length := by omega
    subst this
    refine E76l1 _ _ _ _ _ ?_
    unfold T76l1
    simp [rIdx, posOf]
  | succ m ih =>
    intro i h hi
    have hlt : i < q.length := by omega
    have hw := w64_succ (n := i) (by omega)
    have ih := ih (i + 1) (by omega) (by omega)
    refine E76l1 _ _ _ _ _ ?_
    unfold T76l1
    rw [drop_eq_cons hlt]
    simp only [Int.ofNat_lt, decide_true, decide_false, cond_true, cond_false, inB_nat, inB_zero, must_true, Int.toNat_natCast, asInt_int, asBool_bool, asSl_sl, asOsl_osl, asStr_str, orcE_R, orcE_W, orcE_L, orcE_X, need_some', asTup_tup, List.getElem?_cons_zero, List.getElem?_cons_succ, Bool.not_true, Bool.not_false, Bool.true_and, Bool.and_true, Bool.false_or, ble_dec, beq_dec, List.length_cons, List.length_nil, Nat.mul_one, Nat.zero_add, Nat.add_zero, Nat.sub_zero, both_self', bytesV_length, bytesV_flat, bytesV_isU8, hlt, its_0 hlt, hw, ih, rIdx]
    by_cases he : q[i].a = n
    · simp [he, posOf]
    · simp [he, beq_f he]
theorem c76 (c n : Int) (q : List Itm) (hq : q.length < 4611686018427387904) : runE C 76 [.pin [.int .i64 c, .sl q.length (its q)] 0, .int .i64 n] = some (.tup [.int .i64 (at' n q)]) := by
  refine E76 _ _ _ _ ?_
  unfold T76
  have h := l76 c n q hq q.length 0 (by simp) (by simp)
  simpa [at'] using h
theorem c96 (x : Itm) (n : Int) : runE C 96 [.agg [.int .i64 x.a, .int .i64 x.b, .int .i64 x.c], .pin [.int .i64 n] 0] = some (.tup [.bool (x.a == n)]) := E96 _ _ _ _ rfl
theorem l95 (n : Int) (q : List Itm) (hq : q.length < 4611686018427387904) : ∀ m i, q.length - i = m → i ≤ q.length →
    loopE C 95 0 [true, false, true] [] [(0, V.sl q.length (its q)), (1, V.fn 96 [V.pin [V.int .i64 n] 0]), (7, V.int .i64 (q.length : Int)), (8, V.int .i64 (i : Int))] [] = some (.tup [.int .i64 (posOf (rIdx n (q.drop i) i))]) := by
  intro m
  induction m with
  | zero =>
    intro i h hi
    have : i = q.length := by omega
    subst this
    refine E95l1 _ _ _ _ _ ?_
    unfold T95l1
    simp [rIdx, posOf]
  | succ m ih =>
    intro i h hi
    have hlt : i < q.length := by omega
    have hw := w64_succ (n := i) (by omega)
    have ih := ih (i + 1) (by omega) (by omega)
    refine E95l1 _ _ _ _ _ ?_
    unfold T95l1
    rw [drop_eq_cons hlt]
    simp only [Int.ofNat_lt, decide_true, decide_false, cond_true, cond_false, inB_nat, inB_zero, must_true, Int.toNat_natCast, asInt_int, asBool_bool, asSl_sl, asOsl_osl, asStr_str, orcE_R, orcE_W, orcE_L, orcE_X, need_some', asTup_tup, List.getElem?_cons_zero, List.getElem?_cons_succ, Bool.not_true, Bool.not_false, Bool.true_and, Bool.and_true, Bool.false_or, ble_dec, beq_dec, List.length_cons, List.length_nil, Nat.mul_one, Nat.zero_add, Nat.add_zero, Nat.sub_zero, both_self', bytesV_length, bytesV_flat, bytesV_isU8, hlt, its_0 hlt, its_1 hlt, its_2' hlt, c96, hw, ih, rIdx]
    by_cases he : q[i].a = n
    · simp [he, posOf]
    · simp [he, beq_f he]
theorem c82 (c n : Int) (q : List Itm) (hq : q.length < 4611686018427387904) : runE C 82 [.agg [.int .i64 c, .sl q.length (its q)], .int .i64 n] = some (.tup [.int .i64 (at' n q)]) := by
  have h := l95 n q hq q.length 0 (by simp) (by simp)
  have h1 : runE C 95 [.sl q.length (its q), .fn 96 [.pin [.int .i64 n] 0]] = some (.tup [.int .i64 (at' n q)]) := by
    refine E95 _ _ _ ?_
    unfold T95
    simpa [at'] using h
  refine E82 _ _ _ _ ?_
  unfold T82
  simp only [Int.ofNat_lt, decide_true, decide_false, cond_true, cond_false, inB_nat, inB_zero, must_true, Int.toNat_natCast, asInt_int, asBool_bool, asSl_sl, asOsl_osl, asStr_str, orcE_R, orcE_W, orcE_L, orcE_X, need_some', asTup_tup, List.getElem?_cons_zero, List.getElem?_cons_succ, Bool.not_true, Bool.not_false, Bool.true_and, Bool.and_true, Bool.false_or, ble_dec, beq_dec, List.length_cons, List.length_nil, Nat.mul_one, Nat.zero_add, Nat.add_zero, Nat.sub_zero, both_self', bytesV_length, bytesV_flat, bytesV_isU8, h1]
end Go.Proofs.Ytkjjneejmjfhlaa.Rel
