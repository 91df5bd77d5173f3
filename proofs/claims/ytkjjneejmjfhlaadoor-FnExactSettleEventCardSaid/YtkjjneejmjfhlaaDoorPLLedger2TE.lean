/-
  The ledger's functions: the specification's fault, copies, sending.
-/
import Derived.Test.YtkjjneejmjfhlaaDoorPLLedgerTE
namespace Go.Proofs.YtkjjneejmjfhlaaDoor.Led
open Go Go.PI Go.PI.Led Go.Proofs.YtkjjneejmjfhlaaDoor.Base EqE
set_option maxHeartbeats 1000000
set_option linter.unusedVariables false
set_option linter.unusedSimpArgs false
theorem done_loopS (k s t n : Int) (d : List Int) (c : Int) (p : Bool) (hd : d.length ≤ 1000000000) (h1 : isCoins s) (h2 : isCoins t) : ∀ m i, d.length - i = m → i ≤ d.length →
    loopE C 37 0 [true, true, true, true, false, true] [] [(1, V.ptr 0 0), (3, V.int .i64 (i : Int))] [Ob.box 26 [V.int .i64 k, V.int .i64 s, V.int .i64 t, V.int .i64 n, V.sl d.length (ints d), V.int .i64 c, V.bool p] false]
      = some (.tup [.int .i64 (if okFrom d m i = false then 1 else if ¬ (0 ≤ held k s t ∧ held k s t ≤ c) then 1 else 0)]) := by
  intro m
  induction m with
  | zero =>
    intro i e1 e2
    have : i = d.length := by omega
    subst this
    refine E37l1 _ _ _ _ _ _ _ _ _ ?_
    unfold T37l1
    have hl : ¬ ((d.length : Int) < (d.length : Int)) := by omega
    simp only [Int.ofNat_lt, decide_true, decide_false, cond_true, cond_false, inB_nat, inB_zero, must_true, Int.toNat_natCast, asInt_int, asBool_bool, asSl_sl, asOsl_osl, asStr_str, orcE_R, orcE_W, orcE_L, orcE_X, need_some', asTup_tup, List.getElem?_cons_zero, List.getElem?_cons_succ, Bool.not_true, Bool.not_false, Bool.true_and, Bool.and_true, Bool.false_or, ble_dec, beq_dec, List.length_cons, List.length_nil, Nat.mul_one, Nat.zero_add, Nat.add_zero, Nat.sub_zero, both_self', bytesV_length, bytesV_flat, bytesV_isU8, hl, c31, held_wrap h1 h2, c57, okFrom, Bool.true_eq_false, if_false]
    by_cases h3 : 0 ≤ held k s t ∧ held k s t ≤ c
    · simp [h3]
    · simp [h3]
  | succ m ih =>
    intro i e1 e2
    have hlt : i < d.length := by omega
    have hw := w64_succ (n := i) (by omega)
    have ih := ih (i + 1) (by omega) (by omega)
    refine E37l1 _ _ _ _ _ _ _ _ _ ?_
    unfold T37l1
    rw [okFrom]
    simp only [Int.ofNat_lt, decide_true, decide_false, cond_true, cond_false, inB_nat, inB_zero, must_true, Int.toNat_natCast, asInt_int, asBool_bool, asSl_sl, asOsl_osl, asStr_str, orcE_R, orcE_W, orcE_L, orcE_X, need_some', asTup_tup, List.getElem?_cons_zero, List.getElem?_cons_succ, Bool.not_true, Bool.not_false, Bool.true_and, Bool.and_true, Bool.false_or, ble_dec, beq_dec, List.length_cons, List.length_nil, Nat.mul_one, Nat.zero_add, Nat.add_zero, Nat.sub_zero, both_self', bytesV_length, bytesV_flat, bytesV_isU8, hlt, ints_getD hlt, c57, hw, ih]
    by_cases h3 : 1 ≤ d.getD i 0 ∧ d.getD i 0 ≤ 1000000
    · by_cases h4 : i = 0
      · have hk : okAt d i = true := by unfold okAt; exact decide_eq_true ⟨h3, .inl h4⟩
        have hp : ¬ ((i : Int) > 0) := by omega
        simp only [h3, hk, hp, and_self, decide_true, decide_false, Bool.not_true, cond_false, Bool.true_and, both_self']
      · have hw1 : IntKind.i64.wrap ((i : Int) - 1) = ((i - 1 : Nat) : Int) := by rw [w64 (by omega) (by omega)]; omega
        have hi1 : i - 1 < d.length := by omega
        have hp : (i : Int) > 0 := by omega
        simp only [h3, and_self, decide_true, Bool.not_true, cond_false, hp, cond_true, hw1, inB_nat, hi1, must_true, Int.toNat_natCast, Nat.mul_one, ints_getD hi1, asInt_int]
        by_cases h5 : d.getD (i - 1) 0 < d.getD i 0
        · have : okAt d i = true := by unfold okAt; exact decide_eq_true ⟨h3, .inr h5⟩
          have h6 : ¬ (d.getD i 0 ≤ d.getD (i - 1) 0) := by omega
          simp only [this, h6, decide_false, cond_false, Bool.true_and, both_self']
        · have : okAt d i = false := by unfold okAt; exact decide_eq_false (fun h => h.2.elim h4 h5)
          have h6 : d.getD i 0 ≤ d.getD (i - 1) 0 := by omega
          simp only [this, h6, decide_true, cond_true, Bool.false_and, if_true, both_self']
    · have : okAt d i = false := by unfold okAt; exact decide_eq_false (fun h => h3 h.1)
      simp only [h3, this, decide_false, Bool.not_false, cond_true, Bool.false_and, if_true, both_self']
theorem c37 (k s t n : Int) (d : List Int) (c : Int) (p : Bool) (hd : d.length ≤ 1000000000) :
    runE C 37 [.agg [.int .i64 k, .int .i64 s, .int .i64 t, .int .i64 n, .sl d.length (ints d), .int .i64 c, .bool p]] = some (.tup [.int .i64 (ledFault k s t n d c)]) := by
  refine E37 _ _ _ _ _ _ _ _ ?_
  unfold T37 ledFault
  have e2 : ∀ x, (0 ≤ x ∧ x ≤ 1000000000000000) = isCoins x := fun _ => rfl
  by_cases h1 : isKind k
  · by_cases h2 : isCoins s
    · by_cases h3 : isCoins t
      · by_cases h4 : isCoins c
        · by_cases h5 : 1 ≤ n ∧ n ≤ 1000001
          · by_cases h6 : 60 < d.length
            · have h6' : (d.length : Int) > 60 := by omega
              simp only [Int.ofNat_lt, decide_true, decide_false, cond_true, cond_false, inB_nat, inB_zero, must_true, Int.toNat_natCast, asInt_int, asBool_bool, asSl_sl, asOsl_osl, asStr_str, orcE_R, orcE_W, orcE_L, orcE_X, need_some', asTup_tup, List.getElem?_cons_zero, List.getElem?_cons_succ, Bool.not_true, Bool.not_false, Bool.true_and, Bool.and_true, Bool.false_or, ble_dec, beq_dec, List.length_cons, List.length_nil, Nat.mul_one, Nat.zero_add, Nat.add_zero, Nat.sub_zero, both_self', bytesV_length, bytesV_flat, bytesV_isU8, and_self, and_true, true_and, and_false, false_and, or_true, true_or, or_false, false_or, not_true_eq_false, not_false_eq_true, if_true, if_false, Bool.true_eq_false, Bool.false_eq_true, Bool.true_and, Bool.false_and, Bool.and_false, Bool.and_true, Bool.or_true, Bool.true_or, Bool.not_true, Bool.not_false, cond_true, cond_false, c56, c57, e2, h1, h2, h3, h4, h5, h6, h6']
            · have h6' : ¬ ((d.length : Int) > 60) := by omega
              have := done_loopS k s t n d c p hd h2 h3 d.length 0 (by omega) (by omega)
              simp only [Int.ofNat_lt, decide_true, decide_false, cond_true, cond_false, inB_nat, inB_zero, must_true, Int.toNat_natCast, asInt_int, asBool_bool, asSl_sl, asOsl_osl, asStr_str, orcE_R, orcE_W, orcE_L, orcE_X, need_some', asTup_tup, List.getElem?_cons_zero, List.getElem?_cons_succ, Bool.not_true, Bool.not_false, Bool.true_and, Bool.and_true, Bool.false_or, ble_dec, beq_dec, List.length_cons, List.length_nil, Nat.mul_one, Nat.zero_add, Nat.add_zero, Nat.sub_zero, both_self', bytesV_length, bytesV_flat, bytesV_isU8, and_self, and_true, true_and, and_false, false_and, or_true, true_or, or_false, false_or, not_true_eq_false, not_false_eq_true, if_true, if_false, Bool.true_eq_false, Bool.false_eq_true, Bool.true_and, Bool.false_and, Bool.and_false, Bool.and_true, Bool.or_true, Bool.true_or, Bool.not_true, Bool.not_false, cond_true, cond_false, c56, c57, e2, h1, h2, h3, h4, h5, h6, h6']
              exact this
          · simp only [Int.ofNat_lt, decide_true, decide_false, cond_true, cond_false, inB_nat, inB_zero, must_true, Int.toNat_natCast, asInt_int, asBool_bool, asSl_sl, asOsl_osl, asStr_str, orcE_R, orcE_W, orcE_L, orcE_X, need_some', asTup_tup, List.getElem?_cons_zero, List.getElem?_cons_succ, Bool.not_true, Bool.not_false, Bool.true_and, Bool.and_true, Bool.false_or, ble_dec, beq_dec, List.length_cons, List.length_nil, Nat.mul_one, Nat.zero_add, Nat.add_zero, Nat.sub_zero, both_self', bytesV_length, bytesV_flat, bytesV_isU8, and_self, and_true, true_and, and_false, false_and, or_true, true_or, or_false, false_or, not_true_eq_false, not_false_eq_true, if_true, if_false, Bool.true_eq_false, Bool.false_eq_true, Bool.true_and, Bool.false_and, Bool.and_false, Bool.and_true, Bool.or_true, Bool.true_or, Bool.not_true, Bool.not_false, cond_true, cond_false, c56, c57, e2, h1, h2, h3, h4, h5]
        · simp only [Int.ofNat_lt, decide_true, decide_false, cond_true, cond_false, inB_nat, inB_zero, must_true, Int.toNat_natCast, asInt_int, asBool_bool, asSl_sl, asOsl_osl, asStr_str, orcE_R, orcE_W, orcE_L, orcE_X, need_some', asTup_tup, List.getElem?_cons_zero, List.getElem?_cons_succ, Bool.not_true, Bool.not_false, Bool.true_and, Bool.and_true, Bool.false_or, ble_dec, beq_dec, List.length_cons, List.length_nil, Nat.mul_one, Nat.zero_add, Nat.add_zero, Nat.sub_zero, both_self', bytesV_length, bytesV_flat, bytesV_isU8, and_self, and_true, true_and, and_false, false_and, or_true, true_or, or_false, false_or, not_true_eq_false, not_false_eq_true, if_true, if_false, Bool.true_eq_false, Bool.false_eq_true, Bool.true_and, Bool.false_and, Bool.and_false, Bool.and_true, Bool.or_true, Bool.true_or, Bool.not_true, Bool.not_false, cond_true, cond_false, c56, c57, e2, h1, h2, h3, h4]
      · simp only [Int.ofNat_lt, decide_true, decide_false, cond_true, cond_false, inB_nat, inB_zero, must_true, Int.toNat_natCast, asInt_int, asBool_bool, asSl_sl, asOsl_osl, asStr_str, orcE_R, orcE_W, orcE_L, orcE_X, need_some', asTup_tup, List.getElem?_cons_zero, List.getElem?_cons_succ, Bool.not_true, Bool.not_false, Bool.true_and, Bool.and_true, Bool.false_or, ble_dec, beq_dec, List.length_cons, List.length_nil, Nat.mul_one, Nat.zero_add, Nat.add_zero, Nat.sub_zero, both_self', bytesV_length, bytesV_flat, bytesV_isU8, and_self, and_true, true_and, and_false, false_and, or_true, true_or, or_false, false_or, not_true_eq_false, not_false_eq_true, if_true, if_false, Bool.true_eq_false, Bool.false_eq_true, Bool.true_and, Bool.false_and, Bool.and_false, Bool.and_true, Bool.or_true, Bool.true_or, Bool.not_true, Bool.not_false, cond_true, cond_false, c56, c57, e2, h1, h2, h3]
    · simp only [Int.ofNat_lt, decide_true, decide_false, cond_true, cond_false, inB_nat, inB_zero, must_true, Int.toNat_natCast, asInt_int, asBool_bool, asSl_sl, asOsl_osl, asStr_str, orcE_R, orcE_W, orcE_L, orcE_X, need_some', asTup_tup, List.getElem?_cons_zero, List.getElem?_cons_succ, Bool.not_true, Bool.not_false, Bool.true_and, Bool.and_true, Bool.false_or, ble_dec, beq_dec, List.length_cons, List.length_nil, Nat.mul_one, Nat.zero_add, Nat.add_zero, Nat.sub_zero, both_self', bytesV_length, bytesV_flat, bytesV_isU8, and_self, and_true, true_and, and_false, false_and, or_true, true_or, or_false, false_or, not_true_eq_false, not_false_eq_true, if_true, if_false, Bool.true_eq_false, Bool.false_eq_true, Bool.true_and, Bool.false_and, Bool.and_false, Bool.and_true, Bool.or_true, Bool.true_or, Bool.not_true, Bool.not_false, cond_true, cond_false, c56, c57, e2, h1, h2]
  · simp only [Int.ofNat_lt, decide_true, decide_false, cond_true, cond_false, inB_nat, inB_zero, must_true, Int.toNat_natCast, asInt_int, asBool_bool, asSl_sl, asOsl_osl, asStr_str, orcE_R, orcE_W, orcE_L, orcE_X, need_some', asTup_tup, List.getElem?_cons_zero, List.getElem?_cons_succ, Bool.not_true, Bool.not_false, Bool.true_and, Bool.and_true, Bool.false_or, ble_dec, beq_dec, List.length_cons, List.length_nil, Nat.mul_one, Nat.zero_add, Nat.add_zero, Nat.sub_zero, both_self', bytesV_length, bytesV_flat, bytesV_isU8, and_self, and_true, true_and, and_false, false_and, or_true, true_or, or_false, false_or, not_true_eq_false, not_false_eq_true, if_true, if_false, Bool.true_eq_false, Bool.false_eq_true, Bool.true_and, Bool.false_and, Bool.and_false, Bool.and_true, Bool.or_true, Bool.true_or, Bool.not_true, Bool.not_false, cond_true, cond_false, c56, h1]
theorem c55 (d : List Int) (h : d.length ≤ 1000000000) : runE C 55 [.sl d.length (ints d)] = some (.tup [.osl d.length (ints d)]) := by
  refine E55 _ _ ?_
  unfold T55
  have e1 : d.length ≤ 140737488355328 := by omega
  have e2 : d.length * 8 ≤ 140737488355328 := by omega
  by_cases e : d.length = 0
  · have : d = [] := List.eq_nil_of_length_eq_zero e
    subst this
    exact both_self' (some (V.tup [V.osl 0 []]))
  · simp only [Int.ofNat_lt, decide_true, decide_false, cond_true, cond_false, inB_nat, inB_zero, must_true, Int.toNat_natCast, asInt_int, asBool_bool, asSl_sl, asOsl_osl, asStr_str, orcE_R, orcE_W, orcE_L, orcE_X, need_some', asTup_tup, List.getElem?_cons_zero, List.getElem?_cons_succ, Bool.not_true, Bool.not_false, Bool.true_and, Bool.and_true, Bool.false_or, ble_dec, beq_dec, List.length_cons, List.length_nil, Nat.mul_one, Nat.zero_add, Nat.add_zero, Nat.sub_zero, both_self', bytesV_length, bytesV_flat, bytesV_isU8, e, e1, e2, ints_length, ints_flat]
theorem c33 (k s t n : Int) (d : List Int) (c : Int) (p : Bool) (h : d.length ≤ 1000000000) :
    runE C 33 [.agg [.int .i64 k, .int .i64 s, .int .i64 t, .int .i64 n, .sl d.length (ints d), .int .i64 c, .bool p]] = some (.tup [.int .i64 k, .int .i64 s, .int .i64 t, .int .i64 n, .osl d.length (ints d), .int .i64 c, .bool p]) := by
  refine E33 _ _ _ _ _ _ _ _ ?_
  unfold T33
  simp only [Int.ofNat_lt, decide_true, decide_false, cond_true, cond_false, inB_nat, inB_zero, must_true, Int.toNat_natCast, asInt_int, asBool_bool, asSl_sl, asOsl_osl, asStr_str, orcE_R, orcE_W, orcE_L, orcE_X, need_some', asTup_tup, List.getElem?_cons_zero, List.getElem?_cons_succ, Bool.not_true, Bool.not_false, Bool.true_and, Bool.and_true, Bool.false_or, ble_dec, beq_dec, List.length_cons, List.length_nil, Nat.mul_one, Nat.zero_add, Nat.add_zero, Nat.sub_zero, both_self', bytesV_length, bytesV_flat, bytesV_isU8, c55 d h, ints_flat]
theorem c38 (k s t n : Int) (d : List Int) (c : Int) (p : Bool) (h : d.length ≤ 1000000000) :
    runE C 38 [.agg [.int .i64 k, .int .i64 s, .int .i64 t, .int .i64 n, .sl d.length (ints d), .int .i64 c, .bool p]] = some (.tup [.int .i64 k, .int .i64 s, .int .i64 t, .int .i64 n, .osl d.length (ints d), .int .i64 c, .bool p]) := by
  refine E38 _ _ _ _ _ _ _ _ ?_
  unfold T38
  have e1 : d.length ≤ 140737488355328 := by omega
  have e2 : d.length * 8 ≤ 140737488355328 := by omega
  simp only [Int.ofNat_lt, decide_true, decide_false, cond_true, cond_false, inB_nat, inB_zero, must_true, Int.toNat_natCast, asInt_int, asBool_bool, asSl_sl, asOsl_osl, asStr_str, orcE_R, orcE_W, orcE_L, orcE_X, need_some', asTup_tup, List.getElem?_cons_zero, List.getElem?_cons_succ, Bool.not_true, Bool.not_false, Bool.true_and, Bool.and_true, Bool.false_or, ble_dec, beq_dec, List.length_cons, List.length_nil, Nat.mul_one, Nat.zero_add, Nat.add_zero, Nat.sub_zero, both_self', bytesV_length, bytesV_flat, bytesV_isU8, e1, e2, ints_length, ints_flat]
theorem c23 (k s t n : Int) (d : List Int) (c : Int) (p q : Bool) (h : d.length ≤ 1000000000) :
    runE C 23 [.agg [.int .i64 k, .int .i64 s, .int .i64 t, .int .i64 n, .sl d.length (ints d), .int .i64 c, .bool p], .bool q] = some (.tup (if ledFault k s t n d c = 0 then ledRes V.osl 0 k s t n d c q 0 0 0 ⟨#[]⟩ else ledRes V.osl (ledFault k s t n d c) 0 0 0 0 [] 0 false 0 0 0 ⟨#[]⟩)) := by
  refine E23 _ _ _ _ _ _ _ _ _ ?_
  unfold T23
  by_cases h0 : ledFault k s t n d c = 0
  · simp only [Int.ofNat_lt, decide_true, decide_false, cond_true, cond_false, inB_nat, inB_zero, must_true, Int.toNat_natCast, asInt_int, asBool_bool, asSl_sl, asOsl_osl, asStr_str, orcE_R, orcE_W, orcE_L, orcE_X, need_some', asTup_tup, List.getElem?_cons_zero, List.getElem?_cons_succ, Bool.not_true, Bool.not_false, Bool.true_and, Bool.and_true, Bool.false_or, ble_dec, beq_dec, List.length_cons, List.length_nil, Nat.mul_one, Nat.zero_add, Nat.add_zero, Nat.sub_zero, both_self', bytesV_length, bytesV_flat, bytesV_isU8, and_self, and_true, true_and, and_false, false_and, or_true, true_or, or_false, false_or, not_true_eq_false, not_false_eq_true, if_true, if_false, Bool.true_eq_false, Bool.false_eq_true, Bool.true_and, Bool.false_and, Bool.and_false, Bool.and_true, Bool.or_true, Bool.true_or, Bool.not_true, Bool.not_false, cond_true, cond_false, c12 k s t n d c p h, h0, bne_f, c33 k s t n d c p h, ints_flat]
    rfl
  · simp only [Int.ofNat_lt, decide_true, decide_false, cond_true, cond_false, inB_nat, inB_zero, must_true, Int.toNat_natCast, asInt_int, asBool_bool, asSl_sl, asOsl_osl, asStr_str, orcE_R, orcE_W, orcE_L, orcE_X, need_some', asTup_tup, List.getElem?_cons_zero, List.getElem?_cons_succ, Bool.not_true, Bool.not_false, Bool.true_and, Bool.and_true, Bool.false_or, ble_dec, beq_dec, List.length_cons, List.length_nil, Nat.mul_one, Nat.zero_add, Nat.add_zero, Nat.sub_zero, both_self', bytesV_length, bytesV_flat, bytesV_isU8, and_self, and_true, true_and, and_false, false_and, or_true, true_or, or_false, false_or, not_true_eq_false, not_false_eq_true, if_true, if_false, Bool.true_eq_false, Bool.false_eq_true, Bool.true_and, Bool.false_and, Bool.and_false, Bool.and_true, Bool.or_true, Bool.true_or, Bool.not_true, Bool.not_false, cond_true, cond_false, c12 k s t n d c p h, h0, bne_t h0]
    rfl
theorem c11 (k s t n : Int) (d : List Int) (c : Int) (p : Bool) (h : d.length ≤ 1000000000) :
    runE C 11 [.agg [.int .i64 k, .int .i64 s, .int .i64 t, .int .i64 n, .sl d.length (ints d), .int .i64 c, .bool p]] = some (.tup (if ledFault k s t n d c = 0 then [.int .i64 0, .int .i64 (held k s t)] else [.int .i64 (ledFault k s t n d c), .int .i64 0])) := by
  refine E11 _ _ _ _ _ _ _ _ ?_
  unfold T11
  by_cases h0 : ledFault k s t n d c = 0
  · obtain ⟨_, ⟨hs, ht, _⟩, _⟩ := ledFault_ok h0
    simp only [Int.ofNat_lt, decide_true, decide_false, cond_true, cond_false, inB_nat, inB_zero, must_true, Int.toNat_natCast, asInt_int, asBool_bool, asSl_sl, asOsl_osl, asStr_str, orcE_R, orcE_W, orcE_L, orcE_X, need_some', asTup_tup, List.getElem?_cons_zero, List.getElem?_cons_succ, Bool.not_true, Bool.not_false, Bool.true_and, Bool.and_true, Bool.false_or, ble_dec, beq_dec, List.length_cons, List.length_nil, Nat.mul_one, Nat.zero_add, Nat.add_zero, Nat.sub_zero, both_self', bytesV_length, bytesV_flat, bytesV_isU8, and_self, and_true, true_and, and_false, false_and, or_true, true_or, or_false, false_or, not_true_eq_false, not_false_eq_true, if_true, if_false, Bool.true_eq_false, Bool.false_eq_true, Bool.true_and, Bool.false_and, Bool.and_false, Bool.and_true, Bool.or_true, Bool.true_or, Bool.not_true, Bool.not_false, cond_true, cond_false, c12 k s t n d c p h, h0, bne_f, c35, held_wrap hs ht]
  · simp only [Int.ofNat_lt, decide_true, decide_false, cond_true, cond_false, inB_nat, inB_zero, must_true, Int.toNat_natCast, asInt_int, asBool_bool, asSl_sl, asOsl_osl, asStr_str, orcE_R, orcE_W, orcE_L, orcE_X, need_some', asTup_tup, List.getElem?_cons_zero, List.getElem?_cons_succ, Bool.not_true, Bool.not_false, Bool.true_and, Bool.and_true, Bool.false_or, ble_dec, beq_dec, List.length_cons, List.length_nil, Nat.mul_one, Nat.zero_add, Nat.add_zero, Nat.sub_zero, both_self', bytesV_length, bytesV_flat, bytesV_isU8, and_self, and_true, true_and, and_false, false_and, or_true, true_or, or_false, false_or, not_true_eq_false, not_false_eq_true, if_true, if_false, Bool.true_eq_false, Bool.false_eq_true, Bool.true_and, Bool.false_and, Bool.and_false, Bool.and_true, Bool.or_true, Bool.true_or, Bool.not_true, Bool.not_false, cond_true, cond_false, c12 k s t n d c p h, h0, bne_t h0]
/-! ### sending -/
theorem c59 (k s t n : Int) (m : Nat) (cs : List V) (c : Int) (p b : Bool) (a : Int) : runE C 59 [.pin [.int .i64 k, .int .i64 s, .int .i64 t, .int .i64 n, .sl m cs, .int .i64 c, .bool p] 0, .bool b, .int .i64 a] = some (.tup [.bool (if b then decide (IntKind.i64.wrap (IntKind.i64.wrap (held k s t) + a) ≤ c) else decide (a ≤ IntKind.i64.wrap (held k s t)))]) := by
  refine E59 _ _ _ _ _ _ _ _ _ _ ?_
  unfold T59
  cases b <;> simp [c31]
end Go.Proofs.YtkjjneejmjfhlaaDoor.Led
