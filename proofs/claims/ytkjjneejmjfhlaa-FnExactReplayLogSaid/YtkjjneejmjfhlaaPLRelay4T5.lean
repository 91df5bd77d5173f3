/-
  The relayer's functions, each by its plain word: turns; the law.
-/
import Derived.Test.YtkjjneejmjfhlaaPLRelay3T5
namespace Go.Proofs.Ytkjjneejmjfhlaa.Rel
open Go Go.PI Go.PI.Rel Eq5
set_option maxHeartbeats 1000000
set_option linter.unusedVariables false
set_option linter.unusedSimpArgs false

def encR (r : Int × Int × List Itm) : List V := [.int .i64 r.1, .int .i64 r.2.1, .osl r.2.2.length (its r.2.2)]
theorem c77 (a b : Int) : runE C 77 [.int .i64 a, .int .i64 b] = some (.tup [.int .i64 (if a < b then a else b)]) := by
  refine E77 _ _ ?_
  unfold T77
  by_cases h : a < b <;> simp [h]
theorem c55 (c n : Int) (q : List Itm) (hq : q.length ≤ 12) : runWE C 55 [] [.ptr 0 0, .int .i64 n] [.box 29 [.int .i64 c, .ref 1] false, .row 52 q.length (its q) false] = some (.tup (encR (rScan c q n))) := by
  refine E55 _ _ _ _ ?_
  unfold T55
  unfold rScan encR
  by_cases h1 : n = IntKind.i64.wrap (c + 1)
  · by_cases h2 : 1000000 < n
    · simp [← h1, h2]
    · by_cases h3 : 12 ≤ q.length
      · have : (q.length : Int) ≥ 12 := by omega
        simp [← h1, h2, h3, this]
      · have h4 : ¬ ((q.length : Int) ≥ 12) := by omega
        have h5 : q.length + 1 ≤ 140737488355328 := by omega
        have h6 : (q.length + 1) * 24 ≤ 140737488355328 := by omega
        have h7 : (its q ++ [V.int .i64 n, V.int .i64 0, V.int .i64 0]) = its (q ++ [⟨n, 0, 0⟩]) := by rw [its_append, its_one]
        simp [← h1, h2, h3, h4, h5, h6, h7]
  · simp [h1, bne_t h1]
theorem c61 (c n : Int) (q : List Itm) (hq : q.length ≤ 12) : runWE C 61 [] [.ptr 0 0, .int .i64 n] [.box 29 [.int .i64 c, .ref 1] false, .row 52 q.length (its q) false] = some (.tup (encR (rScan c q n))) := by
  refine E61 _ _ _ _ ?_
  unfold T61
  unfold rScan encR
  by_cases h1 : n = IntKind.i64.wrap (c + 1)
  · by_cases h2 : 1000000 < n
    · simp [← h1, h2]
    · by_cases h3 : 12 ≤ q.length
      · have : ((q.length : Int) == 12) = true := by simp; omega
        simp [← h1, h2, h3, this]
      · have h4 : ((q.length : Int) == 12) = false := by simp; omega
        have h5 : q.length + 1 ≤ 140737488355328 := by omega
        have h6 : (q.length + 1) * 24 ≤ 140737488355328 := by omega
        have h7 : (its q ++ [V.int .i64 n, V.int .i64 0, V.int .i64 0]) = its (q ++ [⟨n, 0, 0⟩]) := by rw [its_append, its_one]
        simp [← h1, h2, h3, h4, h5, h6, h7]
  · simp [h1, bne_t h1]
theorem pow_tries {b : Int} (h : 0 ≤ b ∧ b ≤ 8) : 0 ≤ tries b ∧ tries b ≤ 8 ∧ (0 : Int) < 2 ^ (tries b).toNat ∧ (2 : Int) ^ (tries b).toNat ≤ 256 := by
  unfold tries
  have : b = 0 ∨ b = 1 ∨ b = 2 ∨ b = 3 ∨ b = 4 ∨ b = 5 ∨ b = 6 ∨ b = 7 ∨ b = 8 := by omega
  rcases this with rfl | rfl | rfl | rfl | rfl | rfl | rfl | rfl | rfl <;> decide
theorem at_some {n : Int} {q : List Itm} {i : Nat} (h : rIdx n q 0 = some i) : at' n q = (i : Int) ∧ i < q.length := by
  refine ⟨by simp [at', posOf, h], ?_⟩
  have := (rIdx_lt n q 0 i h).2; omega
theorem at_none {n : Int} {q : List Itm} (h : rIdx n q 0 = none) : at' n q = -1 := by simp [at', posOf, h]
theorem c56 (c n w : Int) (q : List Itm) (hq : q.length ≤ 12) (hb : ∀ x ∈ q, 0 ≤ x.b ∧ x.b ≤ 8) : runWE C 56 [] [.ptr 0 0, .int .i64 n, .int .i64 w] [.box 29 [.int .i64 c, .ref 1] false, .row 52 q.length (its q) false] = some (.tup (encR (try' c q n w))) := by
  refine E56 _ _ _ _ _ ?_
  unfold T56
  simp only [Int.ofNat_lt, decide_true, decide_false, cond_true, cond_false, inB_nat, inB_zero, must_true, Int.toNat_natCast, asInt_int, asBool_bool, asSl_sl, asOsl_osl, asStr_str, orcE_R, orcE_W, orcE_L, orcE_X, need_some', asTup_tup, List.getElem?_cons_zero, List.getElem?_cons_succ, Bool.not_true, Bool.not_false, Bool.true_and, Bool.and_true, Bool.false_or, ble_dec, beq_dec, List.length_cons, List.length_nil, Nat.mul_one, Nat.zero_add, Nat.add_zero, Nat.sub_zero, both_self', bytesV_length, bytesV_flat, bytesV_isU8, c51, c76 c n q (by omega), c77]
  unfold try' encR
  by_cases h1 : 0 ≤ w ∧ w ≤ 1099511627776
  · cases h2 : rIdx n q 0 with
    | none => simp [h1, at_none h2]
    | some i =>
      obtain ⟨h3, hi⟩ := at_some h2
      have hbi := hb q[i] (List.getElem_mem _)
      obtain ⟨t1, t2, t3, t4⟩ := pow_tries hbi
      have e1 : IntKind.i64.wrap (q[i].b + 1) = q[i].b + 1 := w64 (by omega) (by omega)
      have e2 : (if (8 : Int) < q[i].b + 1 then 8 else q[i].b + 1) = tries q[i].b := rfl
      have e3 : IntKind.u64.wrap (tries q[i].b) = tries q[i].b := IntWalk.u64_in _ (by omega)
      have e4 : min (tries q[i].b).toNat 64 = (tries q[i].b).toNat := by omega
      have e5 : IntKind.i64.wrap (1 * 2 ^ (tries q[i].b).toNat) = 2 ^ (tries q[i].b).toNat := by rw [Int.one_mul]; exact w64 (by omega) (by omega)
      have e6 : IntKind.i64.wrap (w + 2 ^ (tries q[i].b).toNat) = w + 2 ^ (tries q[i].b).toNat := w64 (by omega) (by omega)
      have e7 : ¬ ((i : Int) < 0) := by omega
      simp only [h3, e7, Int.ofNat_lt, decide_true, decide_false, cond_true, cond_false, inB_nat, inB_zero, must_true, Int.toNat_natCast, asInt_int, asBool_bool, asSl_sl, asOsl_osl, asStr_str, orcE_R, orcE_W, orcE_L, orcE_X, need_some', asTup_tup, List.getElem?_cons_zero, List.getElem?_cons_succ, Bool.not_true, Bool.not_false, Bool.true_and, Bool.and_true, Bool.false_or, ble_dec, beq_dec, List.length_cons, List.length_nil, Nat.mul_one, Nat.zero_add, Nat.add_zero, Nat.sub_zero, both_self', bytesV_length, bytesV_flat, bytesV_isU8, h1, hi, its_0 hi, its_1 hi, its_2' hi, e1, e2, e3, e4, e5, e6, t1, its_length]
      have e8 := its_set hi ⟨q[i].a, tries q[i].b, w + 2 ^ (tries q[i].b).toNat⟩
      dsimp only at e8
      have e9 : i * 3 + 3 ≤ q.length * 3 := by omega
      simp [e8, e9, hi]
  · simp [h1]
theorem c62 (c n w : Int) (q : List Itm) (hq : q.length ≤ 12) (hb : ∀ x ∈ q, 0 ≤ x.b ∧ x.b ≤ 8) : runWE C 62 [] [.ptr 0 0, .int .i64 n, .int .i64 w] [.box 29 [.int .i64 c, .ref 1] false, .row 52 q.length (its q) false] = some (.tup (encR (try' c q n w))) := by
  refine E62 _ _ _ _ _ ?_
  unfold T62
  simp only [Int.ofNat_lt, decide_true, decide_false, cond_true, cond_false, inB_nat, inB_zero, must_true, Int.toNat_natCast, asInt_int, asBool_bool, asSl_sl, asOsl_osl, asStr_str, orcE_R, orcE_W, orcE_L, orcE_X, need_some', asTup_tup, List.getElem?_cons_zero, List.getElem?_cons_succ, Bool.not_true, Bool.not_false, Bool.true_and, Bool.and_true, Bool.false_or, ble_dec, beq_dec, List.length_cons, List.length_nil, Nat.mul_one, Nat.zero_add, Nat.add_zero, Nat.sub_zero, both_self', bytesV_length, bytesV_flat, bytesV_isU8, c47, c82 c n q (by omega)]
  unfold try' encR
  by_cases h1 : 0 ≤ w ∧ w ≤ 1099511627776
  · cases h2 : rIdx n q 0 with
    | none => simp [h1, at_none h2]
    | some i =>
      obtain ⟨h3, hi⟩ := at_some h2
      have hbi := hb q[i] (List.getElem_mem _)
      obtain ⟨t1, t2, t3, t4⟩ := pow_tries hbi
      have e1 : IntKind.i64.wrap (q[i].b + 1) = q[i].b + 1 := w64 (by omega) (by omega)
      have e2 : (if (8 : Int) < q[i].b + 1 then 8 else q[i].b + 1) = tries q[i].b := rfl
      have e4 : min (tries q[i].b).toNat 64 = (tries q[i].b).toNat := by omega
      have e5 : IntKind.i64.wrap (1 * 2 ^ (tries q[i].b).toNat) = 2 ^ (tries q[i].b).toNat := by rw [Int.one_mul]; exact w64 (by omega) (by omega)
      have e6 : IntKind.i64.wrap (w + 2 ^ (tries q[i].b).toNat) = w + 2 ^ (tries q[i].b).toNat := w64 (by omega) (by omega)
      have e7 : ¬ ((i : Int) < 0) := by omega
      have hi2 : i < (q.set i ⟨q[i].a, tries q[i].b, q[i].c⟩).length := by simpa using hi
      have e8 : i * 3 + 1 + 1 ≤ q.length * 3 := by omega
      have e9 : i * 3 + 2 + 1 ≤ q.length * 3 := by omega
      simp only [h3, e7, Int.ofNat_lt, decide_true, decide_false, cond_true, cond_false, inB_nat, inB_zero, must_true, Int.toNat_natCast, asInt_int, asBool_bool, asSl_sl, asOsl_osl, asStr_str, orcE_R, orcE_W, orcE_L, orcE_X, need_some', asTup_tup, List.getElem?_cons_zero, List.getElem?_cons_succ, Bool.not_true, Bool.not_false, Bool.true_and, Bool.and_true, Bool.false_or, ble_dec, beq_dec, List.length_cons, List.length_nil, Nat.mul_one, Nat.zero_add, Nat.add_zero, Nat.sub_zero, both_self', bytesV_length, bytesV_flat, bytesV_isU8, h1, hi, its_1 hi, e1, e2, its_length, its_set1 hi, its_1 hi2, List.getElem_set_self, t1, e4, e5, e6, its_set2 hi2, List.length_set, e8, e9, List.set_set, its_flat]
      simp [hi]
  · simp [h1]
theorem c57 (c n : Int) (q : List Itm) (hq : q.length ≤ 12) : runWE C 57 [] [.ptr 0 0, .int .i64 n] [.box 29 [.int .i64 c, .ref 1] false, .row 52 q.length (its q) false] = some (.tup (encR (rSettle c q n))) := by
  refine E57 _ _ _ _ ?_
  unfold T57
  simp only [Int.ofNat_lt, decide_true, decide_false, cond_true, cond_false, inB_nat, inB_zero, must_true, Int.toNat_natCast, asInt_int, asBool_bool, asSl_sl, asOsl_osl, asStr_str, orcE_R, orcE_W, orcE_L, orcE_X, need_some', asTup_tup, List.getElem?_cons_zero, List.getElem?_cons_succ, Bool.not_true, Bool.not_false, Bool.true_and, Bool.and_true, Bool.false_or, ble_dec, beq_dec, List.length_cons, List.length_nil, Nat.mul_one, Nat.zero_add, Nat.add_zero, Nat.sub_zero, both_self', bytesV_length, bytesV_flat, bytesV_isU8, c76 c n q (by omega)]
  unfold rSettle encR
  cases h2 : rIdx n q 0 with
  | none => simp [at_none h2]
  | some i =>
    obtain ⟨h3, hi⟩ := at_some h2
    have e7 : ¬ ((i : Int) < 0) := by omega
    have hw := w64_succ (n := i) (by omega)
    have a1 : decide ((0 : Int) ≤ (i : Int)) = true := by simp
    have a2 : decide ((i : Int) ≤ (q.length : Int)) = true := decide_eq_true (by omega)
    have a3 : decide ((0 : Int) ≤ ((i + 1 : Nat) : Int)) = true := decide_eq_true (by omega)
    have a4 : decide (((i + 1 : Nat) : Int) ≤ (q.length : Int)) = true := decide_eq_true (by omega)
    have a5 : (its (q.take i)).length = i * 3 := by rw [its_length, List.length_take]; omega
    have a6 : (its q).drop ((i + 1) * 3) = its (q.drop (i + 1)) := its_drop _ _
    have a7 : (its (q.drop (i + 1))).take ((q.length - (i + 1)) * 3) = its (q.drop (i + 1)) := List.take_of_length_le (by simp)
    have a8 : (its (q.drop (i + 1))).length = (q.length - (i + 1)) * 3 := by simp
    have b1 : i ≤ 140737488355328 := by omega
    have b2 : i * 24 ≤ 140737488355328 := by omega
    have b3 : i + (q.length - (i + 1)) ≤ 140737488355328 := by omega
    have b4 : (i + (q.length - (i + 1))) * 24 ≤ 140737488355328 := by omega
    have b5 : i + (q.length - (i + 1)) = (q.take i ++ q.drop (i + 1)).length := by simp; omega
    simp only [h3, e7, Int.ofNat_lt, decide_true, decide_false, cond_true, cond_false, inB_nat, inB_zero, must_true, Int.toNat_natCast, asInt_int, asBool_bool, asSl_sl, asOsl_osl, asStr_str, orcE_R, orcE_W, orcE_L, orcE_X, need_some', asTup_tup, List.getElem?_cons_zero, List.getElem?_cons_succ, Bool.not_true, Bool.not_false, Bool.true_and, Bool.and_true, Bool.false_or, ble_dec, beq_dec, List.length_cons, List.length_nil, Nat.mul_one, Nat.zero_add, Nat.add_zero, Nat.sub_zero, both_self', bytesV_length, bytesV_flat, bytesV_isU8, hw, a1, a2, a3, a4, List.drop_zero, a5, a6, a7, a8, b1, b2, b3, b4, its_take, ← its_append, its_flat]
    rw [b5]
theorem c63 (c n : Int) (q : List Itm) (hq : q.length ≤ 12) : runWE C 63 [] [.ptr 0 0, .int .i64 n] [.box 29 [.int .i64 c, .ref 1] false, .row 52 q.length (its q) false] = some (.tup (encR (rSettle c q n))) := by
  refine E63 _ _ _ _ ?_
  unfold T63
  simp only [Int.ofNat_lt, decide_true, decide_false, cond_true, cond_false, inB_nat, inB_zero, must_true, Int.toNat_natCast, asInt_int, asBool_bool, asSl_sl, asOsl_osl, asStr_str, orcE_R, orcE_W, orcE_L, orcE_X, need_some', asTup_tup, List.getElem?_cons_zero, List.getElem?_cons_succ, Bool.not_true, Bool.not_false, Bool.true_and, Bool.and_true, Bool.false_or, ble_dec, beq_dec, List.length_cons, List.length_nil, Nat.mul_one, Nat.zero_add, Nat.add_zero, Nat.sub_zero, both_self', bytesV_length, bytesV_flat, bytesV_isU8, c82 c n q (by omega)]
  unfold rSettle encR
  cases h2 : rIdx n q 0 with
  | none => simp [at_none h2]
  | some i =>
    obtain ⟨h3, hi⟩ := at_some h2
    have e7 : ¬ ((i : Int) < 0) := by omega
    have hw := w64_succ (n := i) (by omega)
    have a1 : decide ((0 : Int) ≤ (i : Int)) = true := by simp
    have a2 : decide ((i : Int) ≤ ((i + 1 : Nat) : Int)) = true := decide_eq_true (by omega)
    have a4 : decide (((i + 1 : Nat) : Int) ≤ (q.length : Int)) = true := decide_eq_true (by omega)
    have a6 : (its q).drop ((i + 1) * 3) = its (q.drop (i + 1)) := its_drop _ _
    have b5 : q.length - (i + 1 - i) = (q.take i ++ q.drop (i + 1)).length := by simp; omega
    simp only [h3, e7, Int.ofNat_lt, decide_true, decide_false, cond_true, cond_false, inB_nat, inB_zero, must_true, Int.toNat_natCast, asInt_int, asBool_bool, asSl_sl, asOsl_osl, asStr_str, orcE_R, orcE_W, orcE_L, orcE_X, need_some', asTup_tup, List.getElem?_cons_zero, List.getElem?_cons_succ, Bool.not_true, Bool.not_false, Bool.true_and, Bool.and_true, Bool.false_or, ble_dec, beq_dec, List.length_cons, List.length_nil, Nat.mul_one, Nat.zero_add, Nat.add_zero, Nat.sub_zero, both_self', bytesV_length, bytesV_flat, bytesV_isU8, hw, a1, a2, a4, a6, its_take, ← its_append, its_flat]
    rw [b5]
end Go.Proofs.Ytkjjneejmjfhlaa.Rel
