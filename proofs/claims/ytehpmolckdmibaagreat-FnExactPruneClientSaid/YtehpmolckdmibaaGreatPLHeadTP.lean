/-
  Heads of blocks: their faults, digests, zeros, both sides.
-/
import Derived.Test.YtehpmolckdmibaaGreatPLSetTP
import Derived.Test.YtehpmolckdmibaaGreatPLClientTP
namespace Go.Proofs.YtehpmolckdmibaaGreat.Cli
open Go Go.PI Go.PI.Sha Go.PI.Rel Go.PI.Nest Go.PI.Tru Go.PI.Set Go.PI.Cli Go.Proofs.YtehpmolckdmibaaGreat.Sha Go.Proofs.YtehpmolckdmibaaGreat.By Go.Proofs.YtehpmolckdmibaaGreat.Nest Go.Proofs.YtehpmolckdmibaaGreat.Set EqP
set_option maxHeartbeats 1000000
set_option linter.unusedVariables false
set_option linter.unusedSimpArgs false

theorem c143 (b : List UInt8) : runE C 143 [.sl b.length (bytesV b)] = some (.tup [.bool (decide (b.length = 32))]) := by
  refine E143 _ _ ?_
  unfold T143
  have : (((b.length : Nat) : Int) == 32) = decide (b.length = 32) := by rw [Bool.eq_iff_iff]; simp; omega
  rw [this]
def notD (b : List UInt8) : Bool := !decide (b.length = 32)
theorem c178 (b : List UInt8) : runE C 178 [.sl b.length (bytesV b)] = some (.tup [.bool (notD b)]) := by
  refine E178 _ _ ?_
  unfold T178
  simp only [Int.ofNat_lt, decide_true, decide_false, cond_true, cond_false, inB_nat, inB_zero, must_true, Int.toNat_natCast, asInt_int, asBool_bool, asSl_sl, asOsl_osl, asStr_str, orcE_R, orcE_W, orcE_L, orcE_X, need_some', asTup_tup, List.getElem?_cons_zero, List.getElem?_cons_succ, Bool.not_true, Bool.not_false, Bool.true_and, Bool.and_true, Bool.false_or, ble_dec, beq_dec, List.length_cons, List.length_nil, Nat.mul_one, Nat.zero_add, Nat.add_zero, Nat.sub_zero, both_self', bytesV_length, bytesV_flat, bytesV_isU8, c143]
  rfl
theorem lD : ∀ (r d : List (List UInt8)) (n i : Nat), n = d.length + r.length → i = d.length → n < 1000000000 →
    ∃ x : Int, (decide (x ≥ 0) = r.any notD) ∧ loopE C 193 0 [true, false, true] [] [(0, V.sl n (psS (d ++ r))), (1, V.fn 178 []), (7, V.int .i64 (n : Int)), (8, V.int .i64 (i : Int))] [] = some (.tup [.int .i64 x])
  | [], d, n, i, hn, hi, hq => by
    refine ⟨-1, by simp, E193l1 _ _ _ _ ?_⟩
    unfold T193l1
    have : ¬ i < n := by simp at hn; omega
    simp [this]
  | b :: r, d, n, i, hn, hi, hq => by
    simp only [List.length_cons] at hn
    have hlt : i < n := by omega
    have hw := w64_succ (n := i) (by omega)
    have hg : (psS (d ++ b :: r))[i]? = some (bS b) := by subst hi; exact psS_at d b r
    have hl : (psS (d ++ b :: r)).length = n := by rw [psS_length]; simp; omega
    by_cases e : notD b = true
    · refine ⟨i, by simp [e], E193l1 _ _ _ _ ?_⟩
      unfold T193l1
      simp only [Int.ofNat_lt, decide_true, decide_false, cond_true, cond_false, inB_nat, inB_zero, must_true, Int.toNat_natCast, asInt_int, asBool_bool, asSl_sl, asOsl_osl, asStr_str, orcE_R, orcE_W, orcE_L, orcE_X, need_some', asTup_tup, List.getElem?_cons_zero, List.getElem?_cons_succ, Bool.not_true, Bool.not_false, Bool.true_and, Bool.and_true, Bool.false_or, ble_dec, beq_dec, List.length_cons, List.length_nil, Nat.mul_one, Nat.zero_add, Nat.add_zero, Nat.sub_zero, both_self', bytesV_length, bytesV_flat, bytesV_isU8, hlt, hg, hl, bS, c178, e]
    · obtain ⟨x, h1, ih⟩ := lD r (d ++ [b]) n (i + 1) (by simp; omega) (by simp; omega) hq
      refine ⟨x, by rw [h1]; simp [e], E193l1 _ _ _ _ ?_⟩
      unfold T193l1
      have e : notD b = false := by simpa using e
      simp only [List.append_assoc, List.singleton_append] at ih
      simp only [Int.ofNat_lt, decide_true, decide_false, cond_true, cond_false, inB_nat, inB_zero, must_true, Int.toNat_natCast, asInt_int, asBool_bool, asSl_sl, asOsl_osl, asStr_str, orcE_R, orcE_W, orcE_L, orcE_X, need_some', asTup_tup, List.getElem?_cons_zero, List.getElem?_cons_succ, Bool.not_true, Bool.not_false, Bool.true_and, Bool.and_true, Bool.false_or, ble_dec, beq_dec, List.length_cons, List.length_nil, Nat.mul_one, Nat.zero_add, Nat.add_zero, Nat.sub_zero, both_self', bytesV_length, bytesV_flat, bytesV_isU8, hlt, hg, hl, bS, c178, e, hw, ih]
theorem iD (l : List (List UInt8)) (h : l.length < 1000000000) : ∃ x : Int, (decide (x ≥ 0) = l.any notD) ∧ runE C 193 [.sl l.length (psS l), .fn 178 []] = some (.tup [.int .i64 x]) := by
  obtain ⟨x, h1, h2⟩ := lD l [] l.length 0 (by simp) rfl h
  refine ⟨x, h1, E193 _ _ ?_⟩
  unfold T193
  exact h2
theorem c115 (l : List (List UInt8)) (h : l.length < 1000000000) : runE C 115 [.sl l.length (psS l)] = some (.tup [.bool (!l.any notD)]) := by
  obtain ⟨x, h1, h2⟩ := iD l h
  refine E115 _ _ ?_
  unfold T115
  simp only [Int.ofNat_lt, decide_true, decide_false, cond_true, cond_false, inB_nat, inB_zero, must_true, Int.toNat_natCast, asInt_int, asBool_bool, asSl_sl, asOsl_osl, asStr_str, orcE_R, orcE_W, orcE_L, orcE_X, need_some', asTup_tup, List.getElem?_cons_zero, List.getElem?_cons_succ, Bool.not_true, Bool.not_false, Bool.true_and, Bool.and_true, Bool.false_or, ble_dec, beq_dec, List.length_cons, List.length_nil, Nat.mul_one, Nat.zero_add, Nat.add_zero, Nat.sub_zero, both_self', bytesV_length, bytesV_flat, bytesV_isU8, h2, h1]
theorem c116 (n : Int) : runE C 116 [.int .i64 n] = some (.tup [.bool (decide (0 ≤ n ∧ n ≤ 40))]) := by
  refine E116 _ ?_
  unfold T116
  simp only [Int.ofNat_lt, decide_true, decide_false, cond_true, cond_false, inB_nat, inB_zero, must_true, Int.toNat_natCast, asInt_int, asBool_bool, asSl_sl, asOsl_osl, asStr_str, orcE_R, orcE_W, orcE_L, orcE_X, need_some', asTup_tup, List.getElem?_cons_zero, List.getElem?_cons_succ, Bool.not_true, Bool.not_false, Bool.true_and, Bool.and_true, Bool.false_or, ble_dec, beq_dec, List.length_cons, List.length_nil, Nat.mul_one, Nat.zero_add, Nat.add_zero, Nat.sub_zero, both_self', bytesV_length, bytesV_flat, bytesV_isU8, c47]
theorem c52 (x : Hd) : runE C 52 [.agg [.sl x.par.length (bytesV x.par), .int .i64 x.hgt, .int .i64 x.tim, .int .i64 x.zer, .sl x.root.length (bytesV x.root), .int .i64 x.non]] = some (.tup [.int .i64 (hdFault x)]) := by
  refine E52 _ _ _ _ _ _ _ _ ?_
  unfold T52
  have k := c115 [x.par, x.root] (by simp)
  have k : runE C 115 [.sl 2 [.sl x.par.length (bytesV x.par), .sl x.root.length (bytesV x.root)]] = _ := k
  unfold hdFault
  by_cases g1 : x.par.length = 32 ∧ x.root.length = 32
  · have e : (!([x.par, x.root] : List (List UInt8)).any notD) = true := by simp [notD, g1]
    rw [e] at k
    simp only [Int.ofNat_lt, decide_true, decide_false, cond_true, cond_false, inB_nat, inB_zero, must_true, Int.toNat_natCast, asInt_int, asBool_bool, asSl_sl, asOsl_osl, asStr_str, orcE_R, orcE_W, orcE_L, orcE_X, need_some', asTup_tup, List.getElem?_cons_zero, List.getElem?_cons_succ, Bool.not_true, Bool.not_false, Bool.true_and, Bool.and_true, Bool.false_or, ble_dec, beq_dec, List.length_cons, List.length_nil, Nat.mul_one, Nat.zero_add, Nat.add_zero, Nat.sub_zero, both_self', bytesV_length, bytesV_flat, bytesV_isU8, k, c47, c116]
    by_cases g2 : 0 ≤ x.hgt ∧ x.hgt ≤ 1000000 <;> by_cases g3 : 0 ≤ x.tim ∧ x.tim ≤ 1099511627776 <;> by_cases g4 : 0 ≤ x.zer ∧ x.zer ≤ 40 <;> by_cases g5 : 0 ≤ x.non ∧ x.non ≤ 2199023255552 <;> simp [g1, g2, g3, g4, g5]
  · have e : (!([x.par, x.root] : List (List UInt8)).any notD) = false := by
      simp only [notD, List.any_cons, List.any_nil, Bool.or_false, Bool.not_eq_false', Bool.or_eq_true, Bool.not_eq_true', decide_eq_false_iff_not]
      omega
    rw [e] at k
    simp only [Int.ofNat_lt, decide_true, decide_false, cond_true, cond_false, inB_nat, inB_zero, must_true, Int.toNat_natCast, asInt_int, asBool_bool, asSl_sl, asOsl_osl, asStr_str, orcE_R, orcE_W, orcE_L, orcE_X, need_some', asTup_tup, List.getElem?_cons_zero, List.getElem?_cons_succ, Bool.not_true, Bool.not_false, Bool.true_and, Bool.and_true, Bool.false_or, ble_dec, beq_dec, List.length_cons, List.length_nil, Nat.mul_one, Nat.zero_add, Nat.add_zero, Nat.sub_zero, both_self', bytesV_length, bytesV_flat, bytesV_isU8, k]
    simp [g1]
theorem c166 (x : Hd) : runE C 166 [.agg [.sl x.par.length (bytesV x.par), .int .i64 x.hgt, .int .i64 x.tim, .int .i64 x.zer, .sl x.root.length (bytesV x.root), .int .i64 x.non]] = some (.tup [.int .i64 (hdFault x)]) := by
  refine E166 _ _ _ _ _ _ _ _ ?_
  unfold T166
  unfold hdFault
  have z : ∀ n : Nat, ((n : Int) != 32) = !decide (n = 32) := fun n => by rw [Bool.eq_iff_iff]; simp; omega
  simp only [z, c99, Int.ofNat_lt, decide_true, decide_false, cond_true, cond_false, inB_nat, inB_zero, must_true, Int.toNat_natCast, asInt_int, asBool_bool, asSl_sl, asOsl_osl, asStr_str, orcE_R, orcE_W, orcE_L, orcE_X, need_some', asTup_tup, List.getElem?_cons_zero, List.getElem?_cons_succ, Bool.not_true, Bool.not_false, Bool.true_and, Bool.and_true, Bool.false_or, ble_dec, beq_dec, List.length_cons, List.length_nil, Nat.mul_one, Nat.zero_add, Nat.add_zero, Nat.sub_zero, both_self', bytesV_length, bytesV_flat, bytesV_isU8]
  by_cases g1 : x.par.length = 32 <;> by_cases g1' : x.root.length = 32 <;> by_cases g2 : 0 ≤ x.hgt ∧ x.hgt ≤ 1000000 <;> by_cases g3 : 0 ≤ x.tim ∧ x.tim ≤ 1099511627776 <;> by_cases g4 : 0 ≤ x.zer ∧ x.zer ≤ 40 <;> by_cases g5 : 0 ≤ x.non ∧ x.non ≤ 2199023255552 <;> simp [g1, g1', g2, g3, g4, g5]
/-! ### digests -/
theorem c119 (x : Hd) : runE C 119 [.agg [.sl x.par.length (bytesV x.par), .int .i64 x.hgt, .int .i64 x.tim, .int .i64 x.zer, .sl x.root.length (bytesV x.root), .int .i64 x.non]] = some (.tup [.sl 5 (psS (hdW x))]) := by
  refine E119 _ _ _ _ _ _ _ _ ?_
  unfold T119
  simp only [Int.ofNat_lt, decide_true, decide_false, cond_true, cond_false, inB_nat, inB_zero, must_true, Int.toNat_natCast, asInt_int, asBool_bool, asSl_sl, asOsl_osl, asStr_str, orcE_R, orcE_W, orcE_L, orcE_X, need_some', asTup_tup, List.getElem?_cons_zero, List.getElem?_cons_succ, Bool.not_true, Bool.not_false, Bool.true_and, Bool.and_true, Bool.false_or, ble_dec, beq_dec, List.length_cons, List.length_nil, Nat.mul_one, Nat.zero_add, Nat.add_zero, Nat.sub_zero, both_self', bytesV_length, bytesV_flat, bytesV_isU8, c120]
  simp only [hdW, psS, List.flatMap_cons, List.flatMap_nil, bS, num7_length]
  rfl
theorem c53 (x : Hd) (h1 : x.par.length ≤ 200) (h2 : x.root.length ≤ 200) : runE C 53 [.agg [.sl x.par.length (bytesV x.par), .int .i64 x.hgt, .int .i64 x.tim, .int .i64 x.zer, .sl x.root.length (bytesV x.root), .int .i64 x.non]] = some (.tup [.sl 32 (bytesV (hdDig x))]) := by
  have hs := hdW_small h1 h2
  have k1 : runE C 118 [.sl 5 (psS (hdW x))] = _ := c118 (hdW x) hs
  have hl : (packW (hdW x)).length ≤ 4000 := by rw [packW_length]; exact hs.2.2
  have k2 := c117 [packW (hdW x), num7 x.non] (by simp) (by simp only [List.flatten_cons, List.flatten_nil, List.length_append, List.length_nil, num7_length]; omega)
  have k2 : runE C 117 [.sl 2 [.sl (packW (hdW x)).length (bytesV (packW (hdW x))), .sl (num7 x.non).length (bytesV (num7 x.non))]] = _ := k2
  rw [num7_length] at k2
  simp only [List.flatten_cons, List.flatten_nil, List.append_nil] at k2
  refine E53 _ _ _ _ _ _ _ _ ?_
  unfold T53
  simp only [Int.ofNat_lt, decide_true, decide_false, cond_true, cond_false, inB_nat, inB_zero, must_true, Int.toNat_natCast, asInt_int, asBool_bool, asSl_sl, asOsl_osl, asStr_str, orcE_R, orcE_W, orcE_L, orcE_X, need_some', asTup_tup, List.getElem?_cons_zero, List.getElem?_cons_succ, Bool.not_true, Bool.not_false, Bool.true_and, Bool.and_true, Bool.false_or, ble_dec, beq_dec, List.length_cons, List.length_nil, Nat.mul_one, Nat.zero_add, Nat.add_zero, Nat.sub_zero, both_self', bytesV_length, bytesV_flat, bytesV_isU8, c119, k1, c120, k2]
  rfl
theorem c206 (x : Hd) : runE C 206 [.agg [.sl x.par.length (bytesV x.par), .int .i64 x.hgt, .int .i64 x.tim, .int .i64 x.zer, .sl x.root.length (bytesV x.root), .int .i64 x.non]] = some (.tup [.sl 5 (psS (hdW x))]) := by
  refine E206 _ _ _ _ _ _ _ _ ?_
  unfold T206
  simp only [Int.ofNat_lt, decide_true, decide_false, cond_true, cond_false, inB_nat, inB_zero, must_true, Int.toNat_natCast, asInt_int, asBool_bool, asSl_sl, asOsl_osl, asStr_str, orcE_R, orcE_W, orcE_L, orcE_X, need_some', asTup_tup, List.getElem?_cons_zero, List.getElem?_cons_succ, Bool.not_true, Bool.not_false, Bool.true_and, Bool.and_true, Bool.false_or, ble_dec, beq_dec, List.length_cons, List.length_nil, Nat.mul_one, Nat.zero_add, Nat.add_zero, Nat.sub_zero, both_self', bytesV_length, bytesV_flat, bytesV_isU8, c134]
  simp only [hdW, psS, List.flatMap_cons, List.flatMap_nil, bS, num7_length]
  rfl
theorem c168 (x : Hd) (h1 : x.par.length ≤ 200) (h2 : x.root.length ≤ 200) : runE C 168 [.agg [.sl x.par.length (bytesV x.par), .int .i64 x.hgt, .int .i64 x.tim, .int .i64 x.zer, .sl x.root.length (bytesV x.root), .int .i64 x.non]] = some (.tup [.osl 32 (bytesV (hdDig x))]) := by
  have hs := hdW_small h1 h2
  have k1 : runE C 135 [.sl 5 (psS (hdW x))] = _ := c135 (hdW x) hs
  have hl : (packW (hdW x)).length ≤ 4000 := by rw [packW_length]; exact hs.2.2
  have k2 := c187 (packW (hdW x) ++ num7 x.non) (by rw [List.length_append, num7_length]; omega)
  rw [List.length_append, num7_length, bytesV_append] at k2
  have d1 : (packW (hdW x)).length + 7 ≤ 140737488355328 := by omega
  refine E168 _ _ _ _ _ _ _ _ ?_
  unfold T168
  simp only [Int.ofNat_lt, decide_true, decide_false, cond_true, cond_false, inB_nat, inB_zero, must_true, Int.toNat_natCast, asInt_int, asBool_bool, asSl_sl, asOsl_osl, asStr_str, orcE_R, orcE_W, orcE_L, orcE_X, need_some', asTup_tup, List.getElem?_cons_zero, List.getElem?_cons_succ, Bool.not_true, Bool.not_false, Bool.true_and, Bool.and_true, Bool.false_or, ble_dec, beq_dec, List.length_cons, List.length_nil, Nat.mul_one, Nat.zero_add, Nat.add_zero, Nat.sub_zero, both_self', bytesV_length, bytesV_flat, bytesV_isU8, c206, k1, c134, num7_length, d1, k2]
  rfl
theorem c122 (x : Hd) : runE C 122 [.agg [.sl x.par.length (bytesV x.par), .int .i64 x.hgt, .int .i64 x.tim, .int .i64 x.zer, .sl x.root.length (bytesV x.root), .int .i64 x.non]] = some (.tup [if hdFault x = 0 then .osl 32 (bytesV (hdDig x)) else .osl 0 []]) := by
  refine E122 _ _ _ _ _ _ _ _ ?_
  unfold T122
  have k := c166 x
  by_cases g : hdFault x = 0
  · have ho := hdFault_ok g
    rw [g] at k ⊢
    simp only [Int.ofNat_lt, decide_true, decide_false, cond_true, cond_false, inB_nat, inB_zero, must_true, Int.toNat_natCast, asInt_int, asBool_bool, asSl_sl, asOsl_osl, asStr_str, orcE_R, orcE_W, orcE_L, orcE_X, need_some', asTup_tup, List.getElem?_cons_zero, List.getElem?_cons_succ, Bool.not_true, Bool.not_false, Bool.true_and, Bool.and_true, Bool.false_or, ble_dec, beq_dec, List.length_cons, List.length_nil, Nat.mul_one, Nat.zero_add, Nat.add_zero, Nat.sub_zero, both_self', bytesV_length, bytesV_flat, bytesV_isU8, k, bne_f, c168 x (by omega) (by omega), if_true]
  · simp only [Int.ofNat_lt, decide_true, decide_false, cond_true, cond_false, inB_nat, inB_zero, must_true, Int.toNat_natCast, asInt_int, asBool_bool, asSl_sl, asOsl_osl, asStr_str, orcE_R, orcE_W, orcE_L, orcE_X, need_some', asTup_tup, List.getElem?_cons_zero, List.getElem?_cons_succ, Bool.not_true, Bool.not_false, Bool.true_and, Bool.and_true, Bool.false_or, ble_dec, beq_dec, List.length_cons, List.length_nil, Nat.mul_one, Nat.zero_add, Nat.add_zero, Nat.sub_zero, both_self', bytesV_length, bytesV_flat, bytesV_isU8, k, bne_t g, if_neg g]
/-! ### zeros -/
theorem c230 (b : UInt8) : runE C 230 [.int .u8 b.toNat] = some (.tup [.int .i64 (len8 b.toNat)]) := by
  refine E230 _ ?_
  unfold T230
  exact tab_is _ (by decide +kernel) b.toNat_lt
theorem c209 (b : UInt8) : runE C 209 [.int .u8 b.toNat] = some (.tup [.int .i64 ((8 - len8 b.toNat : Nat) : Int)]) := by
  have h8 := len8_le _ b.toNat_lt
  have e : IntKind.i64.wrap (8 - (len8 b.toNat : Int)) = ((8 - len8 b.toNat : Nat) : Int) := by rw [w64 (by omega) (by omega)]; omega
  refine E209 _ ?_
  unfold T209
  simp only [Int.ofNat_lt, decide_true, decide_false, cond_true, cond_false, inB_nat, inB_zero, must_true, Int.toNat_natCast, asInt_int, asBool_bool, asSl_sl, asOsl_osl, asStr_str, orcE_R, orcE_W, orcE_L, orcE_X, need_some', asTup_tup, List.getElem?_cons_zero, List.getElem?_cons_succ, Bool.not_true, Bool.not_false, Bool.true_and, Bool.and_true, Bool.false_or, ble_dec, beq_dec, List.length_cons, List.length_nil, Nat.mul_one, Nat.zero_add, Nat.add_zero, Nat.sub_zero, both_self', bytesV_length, bytesV_flat, bytesV_isU8, c230, e]
theorem l173 : ∀ (r d : List UInt8) (n i acc : Nat), n = d.length + r.length → i = d.length → n ≤ 100000000 → acc ≤ 8 * i →
    loopE C 173 0 [true, true, false, true] [] [(3, V.int .i64 (acc : Int)), (6, V.sl n (bytesV (d ++ r))), (7, V.int .i64 (n : Int)), (8, V.int .i64 (i : Int))] [] = some (.tup [.int .i64 ((acc + zeros r : Nat) : Int)])
  | [], d, n, i, acc, hn, hi, hq, ha => by
    refine E173l1 _ _ _ _ _ ?_
    unfold T173l1
    have : ¬ i < n := by simp at hn; omega
    simp [this, zeros]
  | b :: r, d, n, i, acc, hn, hi, hq, ha => by
    simp only [List.length_cons] at hn
    have hlt : i < n := by omega
    have hw := w64_succ (n := i) (by omega)
    have hg : (bytesV (d ++ b :: r))[i]? = some (V.int .u8 (b.toNat : Int)) := by subst hi; simp [bytesV]
    have h8 := len8_le _ b.toNat_lt
    have hk : IntKind.i64.wrap ((acc : Int) + ((8 - len8 b.toNat : Nat) : Int)) = ((acc + (8 - len8 b.toNat) : Nat) : Int) := by rw [w64 (by omega) (by omega)]; omega
    have ez := zeros_cons b r
    refine E173l1 _ _ _ _ _ ?_
    unfold T173l1
    simp only [Int.ofNat_lt, decide_true, decide_false, cond_true, cond_false, inB_nat, inB_zero, must_true, Int.toNat_natCast, asInt_int, asBool_bool, asSl_sl, asOsl_osl, asStr_str, orcE_R, orcE_W, orcE_L, orcE_X, need_some', asTup_tup, List.getElem?_cons_zero, List.getElem?_cons_succ, Bool.not_true, Bool.not_false, Bool.true_and, Bool.and_true, Bool.false_or, ble_dec, beq_dec, List.length_cons, List.length_nil, Nat.mul_one, Nat.zero_add, Nat.add_zero, Nat.sub_zero, both_self', bytesV_length, bytesV_flat, bytesV_isU8, hlt, hg, c209, hk]
    by_cases g : b.toNat = 0
    · have e8 : len8 b.toNat = 0 := by rw [g]; rfl
      have ih := l173 r (d ++ [b]) n (i + 1) (acc + 8) (by simp; omega) (by simp; omega) hq (by omega)
      simp only [List.append_assoc, List.singleton_append] at ih
      have e : acc + 8 + zeros r = acc + zeros (b :: r) := by rw [ez, if_pos g]; omega
      rw [e] at ih
      have g' : (b.toNat : Int) = 0 := by omega
      simp only [e8, Nat.sub_zero, g', bne_f, Int.ofNat_lt, decide_true, decide_false, cond_true, cond_false, inB_nat, inB_zero, must_true, Int.toNat_natCast, asInt_int, asBool_bool, asSl_sl, asOsl_osl, asStr_str, orcE_R, orcE_W, orcE_L, orcE_X, need_some', asTup_tup, List.getElem?_cons_zero, List.getElem?_cons_succ, Bool.not_true, Bool.not_false, Bool.true_and, Bool.and_true, Bool.false_or, ble_dec, beq_dec, List.length_cons, List.length_nil, Nat.mul_one, Nat.zero_add, Nat.add_zero, Nat.sub_zero, both_self', bytesV_length, bytesV_flat, bytesV_isU8, hw, ih]
    · have g' : (b.toNat : Int) ≠ 0 := by omega
      rw [ez, if_neg g]
      simp only [bne_t g', Int.ofNat_lt, decide_true, decide_false, cond_true, cond_false, inB_nat, inB_zero, must_true, Int.toNat_natCast, asInt_int, asBool_bool, asSl_sl, asOsl_osl, asStr_str, orcE_R, orcE_W, orcE_L, orcE_X, need_some', asTup_tup, List.getElem?_cons_zero, List.getElem?_cons_succ, Bool.not_true, Bool.not_false, Bool.true_and, Bool.and_true, Bool.false_or, ble_dec, beq_dec, List.length_cons, List.length_nil, Nat.mul_one, Nat.zero_add, Nat.add_zero, Nat.sub_zero, both_self', bytesV_length, bytesV_flat, bytesV_isU8]
theorem c173 (l : List UInt8) (h : l.length ≤ 1000000) : runE C 173 [.sl l.length (bytesV l)] = some (.tup [.int .i64 (zeros l : Int)]) := by
  refine E173 _ _ ?_
  unfold T173
  have := l173 l [] l.length 0 0 (by simp) rfl (by omega) (by omega)
  simpa using this
theorem l2205 (b : UInt8) (d r : List UInt8) (n i : Nat) (hn : n = d.length + (r.length + 1)) (hi : i = d.length) (hq : n ≤ 100000000)
    (hnext : ∀ acc : Nat, acc ≤ 8 * (i + 1) → loopE C 205 0 [true, true, false, true] [] [(0, V.sl n (bytesV (d ++ b :: r))), (3, V.int .i64 (acc : Int)), (4, V.int .i64 ((i + 1 : Nat) : Int))] [] = some (.tup [.int .i64 ((acc + zeros r : Nat) : Int)])) :
    ∀ (k acc : Nat), k ≤ 8 → acc + k ≤ 8 * (i + 1) →
    loopE C 205 2 [true, true, false, true, false, true, false, false, true] [0] [(0, V.sl n (bytesV (d ++ b :: r))), (3, V.int .i64 (acc : Int)), (4, V.int .i64 (i : Int)), (5, V.int .i64 ((k : Int) - 1))] [] = some (.tup [.int .i64 ((acc + zf b.toNat (zeros r) k : Nat) : Int)])
  | 0, acc, hk, ha => by
    refine E205l2 _ _ _ _ _ ?_
    unfold T205l2
    have hw := w64_succ (n := i) (by omega)
    have e1 : decide (((0 : Nat) : Int) - 1 ≥ 0) = false := by decide
    simp only [zf, hw, e1, cond_false, orcE_L, hnext acc (by omega)]
  | k + 1, acc, hk, ha => by
    have hlt : i < n := by omega
    have hg : (bytesV (d ++ b :: r))[i]? = some (V.int .u8 (b.toNat : Int)) := by subst hi; simp [bytesV]
    have e1 : ((k + 1 : Nat) : Int) - 1 = (k : Int) := by omega
    have e2 : IntKind.i64.wrap ((k : Int) - 1) = (k : Int) - 1 := w64 (by omega) (by omega)
    have e4 : IntKind.u64.wrap (k : Int) = (k : Int) := IntWalk.u64_in _ (by omega)
    have e5 : decide ((k : Int) ≥ 0) = true := by simp
    have e6 : min k 8 = k := by omega
    have e7 : decide ((0 : Int) ≤ (k : Int)) = true := by simp
    have hw := w64_succ (n := acc) (by omega)
    have ih := l2205 b d r n i hn hi hq hnext k (acc + 1) (by omega) (by omega)
    refine E205l2 _ _ _ _ _ ?_
    unfold T205l2
    simp only [e1, e2, e4, e5, e6, e7, Int.ofNat_lt, decide_true, decide_false, cond_true, cond_false, inB_nat, inB_zero, must_true, Int.toNat_natCast, asInt_int, asBool_bool, asSl_sl, asOsl_osl, asStr_str, orcE_R, orcE_W, orcE_L, orcE_X, need_some', asTup_tup, List.getElem?_cons_zero, List.getElem?_cons_succ, Bool.not_true, Bool.not_false, Bool.true_and, Bool.and_true, Bool.false_or, ble_dec, beq_dec, List.length_cons, List.length_nil, Nat.mul_one, Nat.zero_add, Nat.add_zero, Nat.sub_zero, both_self', bytesV_length, bytesV_flat, bytesV_isU8, hlt, hg, bit_of _ b.toNat_lt k (by omega), zf, hw, ih]
    by_cases g : b.toNat / 2 ^ k % 2 = 1
    · simp [g]
    · simp only [g, decide_false, cond_false, if_false]
      rw [show acc + 1 + zf b.toNat (zeros r) k = acc + (1 + zf b.toNat (zeros r) k) by omega]
theorem l205 : ∀ (r d : List UInt8) (n i acc : Nat), n = d.length + r.length → i = d.length → n ≤ 100000000 → acc ≤ 8 * i →
    loopE C 205 0 [true, true, false, true] [] [(0, V.sl n (bytesV (d ++ r))), (3, V.int .i64 (acc : Int)), (4, V.int .i64 (i : Int))] [] = some (.tup [.int .i64 ((acc + zeros r : Nat) : Int)])
  | [], d, n, i, acc, hn, hi, hq, ha => by
    refine E205l1 _ _ _ _ ?_
    unfold T205l1
    have : ¬ i < n := by simp at hn; omega
    simp [this, zeros]
  | b :: r, d, n, i, acc, hn, hi, hq, ha => by
    simp only [List.length_cons] at hn
    have hlt : i < n := by omega
    have ih := fun acc' (h : acc' ≤ 8 * (i + 1)) => l205 r (d ++ [b]) n (i + 1) acc' (by simp; omega) (by simp; omega) hq h
    simp only [List.append_assoc, List.singleton_append] at ih
    have inner := l2205 b d r n i hn hi hq ih 8 acc (by omega) (by omega)
    have inner : loopE C 205 2 [true, true, false, true, false, true, false, false, true] [0] [(0, V.sl n (bytesV (d ++ b :: r))), (3, V.int .i64 (acc : Int)), (4, V.int .i64 (i : Int)), (5, V.int .i64 7)] [] = _ := inner
    refine E205l1 _ _ _ _ ?_
    unfold T205l1
    simp only [Int.ofNat_lt, decide_true, decide_false, cond_true, cond_false, inB_nat, inB_zero, must_true, Int.toNat_natCast, asInt_int, asBool_bool, asSl_sl, asOsl_osl, asStr_str, orcE_R, orcE_W, orcE_L, orcE_X, need_some', asTup_tup, List.getElem?_cons_zero, List.getElem?_cons_succ, Bool.not_true, Bool.not_false, Bool.true_and, Bool.and_true, Bool.false_or, ble_dec, beq_dec, List.length_cons, List.length_nil, Nat.mul_one, Nat.zero_add, Nat.add_zero, Nat.sub_zero, both_self', bytesV_length, bytesV_flat, bytesV_isU8, hlt, inner, zeros]
theorem c205 (l : List UInt8) (h : l.length ≤ 1000000) : runE C 205 [.sl l.length (bytesV l)] = some (.tup [.int .i64 (zeros l : Int)]) := by
  refine E205 _ _ ?_
  unfold T205
  have := l205 l [] l.length 0 0 (by simp) rfl (by omega) (by omega)
  simpa using this
/-! ### a head by itself -/
theorem c108 (x : Hd) (h1 : x.par.length ≤ 200) (h2 : x.root.length ≤ 200) : runE C 108 [.agg [.sl x.par.length (bytesV x.par), .int .i64 x.hgt, .int .i64 x.tim, .int .i64 x.zer, .sl x.root.length (bytesV x.root), .int .i64 x.non]] = some (.tup [.bool (hard x)]) := by
  have k := c173 (hdDig x) (by rw [hdDig_length]; omega)
  rw [hdDig_length] at k
  refine E108 _ _ _ _ _ _ _ _ ?_
  unfold T108
  simp only [Int.ofNat_lt, decide_true, decide_false, cond_true, cond_false, inB_nat, inB_zero, must_true, Int.toNat_natCast, asInt_int, asBool_bool, asSl_sl, asOsl_osl, asStr_str, orcE_R, orcE_W, orcE_L, orcE_X, need_some', asTup_tup, List.getElem?_cons_zero, List.getElem?_cons_succ, Bool.not_true, Bool.not_false, Bool.true_and, Bool.and_true, Bool.false_or, ble_dec, beq_dec, List.length_cons, List.length_nil, Nat.mul_one, Nat.zero_add, Nat.add_zero, Nat.sub_zero, both_self', bytesV_length, bytesV_flat, bytesV_isU8, c53 x h1 h2, k, ge_iff_le]
  rfl
theorem c167 (x : Hd) (h1 : x.par.length ≤ 200) (h2 : x.root.length ≤ 200) : runE C 167 [.agg [.sl x.par.length (bytesV x.par), .int .i64 x.hgt, .int .i64 x.tim, .int .i64 x.zer, .sl x.root.length (bytesV x.root), .int .i64 x.non]] = some (.tup [.bool (hard x)]) := by
  have k := c205 (hdDig x) (by rw [hdDig_length]; omega)
  rw [hdDig_length] at k
  refine E167 _ _ _ _ _ _ _ _ ?_
  unfold T167
  simp only [Int.ofNat_lt, decide_true, decide_false, cond_true, cond_false, inB_nat, inB_zero, must_true, Int.toNat_natCast, asInt_int, asBool_bool, asSl_sl, asOsl_osl, asStr_str, orcE_R, orcE_W, orcE_L, orcE_X, need_some', asTup_tup, List.getElem?_cons_zero, List.getElem?_cons_succ, Bool.not_true, Bool.not_false, Bool.true_and, Bool.and_true, Bool.false_or, ble_dec, beq_dec, List.length_cons, List.length_nil, Nat.mul_one, Nat.zero_add, Nat.add_zero, Nat.sub_zero, both_self', bytesV_length, bytesV_flat, bytesV_isU8, c168 x h1 h2, k, ge_iff_le]
  rfl
theorem c49 (x : Hd) : runE C 49 [.agg [.sl x.par.length (bytesV x.par), .int .i64 x.hgt, .int .i64 x.tim, .int .i64 x.zer, .sl x.root.length (bytesV x.root), .int .i64 x.non]] = some (.tup [.bool (first x)]) := by
  have k : runE C 78 [.sl x.par.length (bytesV x.par), .sl 32 [V.int .u8 0, V.int .u8 0, V.int .u8 0, V.int .u8 0, V.int .u8 0, V.int .u8 0, V.int .u8 0, V.int .u8 0, V.int .u8 0, V.int .u8 0, V.int .u8 0, V.int .u8 0, V.int .u8 0, V.int .u8 0, V.int .u8 0, V.int .u8 0, V.int .u8 0, V.int .u8 0, V.int .u8 0, V.int .u8 0, V.int .u8 0, V.int .u8 0, V.int .u8 0, V.int .u8 0, V.int .u8 0, V.int .u8 0, V.int .u8 0, V.int .u8 0, V.int .u8 0, V.int .u8 0, V.int .u8 0, V.int .u8 0]] = some (.tup [.bool (decide (x.par = zer32))]) := c78 x.par zer32
  refine E49 _ _ _ _ _ _ _ _ ?_
  unfold T49
  simp only [Int.ofNat_lt, decide_true, decide_false, cond_true, cond_false, inB_nat, inB_zero, must_true, Int.toNat_natCast, asInt_int, asBool_bool, asSl_sl, asOsl_osl, asStr_str, orcE_R, orcE_W, orcE_L, orcE_X, need_some', asTup_tup, List.getElem?_cons_zero, List.getElem?_cons_succ, Bool.not_true, Bool.not_false, Bool.true_and, Bool.and_true, Bool.false_or, ble_dec, beq_dec, List.length_cons, List.length_nil, Nat.mul_one, Nat.zero_add, Nat.add_zero, Nat.sub_zero, both_self', bytesV_length, bytesV_flat, bytesV_isU8, k]
  unfold first
  by_cases g1 : x.hgt = 0 <;> by_cases g2 : x.zer = 0 <;> simp [g1, g2, beq_f]
theorem c101 (x : Hd) (h : x.par.length ≤ 200) : runE C 101 [.agg [.sl x.par.length (bytesV x.par), .int .i64 x.hgt, .int .i64 x.tim, .int .i64 x.zer, .sl x.root.length (bytesV x.root), .int .i64 x.non]] = some (.tup [.bool (first x)]) := by
  have k : runE C 85 [.sl x.par.length (bytesV x.par), .sl 32 [V.int .u8 0, V.int .u8 0, V.int .u8 0, V.int .u8 0, V.int .u8 0, V.int .u8 0, V.int .u8 0, V.int .u8 0, V.int .u8 0, V.int .u8 0, V.int .u8 0, V.int .u8 0, V.int .u8 0, V.int .u8 0, V.int .u8 0, V.int .u8 0, V.int .u8 0, V.int .u8 0, V.int .u8 0, V.int .u8 0, V.int .u8 0, V.int .u8 0, V.int .u8 0, V.int .u8 0, V.int .u8 0, V.int .u8 0, V.int .u8 0, V.int .u8 0, V.int .u8 0, V.int .u8 0, V.int .u8 0, V.int .u8 0]] = some (.tup [.bool (decide (x.par = zer32))]) := c85 x.par zer32 (by omega)
  refine E101 _ _ _ _ _ _ _ _ ?_
  unfold T101
  simp only [Int.ofNat_lt, decide_true, decide_false, cond_true, cond_false, inB_nat, inB_zero, must_true, Int.toNat_natCast, asInt_int, asBool_bool, asSl_sl, asOsl_osl, asStr_str, orcE_R, orcE_W, orcE_L, orcE_X, need_some', asTup_tup, List.getElem?_cons_zero, List.getElem?_cons_succ, Bool.not_true, Bool.not_false, Bool.true_and, Bool.and_true, Bool.false_or, ble_dec, beq_dec, List.length_cons, List.length_nil, Nat.mul_one, Nat.zero_add, Nat.add_zero, Nat.sub_zero, both_self', bytesV_length, bytesV_flat, bytesV_isU8, k]
  unfold first
  by_cases g1 : x.hgt = 0 <;> by_cases g2 : x.zer = 0 <;> simp [g1, g2, beq_f]
theorem c48 (x : Hd) : runE C 48 [.agg [.sl x.par.length (bytesV x.par), .int .i64 x.hgt, .int .i64 x.tim, .int .i64 x.zer, .sl x.root.length (bytesV x.root), .int .i64 x.non]] = some (.tup [.int .i64 (hf x)]) := by
  have k := c52 x
  refine E48 _ _ _ _ _ _ _ _ ?_
  unfold T48 hf
  by_cases g : hdFault x = 0
  · have ho := hdFault_ok g
    rw [g] at k
    simp only [Int.ofNat_lt, decide_true, decide_false, cond_true, cond_false, inB_nat, inB_zero, must_true, Int.toNat_natCast, asInt_int, asBool_bool, asSl_sl, asOsl_osl, asStr_str, orcE_R, orcE_W, orcE_L, orcE_X, need_some', asTup_tup, List.getElem?_cons_zero, List.getElem?_cons_succ, Bool.not_true, Bool.not_false, Bool.true_and, Bool.and_true, Bool.false_or, ble_dec, beq_dec, List.length_cons, List.length_nil, Nat.mul_one, Nat.zero_add, Nat.add_zero, Nat.sub_zero, both_self', bytesV_length, bytesV_flat, bytesV_isU8, k, bne_f, c108 x (by omega) (by omega), g]
    cases hard x <;> simp
  · simp only [Int.ofNat_lt, decide_true, decide_false, cond_true, cond_false, inB_nat, inB_zero, must_true, Int.toNat_natCast, asInt_int, asBool_bool, asSl_sl, asOsl_osl, asStr_str, orcE_R, orcE_W, orcE_L, orcE_X, need_some', asTup_tup, List.getElem?_cons_zero, List.getElem?_cons_succ, Bool.not_true, Bool.not_false, Bool.true_and, Bool.and_true, Bool.false_or, ble_dec, beq_dec, List.length_cons, List.length_nil, Nat.mul_one, Nat.zero_add, Nat.add_zero, Nat.sub_zero, both_self', bytesV_length, bytesV_flat, bytesV_isU8, k, bne_t g]
    simp [g]
theorem c100 (x : Hd) : runE C 100 [.agg [.sl x.par.length (bytesV x.par), .int .i64 x.hgt, .int .i64 x.tim, .int .i64 x.zer, .sl x.root.length (bytesV x.root), .int .i64 x.non]] = some (.tup [.int .i64 (hf x)]) := by
  have k := c166 x
  refine E100 _ _ _ _ _ _ _ _ ?_
  unfold T100 hf
  by_cases g : hdFault x = 0
  · have ho := hdFault_ok g
    rw [g] at k
    simp only [Int.ofNat_lt, decide_true, decide_false, cond_true, cond_false, inB_nat, inB_zero, must_true, Int.toNat_natCast, asInt_int, asBool_bool, asSl_sl, asOsl_osl, asStr_str, orcE_R, orcE_W, orcE_L, orcE_X, need_some', asTup_tup, List.getElem?_cons_zero, List.getElem?_cons_succ, Bool.not_true, Bool.not_false, Bool.true_and, Bool.and_true, Bool.false_or, ble_dec, beq_dec, List.length_cons, List.length_nil, Nat.mul_one, Nat.zero_add, Nat.add_zero, Nat.sub_zero, both_self', bytesV_length, bytesV_flat, bytesV_isU8, k, bne_f, c167 x (by omega) (by omega), g]
    cases hard x <;> simp
  · simp only [Int.ofNat_lt, decide_true, decide_false, cond_true, cond_false, inB_nat, inB_zero, must_true, Int.toNat_natCast, asInt_int, asBool_bool, asSl_sl, asOsl_osl, asStr_str, orcE_R, orcE_W, orcE_L, orcE_X, need_some', asTup_tup, List.getElem?_cons_zero, List.getElem?_cons_succ, Bool.not_true, Bool.not_false, Bool.true_and, Bool.and_true, Bool.false_or, ble_dec, beq_dec, List.length_cons, List.length_nil, Nat.mul_one, Nat.zero_add, Nat.add_zero, Nat.sub_zero, both_self', bytesV_length, bytesV_flat, bytesV_isU8, k, bne_t g]
    simp [g]
end Go.Proofs.YtehpmolckdmibaaGreat.Cli
