/-
  Heads of blocks: their faults, digests, zeros, both sides.
-/
import Derived.Test.YtehpmolckdmibaaPLSetTB
import Derived.Test.YtehpmolckdmibaaPLClientTB
namespace Go.Proofs.Ytehpmolckdmibaa.Cli
open Go Go.PI Go.PI.Sha Go.PI.Rel Go.PI.Nest Go.PI.Tru Go.PI.Set Go.PI.Cli Go.Proofs.Ytehpmolckdmibaa.Sha Go.Proofs.Ytehpmolckdmibaa.By Go.Proofs.Ytehpmolckdmibaa.Nest Go.Proofs.Ytehpmolckdmibaa.Set EqB
set_option maxHeartbeats 1000000
set_option linter.unusedVariables false
set_option linter.unusedSimpArgs false

theorem c196 (b : List UInt8) : runE C 196 [.sl b.length (bytesV b)] = some (.tup [.bool (decide (b.length = 32))]) := by
  refine E196 _ _ ?_
  unfold T196
  have : (((b.length : Nat) : Int) == 32) = decide (b.length = 32) := by rw [Bool.eq_iff_iff]; simp; omega
  rw [this]
def notD (b : List UInt8) : Bool := !decide (b.length = 32)
theorem c247 (b : List UInt8) : runE C 247 [.sl b.length (bytesV b)] = some (.tup [.bool (notD b)]) := by
  refine E247 _ _ ?_
  unfold T247
  simp only [Int.ofNat_lt, decide_true, decide_false, cond_true, cond_false, inB_nat, inB_zero, must_true, Int.toNat_natCast, asInt_int, asBool_bool, asSl_sl, asOsl_osl, asStr_str, orcE_R, orcE_W, orcE_L, orcE_X, need_some', asTup_tup, List.getElem?_cons_zero, List.getElem?_cons_succ, Bool.not_true, Bool.not_false, Bool.true_and, Bool.and_true, Bool.false_or, ble_dec, beq_dec, List.length_cons, List.length_nil, Nat.mul_one, Nat.zero_add, Nat.add_zero, Nat.sub_zero, both_self', bytesV_length, bytesV_flat, bytesV_isU8, c196]
  rfl
theorem lD : ∀ (r d : List (List UInt8)) (n i : Nat), n = d.length + r.length → i = d.length → n < 1000000000 →
    ∃ x : Int, (decide (x ≥ 0) = r.any notD) ∧ loopE C 211 0 [true, false, true] [] [(0, V.sl n (psS (d ++ r))), (1, V.fn 247 []), (7, V.int .i64 (n : Int)), (8, V.int .i64 (i : Int))] [] = some (.tup [.int .i64 x])
  | [], d, n, i, hn, hi, hq => by
    refine ⟨-1, by simp, E211l1 _ _ _ _ ?_⟩
    unfold T211l1
    have : ¬ i < n := by simp at hn; omega
    simp [this]
  | b :: r, d, n, i, hn, hi, hq => by
    simp only [List.length_cons] at hn
    have hlt : i < n := by omega
    have hw := w64_succ (n := i) (by omega)
    have hg : (psS (d ++ b :: r))[i]? = some (bS b) := by subst hi; exact psS_at d b r
    have hl : (psS (d ++ b :: r)).length = n := by rw [psS_length]; simp; omega
    by_cases e : notD b = true
    · refine ⟨i, by simp [e], E211l1 _ _ _ _ ?_⟩
      unfold T211l1
      simp only [Int.ofNat_lt, decide_true, decide_false, cond_true, cond_false, inB_nat, inB_zero, must_true, Int.toNat_natCast, asInt_int, asBool_bool, asSl_sl, asOsl_osl, asStr_str, orcE_R, orcE_W, orcE_L, orcE_X, need_some', asTup_tup, List.getElem?_cons_zero, List.getElem?_cons_succ, Bool.not_true, Bool.not_false, Bool.true_and, Bool.and_true, Bool.false_or, ble_dec, beq_dec, List.length_cons, List.length_nil, Nat.mul_one, Nat.zero_add, Nat.add_zero, Nat.sub_zero, both_self', bytesV_length, bytesV_flat, bytesV_isU8, hlt, hg, hl, bS, c247, e]
    · obtain ⟨x, h1, ih⟩ := lD r (d ++ [b]) n (i + 1) (by simp; omega) (by simp; omega) hq
      refine ⟨x, by rw [h1]; simp [e], E211l1 _ _ _ _ ?_⟩
      unfold T211l1
      have e : notD b = false := by simpa using e
      simp only [List.append_assoc, List.singleton_append] at ih
      simp only [Int.ofNat_lt, decide_true, decide_false, cond_true, cond_false, inB_nat, inB_zero, must_true, Int.toNat_natCast, asInt_int, asBool_bool, asSl_sl, asOsl_osl, asStr_str, orcE_R, orcE_W, orcE_L, orcE_X, need_some', asTup_tup, List.getElem?_cons_zero, List.getElem?_cons_succ, Bool.not_true, Bool.not_false, Bool.true_and, Bool.and_true, Bool.false_or, ble_dec, beq_dec, List.length_cons, List.length_nil, Nat.mul_one, Nat.zero_add, Nat.add_zero, Nat.sub_zero, both_self', bytesV_length, bytesV_flat, bytesV_isU8, hlt, hg, hl, bS, c247, e, hw, ih]
theorem iD (l : List (List UInt8)) (h : l.length < 1000000000) : ∃ x : Int, (decide (x ≥ 0) = l.any notD) ∧ runE C 211 [.sl l.length (psS l), .fn 247 []] = some (.tup [.int .i64 x]) := by
  obtain ⟨x, h1, h2⟩ := lD l [] l.length 0 (by simp) rfl h
  refine ⟨x, h1, E211 _ _ ?_⟩
  unfold T211
  exact h2
theorem c180 (l : List (List UInt8)) (h : l.length < 1000000000) : runE C 180 [.sl l.length (psS l)] = some (.tup [.bool (!l.any notD)]) := by
  obtain ⟨x, h1, h2⟩ := iD l h
  refine E180 _ _ ?_
  unfold T180
  simp only [Int.ofNat_lt, decide_true, decide_false, cond_true, cond_false, inB_nat, inB_zero, must_true, Int.toNat_natCast, asInt_int, asBool_bool, asSl_sl, asOsl_osl, asStr_str, orcE_R, orcE_W, orcE_L, orcE_X, need_some', asTup_tup, List.getElem?_cons_zero, List.getElem?_cons_succ, Bool.not_true, Bool.not_false, Bool.true_and, Bool.and_true, Bool.false_or, ble_dec, beq_dec, List.length_cons, List.length_nil, Nat.mul_one, Nat.zero_add, Nat.add_zero, Nat.sub_zero, both_self', bytesV_length, bytesV_flat, bytesV_isU8, h2, h1]
theorem c181 (n : Int) : runE C 181 [.int .i64 n] = some (.tup [.bool (decide (0 ≤ n ∧ n ≤ 40))]) := by
  refine E181 _ ?_
  unfold T181
  simp only [Int.ofNat_lt, decide_true, decide_false, cond_true, cond_false, inB_nat, inB_zero, must_true, Int.toNat_natCast, asInt_int, asBool_bool, asSl_sl, asOsl_osl, asStr_str, orcE_R, orcE_W, orcE_L, orcE_X, need_some', asTup_tup, List.getElem?_cons_zero, List.getElem?_cons_succ, Bool.not_true, Bool.not_false, Bool.true_and, Bool.and_true, Bool.false_or, ble_dec, beq_dec, List.length_cons, List.length_nil, Nat.mul_one, Nat.zero_add, Nat.add_zero, Nat.sub_zero, both_self', bytesV_length, bytesV_flat, bytesV_isU8, c92]
theorem c99 (x : Hd) : runE C 99 [.agg [.sl x.par.length (bytesV x.par), .int .i64 x.hgt, .int .i64 x.tim, .int .i64 x.zer, .sl x.root.length (bytesV x.root), .int .i64 x.non]] = some (.tup [.int .i64 (hdFault x)]) := by
  refine E99 _ _ _ _ _ _ _ _ ?_
  unfold T99
  have k := c180 [x.par, x.root] (by simp)
  have k : runE C 180 [.sl 2 [.sl x.par.length (bytesV x.par), .sl x.root.length (bytesV x.root)]] = _ := k
  unfold hdFault
  by_cases g1 : x.par.length = 32 ∧ x.root.length = 32
  · have e : (!([x.par, x.root] : List (List UInt8)).any notD) = true := by simp [notD, g1]
    rw [e] at k
    simp only [Int.ofNat_lt, decide_true, decide_false, cond_true, cond_false, inB_nat, inB_zero, must_true, Int.toNat_natCast, asInt_int, asBool_bool, asSl_sl, asOsl_osl, asStr_str, orcE_R, orcE_W, orcE_L, orcE_X, need_some', asTup_tup, List.getElem?_cons_zero, List.getElem?_cons_succ, Bool.not_true, Bool.not_false, Bool.true_and, Bool.and_true, Bool.false_or, ble_dec, beq_dec, List.length_cons, List.length_nil, Nat.mul_one, Nat.zero_add, Nat.add_zero, Nat.sub_zero, both_self', bytesV_length, bytesV_flat, bytesV_isU8, k, c92, c181]
    by_cases g2 : 0 ≤ x.hgt ∧ x.hgt ≤ 1000000 <;> by_cases g3 : 0 ≤ x.tim ∧ x.tim ≤ 1099511627776 <;> by_cases g4 : 0 ≤ x.zer ∧ x.zer ≤ 40 <;> by_cases g5 : 0 ≤ x.non ∧ x.non ≤ 2199023255552 <;> simp [g1, g2, g3, g4, g5]
  · have e : (!([x.par, x.root] : List (List UInt8)).any notD) = false := by
      simp only [notD, List.any_cons, List.any_nil, Bool.or_false, Bool.not_eq_false', Bool.or_eq_true, Bool.not_eq_true', decide_eq_false_iff_not]
      omega
    rw [e] at k
    simp only [Int.ofNat_lt, decide_true, decide_false, cond_true, cond_false, inB_nat, inB_zero, must_true, Int.toNat_natCast, asInt_int, asBool_bool, asSl_sl, asOsl_osl, asStr_str, orcE_R, orcE_W, orcE_L, orcE_X, need_some', asTup_tup, List.getElem?_cons_zero, List.getElem?_cons_succ, Bool.not_true, Bool.not_false, Bool.true_and, Bool.and_true, Bool.false_or, ble_dec, beq_dec, List.length_cons, List.length_nil, Nat.mul_one, Nat.zero_add, Nat.add_zero, Nat.sub_zero, both_self', bytesV_length, bytesV_flat, bytesV_isU8, k]
    simp [g1]
theorem c21 (x : Hd) : runE C 21 [.agg [.sl x.par.length (bytesV x.par), .int .i64 x.hgt, .int .i64 x.tim, .int .i64 x.zer, .sl x.root.length (bytesV x.root), .int .i64 x.non]] = some (.tup [.int .i64 (hdFault x)]) := by
  refine E21 _ _ _ _ _ _ _ _ ?_
  unfold T21
  unfold hdFault
  have z : ∀ n : Nat, ((n : Int) != 32) = !decide (n = 32) := fun n => by rw [Bool.eq_iff_iff]; simp; omega
  simp only [z, c103, Int.ofNat_lt, decide_true, decide_false, cond_true, cond_false, inB_nat, inB_zero, must_true, Int.toNat_natCast, asInt_int, asBool_bool, asSl_sl, asOsl_osl, asStr_str, orcE_R, orcE_W, orcE_L, orcE_X, need_some', asTup_tup, List.getElem?_cons_zero, List.getElem?_cons_succ, Bool.not_true, Bool.not_false, Bool.true_and, Bool.and_true, Bool.false_or, ble_dec, beq_dec, List.length_cons, List.length_nil, Nat.mul_one, Nat.zero_add, Nat.add_zero, Nat.sub_zero, both_self', bytesV_length, bytesV_flat, bytesV_isU8]
  by_cases g1 : x.par.length = 32 <;> by_cases g1' : x.root.length = 32 <;> by_cases g2 : 0 ≤ x.hgt ∧ x.hgt ≤ 1000000 <;> by_cases g3 : 0 ≤ x.tim ∧ x.tim ≤ 1099511627776 <;> by_cases g4 : 0 ≤ x.zer ∧ x.zer ≤ 40 <;> by_cases g5 : 0 ≤ x.non ∧ x.non ≤ 2199023255552 <;> simp [g1, g1', g2, g3, g4, g5]
/-! ### digests -/
theorem c101 (x : Hd) : runE C 101 [.agg [.sl x.par.length (bytesV x.par), .int .i64 x.hgt, .int .i64 x.tim, .int .i64 x.zer, .sl x.root.length (bytesV x.root), .int .i64 x.non]] = some (.tup [.sl 5 (psS (hdW x))]) := by
  refine E101 _ _ _ _ _ _ _ _ ?_
  unfold T101
  simp only [Int.ofNat_lt, decide_true, decide_false, cond_true, cond_false, inB_nat, inB_zero, must_true, Int.toNat_natCast, asInt_int, asBool_bool, asSl_sl, asOsl_osl, asStr_str, orcE_R, orcE_W, orcE_L, orcE_X, need_some', asTup_tup, List.getElem?_cons_zero, List.getElem?_cons_succ, Bool.not_true, Bool.not_false, Bool.true_and, Bool.and_true, Bool.false_or, ble_dec, beq_dec, List.length_cons, List.length_nil, Nat.mul_one, Nat.zero_add, Nat.add_zero, Nat.sub_zero, both_self', bytesV_length, bytesV_flat, bytesV_isU8, c102]
  simp only [hdW, psS, List.flatMap_cons, List.flatMap_nil, bS, num7_length]
  rfl
theorem c104 (x : Hd) (h1 : x.par.length ≤ 200) (h2 : x.root.length ≤ 200) : runE C 104 [.agg [.sl x.par.length (bytesV x.par), .int .i64 x.hgt, .int .i64 x.tim, .int .i64 x.zer, .sl x.root.length (bytesV x.root), .int .i64 x.non]] = some (.tup [.sl 32 (bytesV (hdDig x))]) := by
  have hs := hdW_small h1 h2
  have k1 : runE C 100 [.sl 5 (psS (hdW x))] = _ := c100 (hdW x) hs
  have hl : (packW (hdW x)).length ≤ 4000 := by rw [packW_length]; exact hs.2.2
  have k2 := c183 [packW (hdW x), num7 x.non] (by simp) (by simp only [List.flatten_cons, List.flatten_nil, List.length_append, List.length_nil, num7_length]; omega)
  have k2 : runE C 183 [.sl 2 [.sl (packW (hdW x)).length (bytesV (packW (hdW x))), .sl (num7 x.non).length (bytesV (num7 x.non))]] = _ := k2
  rw [num7_length] at k2
  simp only [List.flatten_cons, List.flatten_nil, List.append_nil] at k2
  refine E104 _ _ _ _ _ _ _ _ ?_
  unfold T104
  simp only [Int.ofNat_lt, decide_true, decide_false, cond_true, cond_false, inB_nat, inB_zero, must_true, Int.toNat_natCast, asInt_int, asBool_bool, asSl_sl, asOsl_osl, asStr_str, orcE_R, orcE_W, orcE_L, orcE_X, need_some', asTup_tup, List.getElem?_cons_zero, List.getElem?_cons_succ, Bool.not_true, Bool.not_false, Bool.true_and, Bool.and_true, Bool.false_or, ble_dec, beq_dec, List.length_cons, List.length_nil, Nat.mul_one, Nat.zero_add, Nat.add_zero, Nat.sub_zero, both_self', bytesV_length, bytesV_flat, bytesV_isU8, c101, k1, c102, k2]
  rfl
theorem c112 (x : Hd) : runE C 112 [.agg [.sl x.par.length (bytesV x.par), .int .i64 x.hgt, .int .i64 x.tim, .int .i64 x.zer, .sl x.root.length (bytesV x.root), .int .i64 x.non]] = some (.tup [.sl 5 (psS (hdW x))]) := by
  refine E112 _ _ _ _ _ _ _ _ ?_
  unfold T112
  simp only [Int.ofNat_lt, decide_true, decide_false, cond_true, cond_false, inB_nat, inB_zero, must_true, Int.toNat_natCast, asInt_int, asBool_bool, asSl_sl, asOsl_osl, asStr_str, orcE_R, orcE_W, orcE_L, orcE_X, need_some', asTup_tup, List.getElem?_cons_zero, List.getElem?_cons_succ, Bool.not_true, Bool.not_false, Bool.true_and, Bool.and_true, Bool.false_or, ble_dec, beq_dec, List.length_cons, List.length_nil, Nat.mul_one, Nat.zero_add, Nat.add_zero, Nat.sub_zero, both_self', bytesV_length, bytesV_flat, bytesV_isU8, c188]
  simp only [hdW, psS, List.flatMap_cons, List.flatMap_nil, bS, num7_length]
  rfl
theorem c258 (x : Hd) (h1 : x.par.length ≤ 200) (h2 : x.root.length ≤ 200) : runE C 258 [.agg [.sl x.par.length (bytesV x.par), .int .i64 x.hgt, .int .i64 x.tim, .int .i64 x.zer, .sl x.root.length (bytesV x.root), .int .i64 x.non]] = some (.tup [.osl 32 (bytesV (hdDig x))]) := by
  have hs := hdW_small h1 h2
  have k1 : runE C 111 [.sl 5 (psS (hdW x))] = _ := c111 (hdW x) hs
  have hl : (packW (hdW x)).length ≤ 4000 := by rw [packW_length]; exact hs.2.2
  have k2 := c187 (packW (hdW x) ++ num7 x.non) (by rw [List.length_append, num7_length]; omega)
  rw [List.length_append, num7_length, bytesV_append] at k2
  have d1 : (packW (hdW x)).length + 7 ≤ 140737488355328 := by omega
  refine E258 _ _ _ _ _ _ _ _ ?_
  unfold T258
  simp only [Int.ofNat_lt, decide_true, decide_false, cond_true, cond_false, inB_nat, inB_zero, must_true, Int.toNat_natCast, asInt_int, asBool_bool, asSl_sl, asOsl_osl, asStr_str, orcE_R, orcE_W, orcE_L, orcE_X, need_some', asTup_tup, List.getElem?_cons_zero, List.getElem?_cons_succ, Bool.not_true, Bool.not_false, Bool.true_and, Bool.and_true, Bool.false_or, ble_dec, beq_dec, List.length_cons, List.length_nil, Nat.mul_one, Nat.zero_add, Nat.add_zero, Nat.sub_zero, both_self', bytesV_length, bytesV_flat, bytesV_isU8, c112, k1, c188, num7_length, d1, k2]
  rfl
theorem c255 (x : Hd) : runE C 255 [.agg [.sl x.par.length (bytesV x.par), .int .i64 x.hgt, .int .i64 x.tim, .int .i64 x.zer, .sl x.root.length (bytesV x.root), .int .i64 x.non]] = some (.tup [if hdFault x = 0 then .osl 32 (bytesV (hdDig x)) else .osl 0 []]) := by
  refine E255 _ _ _ _ _ _ _ _ ?_
  unfold T255
  have k := c21 x
  by_cases g : hdFault x = 0
  · have ho := hdFault_ok g
    rw [g] at k ⊢
    simp only [Int.ofNat_lt, decide_true, decide_false, cond_true, cond_false, inB_nat, inB_zero, must_true, Int.toNat_natCast, asInt_int, asBool_bool, asSl_sl, asOsl_osl, asStr_str, orcE_R, orcE_W, orcE_L, orcE_X, need_some', asTup_tup, List.getElem?_cons_zero, List.getElem?_cons_succ, Bool.not_true, Bool.not_false, Bool.true_and, Bool.and_true, Bool.false_or, ble_dec, beq_dec, List.length_cons, List.length_nil, Nat.mul_one, Nat.zero_add, Nat.add_zero, Nat.sub_zero, both_self', bytesV_length, bytesV_flat, bytesV_isU8, k, bne_f, c258 x (by omega) (by omega), if_true]
  · simp only [Int.ofNat_lt, decide_true, decide_false, cond_true, cond_false, inB_nat, inB_zero, must_true, Int.toNat_natCast, asInt_int, asBool_bool, asSl_sl, asOsl_osl, asStr_str, orcE_R, orcE_W, orcE_L, orcE_X, need_some', asTup_tup, List.getElem?_cons_zero, List.getElem?_cons_succ, Bool.not_true, Bool.not_false, Bool.true_and, Bool.and_true, Bool.false_or, ble_dec, beq_dec, List.length_cons, List.length_nil, Nat.mul_one, Nat.zero_add, Nat.add_zero, Nat.sub_zero, both_self', bytesV_length, bytesV_flat, bytesV_isU8, k, bne_t g, if_neg g]
/-! ### zeros -/
theorem c189 (b : UInt8) : runE C 189 [.int .u8 b.toNat] = some (.tup [.int .i64 (len8 b.toNat)]) := by
  refine E189 _ ?_
  unfold T189
  exact tab_is _ (by decide +kernel) b.toNat_lt
theorem c114 (b : UInt8) : runE C 114 [.int .u8 b.toNat] = some (.tup [.int .i64 ((8 - len8 b.toNat : Nat) : Int)]) := by
  have h8 := len8_le _ b.toNat_lt
  have e : IntKind.i64.wrap (8 - (len8 b.toNat : Int)) = ((8 - len8 b.toNat : Nat) : Int) := by rw [w64 (by omega) (by omega)]; omega
  refine E114 _ ?_
  unfold T114
  simp only [Int.ofNat_lt, decide_true, decide_false, cond_true, cond_false, inB_nat, inB_zero, must_true, Int.toNat_natCast, asInt_int, asBool_bool, asSl_sl, asOsl_osl, asStr_str, orcE_R, orcE_W, orcE_L, orcE_X, need_some', asTup_tup, List.getElem?_cons_zero, List.getElem?_cons_succ, Bool.not_true, Bool.not_false, Bool.true_and, Bool.and_true, Bool.false_or, ble_dec, beq_dec, List.length_cons, List.length_nil, Nat.mul_one, Nat.zero_add, Nat.add_zero, Nat.sub_zero, both_self', bytesV_length, bytesV_flat, bytesV_isU8, c189, e]
theorem l27 : ∀ (r d : List UInt8) (n i acc : Nat), n = d.length + r.length → i = d.length → n ≤ 100000000 → acc ≤ 8 * i →
    loopE C 27 0 [true, true, false, true] [] [(3, V.int .i64 (acc : Int)), (6, V.sl n (bytesV (d ++ r))), (7, V.int .i64 (n : Int)), (8, V.int .i64 (i : Int))] [] = some (.tup [.int .i64 ((acc + zeros r : Nat) : Int)])
  | [], d, n, i, acc, hn, hi, hq, ha => by
    refine E27l1 _ _ _ _ _ ?_
    unfold T27l1
    have : ¬ i < n := by simp at hn; omega
    simp [this, zeros]
  | b :: r, d, n, i, acc, hn, hi, hq, ha => by
    simp only [List.length_cons] at hn
    have hlt : i < n := by omega
    have hw := w64_succ (n := i) (by omega)
    have hg : (bytesV (d ++ b :: r))[i]? = some (V.int .u8 (b.toNat : Int)) := by subst hi; simp [bytesV]
    have h8 := len8_le _ b.toNat_lt
    have hk : IntKind.i64.wrap ((acc : Int) + ((8 - len8 b.toNat : Nat) : Int)) = ((acc + (8 - len8 b.toNat) : Nat) : Int) := by rw [w64 (by omega) (by omega)]; omega
    have ez := zeros_cons b r
    refine E27l1 _ _ _ _ _ ?_
    unfold T27l1
    simp only [Int.ofNat_lt, decide_true, decide_false, cond_true, cond_false, inB_nat, inB_zero, must_true, Int.toNat_natCast, asInt_int, asBool_bool, asSl_sl, asOsl_osl, asStr_str, orcE_R, orcE_W, orcE_L, orcE_X, need_some', asTup_tup, List.getElem?_cons_zero, List.getElem?_cons_succ, Bool.not_true, Bool.not_false, Bool.true_and, Bool.and_true, Bool.false_or, ble_dec, beq_dec, List.length_cons, List.length_nil, Nat.mul_one, Nat.zero_add, Nat.add_zero, Nat.sub_zero, both_self', bytesV_length, bytesV_flat, bytesV_isU8, hlt, hg, c114, hk]
    by_cases g : b.toNat = 0
    · have e8 : len8 b.toNat = 0 := by rw [g]; rfl
      have ih := l27 r (d ++ [b]) n (i + 1) (acc + 8) (by simp; omega) (by simp; omega) hq (by omega)
      simp only [List.append_assoc, List.singleton_append] at ih
      have e : acc + 8 + zeros r = acc + zeros (b :: r) := by rw [ez, if_pos g]; omega
      rw [e] at ih
      have g' : (b.toNat : Int) = 0 := by omega
      simp only [e8, Nat.sub_zero, g', bne_f, Int.ofNat_lt, decide_true, decide_false, cond_true, cond_false, inB_nat, inB_zero, must_true, Int.toNat_natCast, asInt_int, asBool_bool, asSl_sl, asOsl_osl, asStr_str, orcE_R, orcE_W, orcE_L, orcE_X, need_some', asTup_tup, List.getElem?_cons_zero, List.getElem?_cons_succ, Bool.not_true, Bool.not_false, Bool.true_and, Bool.and_true, Bool.false_or, ble_dec, beq_dec, List.length_cons, List.length_nil, Nat.mul_one, Nat.zero_add, Nat.add_zero, Nat.sub_zero, both_self', bytesV_length, bytesV_flat, bytesV_isU8, hw, ih]
    · have g' : (b.toNat : Int) ≠ 0 := by omega
      rw [ez, if_neg g]
      simp only [bne_t g', Int.ofNat_lt, decide_true, decide_false, cond_true, cond_false, inB_nat, inB_zero, must_true, Int.toNat_natCast, asInt_int, asBool_bool, asSl_sl, asOsl_osl, asStr_str, orcE_R, orcE_W, orcE_L, orcE_X, need_some', asTup_tup, List.getElem?_cons_zero, List.getElem?_cons_succ, Bool.not_true, Bool.not_false, Bool.true_and, Bool.and_true, Bool.false_or, ble_dec, beq_dec, List.length_cons, List.length_nil, Nat.mul_one, Nat.zero_add, Nat.add_zero, Nat.sub_zero, both_self', bytesV_length, bytesV_flat, bytesV_isU8]
theorem c27 (l : List UInt8) (h : l.length ≤ 1000000) : runE C 27 [.sl l.length (bytesV l)] = some (.tup [.int .i64 (zeros l : Int)]) := by
  refine E27 _ _ ?_
  unfold T27
  have := l27 l [] l.length 0 0 (by simp) rfl (by omega) (by omega)
  simpa using this
theorem l2186 (b : UInt8) (d r : List UInt8) (n i : Nat) (hn : n = d.length + (r.length + 1)) (hi : i = d.length) (hq : n ≤ 100000000)
    (hnext : ∀ acc : Nat, acc ≤ 8 * (i + 1) → loopE C 186 0 [true, true, false, true] [] [(0, V.sl n (bytesV (d ++ b :: r))), (3, V.int .i64 (acc : Int)), (4, V.int .i64 ((i + 1 : Nat) : Int))] [] = some (.tup [.int .i64 ((acc + zeros r : Nat) : Int)])) :
    ∀ (k acc : Nat), k ≤ 8 → acc + k ≤ 8 * (i + 1) →
    loopE C 186 2 [true, true, false, true, false, true, false, false, true] [0] [(0, V.sl n (bytesV (d ++ b :: r))), (3, V.int .i64 (acc : Int)), (4, V.int .i64 (i : Int)), (5, V.int .i64 ((k : Int) - 1))] [] = some (.tup [.int .i64 ((acc + zf b.toNat (zeros r) k : Nat) : Int)])
  | 0, acc, hk, ha => by
    refine E186l2 _ _ _ _ _ ?_
    unfold T186l2
    have hw := w64_succ (n := i) (by omega)
    have e1 : decide (((0 : Nat) : Int) - 1 ≥ 0) = false := by decide
    simp only [zf, hw, e1, cond_false, orcE_L, hnext acc (by omega)]
  | k + 1, acc, hk, ha => by
    have hlt : i < n := by omega
    have hg : (bytesV (d ++ b :: r))[i]? = some (V.int .u8 (b.toNat : Int)) := by subst hi; simp [bytesV]
    have e1 : ((k + 1 : Nat) : Int) - 1 = (k : Int) := by omega
    have e2 : IntKind.i64.wrap ((k : Int) - 1) = (k : Int) - 1 := w64 (by omega) (by omega)
    have e4 : IntKind.u64.wrap (k : Int) = (k : Int) := IntWalk.u64_in _ (by omega)
    have e5 : decide ((k : Int) ≥ 0) = true := by simp
    have e6 : min k 8 = k := by omega
    have e7 : decide ((0 : Int) ≤ (k : Int)) = true := by simp
    have hw := w64_succ (n := acc) (by omega)
    have ih := l2186 b d r n i hn hi hq hnext k (acc + 1) (by omega) (by omega)
    refine E186l2 _ _ _ _ _ ?_
    unfold T186l2
    simp only [e1, e2, e4, e5, e6, e7, Int.ofNat_lt, decide_true, decide_false, cond_true, cond_false, inB_nat, inB_zero, must_true, Int.toNat_natCast, asInt_int, asBool_bool, asSl_sl, asOsl_osl, asStr_str, orcE_R, orcE_W, orcE_L, orcE_X, need_some', asTup_tup, List.getElem?_cons_zero, List.getElem?_cons_succ, Bool.not_true, Bool.not_false, Bool.true_and, Bool.and_true, Bool.false_or, ble_dec, beq_dec, List.length_cons, List.length_nil, Nat.mul_one, Nat.zero_add, Nat.add_zero, Nat.sub_zero, both_self', bytesV_length, bytesV_flat, bytesV_isU8, hlt, hg, bit_of _ b.toNat_lt k (by omega), zf, hw, ih]
    by_cases g : b.toNat / 2 ^ k % 2 = 1
    · simp [g]
    · simp only [g, decide_false, cond_false, if_false]
      rw [show acc + 1 + zf b.toNat (zeros r) k = acc + (1 + zf b.toNat (zeros r) k) by omega]
theorem l186 : ∀ (r d : List UInt8) (n i acc : Nat), n = d.length + r.length → i = d.length → n ≤ 100000000 → acc ≤ 8 * i →
    loopE C 186 0 [true, true, false, true] [] [(0, V.sl n (bytesV (d ++ r))), (3, V.int .i64 (acc : Int)), (4, V.int .i64 (i : Int))] [] = some (.tup [.int .i64 ((acc + zeros r : Nat) : Int)])
  | [], d, n, i, acc, hn, hi, hq, ha => by
    refine E186l1 _ _ _ _ ?_
    unfold T186l1
    have : ¬ i < n := by simp at hn; omega
    simp [this, zeros]
  | b :: r, d, n, i, acc, hn, hi, hq, ha => by
    simp only [List.length_cons] at hn
    have hlt : i < n := by omega
    have ih := fun acc' (h : acc' ≤ 8 * (i + 1)) => l186 r (d ++ [b]) n (i + 1) acc' (by simp; omega) (by simp; omega) hq h
    simp only [List.append_assoc, List.singleton_append] at ih
    have inner := l2186 b d r n i hn hi hq ih 8 acc (by omega) (by omega)
    have inner : loopE C 186 2 [true, true, false, true, false, true, false, false, true] [0] [(0, V.sl n (bytesV (d ++ b :: r))), (3, V.int .i64 (acc : Int)), (4, V.int .i64 (i : Int)), (5, V.int .i64 7)] [] = _ := inner
    refine E186l1 _ _ _ _ ?_
    unfold T186l1
    simp only [Int.ofNat_lt, decide_true, decide_false, cond_true, cond_false, inB_nat, inB_zero, must_true, Int.toNat_natCast, asInt_int, asBool_bool, asSl_sl, asOsl_osl, asStr_str, orcE_R, orcE_W, orcE_L, orcE_X, need_some', asTup_tup, List.getElem?_cons_zero, List.getElem?_cons_succ, Bool.not_true, Bool.not_false, Bool.true_and, Bool.and_true, Bool.false_or, ble_dec, beq_dec, List.length_cons, List.length_nil, Nat.mul_one, Nat.zero_add, Nat.add_zero, Nat.sub_zero, both_self', bytesV_length, bytesV_flat, bytesV_isU8, hlt, inner, zeros]
theorem c186 (l : List UInt8) (h : l.length ≤ 1000000) : runE C 186 [.sl l.length (bytesV l)] = some (.tup [.int .i64 (zeros l : Int)]) := by
  refine E186 _ _ ?_
  unfold T186
  have := l186 l [] l.length 0 0 (by simp) rfl (by omega) (by omega)
  simpa using this
/-! ### a head by itself -/
theorem c261 (x : Hd) (h1 : x.par.length ≤ 200) (h2 : x.root.length ≤ 200) : runE C 261 [.agg [.sl x.par.length (bytesV x.par), .int .i64 x.hgt, .int .i64 x.tim, .int .i64 x.zer, .sl x.root.length (bytesV x.root), .int .i64 x.non]] = some (.tup [.bool (hard x)]) := by
  have k := c27 (hdDig x) (by rw [hdDig_length]; omega)
  rw [hdDig_length] at k
  refine E261 _ _ _ _ _ _ _ _ ?_
  unfold T261
  simp only [Int.ofNat_lt, decide_true, decide_false, cond_true, cond_false, inB_nat, inB_zero, must_true, Int.toNat_natCast, asInt_int, asBool_bool, asSl_sl, asOsl_osl, asStr_str, orcE_R, orcE_W, orcE_L, orcE_X, need_some', asTup_tup, List.getElem?_cons_zero, List.getElem?_cons_succ, Bool.not_true, Bool.not_false, Bool.true_and, Bool.and_true, Bool.false_or, ble_dec, beq_dec, List.length_cons, List.length_nil, Nat.mul_one, Nat.zero_add, Nat.add_zero, Nat.sub_zero, both_self', bytesV_length, bytesV_flat, bytesV_isU8, c104 x h1 h2, k, ge_iff_le]
  rfl
theorem c256 (x : Hd) (h1 : x.par.length ≤ 200) (h2 : x.root.length ≤ 200) : runE C 256 [.agg [.sl x.par.length (bytesV x.par), .int .i64 x.hgt, .int .i64 x.tim, .int .i64 x.zer, .sl x.root.length (bytesV x.root), .int .i64 x.non]] = some (.tup [.bool (hard x)]) := by
  have k := c186 (hdDig x) (by rw [hdDig_length]; omega)
  rw [hdDig_length] at k
  refine E256 _ _ _ _ _ _ _ _ ?_
  unfold T256
  simp only [Int.ofNat_lt, decide_true, decide_false, cond_true, cond_false, inB_nat, inB_zero, must_true, Int.toNat_natCast, asInt_int, asBool_bool, asSl_sl, asOsl_osl, asStr_str, orcE_R, orcE_W, orcE_L, orcE_X, need_some', asTup_tup, List.getElem?_cons_zero, List.getElem?_cons_succ, Bool.not_true, Bool.not_false, Bool.true_and, Bool.and_true, Bool.false_or, ble_dec, beq_dec, List.length_cons, List.length_nil, Nat.mul_one, Nat.zero_add, Nat.add_zero, Nat.sub_zero, both_self', bytesV_length, bytesV_flat, bytesV_isU8, c258 x h1 h2, k, ge_iff_le]
  rfl
theorem c207 (x : Hd) : runE C 207 [.agg [.sl x.par.length (bytesV x.par), .int .i64 x.hgt, .int .i64 x.tim, .int .i64 x.zer, .sl x.root.length (bytesV x.root), .int .i64 x.non]] = some (.tup [.bool (first x)]) := by
  have k : runE C 107 [.sl x.par.length (bytesV x.par), .sl 32 [V.int .u8 0, V.int .u8 0, V.int .u8 0, V.int .u8 0, V.int .u8 0, V.int .u8 0, V.int .u8 0, V.int .u8 0, V.int .u8 0, V.int .u8 0, V.int .u8 0, V.int .u8 0, V.int .u8 0, V.int .u8 0, V.int .u8 0, V.int .u8 0, V.int .u8 0, V.int .u8 0, V.int .u8 0, V.int .u8 0, V.int .u8 0, V.int .u8 0, V.int .u8 0, V.int .u8 0, V.int .u8 0, V.int .u8 0, V.int .u8 0, V.int .u8 0, V.int .u8 0, V.int .u8 0, V.int .u8 0, V.int .u8 0]] = some (.tup [.bool (decide (x.par = zer32))]) := c107 x.par zer32
  refine E207 _ _ _ _ _ _ _ _ ?_
  unfold T207
  simp only [Int.ofNat_lt, decide_true, decide_false, cond_true, cond_false, inB_nat, inB_zero, must_true, Int.toNat_natCast, asInt_int, asBool_bool, asSl_sl, asOsl_osl, asStr_str, orcE_R, orcE_W, orcE_L, orcE_X, need_some', asTup_tup, List.getElem?_cons_zero, List.getElem?_cons_succ, Bool.not_true, Bool.not_false, Bool.true_and, Bool.and_true, Bool.false_or, ble_dec, beq_dec, List.length_cons, List.length_nil, Nat.mul_one, Nat.zero_add, Nat.add_zero, Nat.sub_zero, both_self', bytesV_length, bytesV_flat, bytesV_isU8, k]
  unfold first
  by_cases g1 : x.hgt = 0 <;> by_cases g2 : x.zer = 0 <;> simp [g1, g2, beq_f]
theorem c204 (x : Hd) (h : x.par.length ≤ 200) : runE C 204 [.agg [.sl x.par.length (bytesV x.par), .int .i64 x.hgt, .int .i64 x.tim, .int .i64 x.zer, .sl x.root.length (bytesV x.root), .int .i64 x.non]] = some (.tup [.bool (first x)]) := by
  have k : runE C 176 [.sl x.par.length (bytesV x.par), .sl 32 [V.int .u8 0, V.int .u8 0, V.int .u8 0, V.int .u8 0, V.int .u8 0, V.int .u8 0, V.int .u8 0, V.int .u8 0, V.int .u8 0, V.int .u8 0, V.int .u8 0, V.int .u8 0, V.int .u8 0, V.int .u8 0, V.int .u8 0, V.int .u8 0, V.int .u8 0, V.int .u8 0, V.int .u8 0, V.int .u8 0, V.int .u8 0, V.int .u8 0, V.int .u8 0, V.int .u8 0, V.int .u8 0, V.int .u8 0, V.int .u8 0, V.int .u8 0, V.int .u8 0, V.int .u8 0, V.int .u8 0, V.int .u8 0]] = some (.tup [.bool (decide (x.par = zer32))]) := c176 x.par zer32 (by omega)
  refine E204 _ _ _ _ _ _ _ _ ?_
  unfold T204
  simp only [Int.ofNat_lt, decide_true, decide_false, cond_true, cond_false, inB_nat, inB_zero, must_true, Int.toNat_natCast, asInt_int, asBool_bool, asSl_sl, asOsl_osl, asStr_str, orcE_R, orcE_W, orcE_L, orcE_X, need_some', asTup_tup, List.getElem?_cons_zero, List.getElem?_cons_succ, Bool.not_true, Bool.not_false, Bool.true_and, Bool.and_true, Bool.false_or, ble_dec, beq_dec, List.length_cons, List.length_nil, Nat.mul_one, Nat.zero_add, Nat.add_zero, Nat.sub_zero, both_self', bytesV_length, bytesV_flat, bytesV_isU8, k]
  unfold first
  by_cases g1 : x.hgt = 0 <;> by_cases g2 : x.zer = 0 <;> simp [g1, g2, beq_f]
theorem c206 (x : Hd) : runE C 206 [.agg [.sl x.par.length (bytesV x.par), .int .i64 x.hgt, .int .i64 x.tim, .int .i64 x.zer, .sl x.root.length (bytesV x.root), .int .i64 x.non]] = some (.tup [.int .i64 (hf x)]) := by
  have k := c99 x
  refine E206 _ _ _ _ _ _ _ _ ?_
  unfold T206 hf
  by_cases g : hdFault x = 0
  · have ho := hdFault_ok g
    rw [g] at k
    simp only [Int.ofNat_lt, decide_true, decide_false, cond_true, cond_false, inB_nat, inB_zero, must_true, Int.toNat_natCast, asInt_int, asBool_bool, asSl_sl, asOsl_osl, asStr_str, orcE_R, orcE_W, orcE_L, orcE_X, need_some', asTup_tup, List.getElem?_cons_zero, List.getElem?_cons_succ, Bool.not_true, Bool.not_false, Bool.true_and, Bool.and_true, Bool.false_or, ble_dec, beq_dec, List.length_cons, List.length_nil, Nat.mul_one, Nat.zero_add, Nat.add_zero, Nat.sub_zero, both_self', bytesV_length, bytesV_flat, bytesV_isU8, k, bne_f, c261 x (by omega) (by omega), g]
    cases hard x <;> simp
  · simp only [Int.ofNat_lt, decide_true, decide_false, cond_true, cond_false, inB_nat, inB_zero, must_true, Int.toNat_natCast, asInt_int, asBool_bool, asSl_sl, asOsl_osl, asStr_str, orcE_R, orcE_W, orcE_L, orcE_X, need_some', asTup_tup, List.getElem?_cons_zero, List.getElem?_cons_succ, Bool.not_true, Bool.not_false, Bool.true_and, Bool.and_true, Bool.false_or, ble_dec, beq_dec, List.length_cons, List.length_nil, Nat.mul_one, Nat.zero_add, Nat.add_zero, Nat.sub_zero, both_self', bytesV_length, bytesV_flat, bytesV_isU8, k, bne_t g]
    simp [g]
theorem c203 (x : Hd) : runE C 203 [.agg [.sl x.par.length (bytesV x.par), .int .i64 x.hgt, .int .i64 x.tim, .int .i64 x.zer, .sl x.root.length (bytesV x.root), .int .i64 x.non]] = some (.tup [.int .i64 (hf x)]) := by
  have k := c21 x
  refine E203 _ _ _ _ _ _ _ _ ?_
  unfold T203 hf
  by_cases g : hdFault x = 0
  · have ho := hdFault_ok g
    rw [g] at k
    simp only [Int.ofNat_lt, decide_true, decide_false, cond_true, cond_false, inB_nat, inB_zero, must_true, Int.toNat_natCast, asInt_int, asBool_bool, asSl_sl, asOsl_osl, asStr_str, orcE_R, orcE_W, orcE_L, orcE_X, need_some', asTup_tup, List.getElem?_cons_zero, List.getElem?_cons_succ, Bool.not_true, Bool.not_false, Bool.true_and, Bool.and_true, Bool.false_or, ble_dec, beq_dec, List.length_cons, List.length_nil, Nat.mul_one, Nat.zero_add, Nat.add_zero, Nat.sub_zero, both_self', bytesV_length, bytesV_flat, bytesV_isU8, k, bne_f, c256 x (by omega) (by omega), g]
    cases hard x <;> simp
  · simp only [Int.ofNat_lt, decide_true, decide_false, cond_true, cond_false, inB_nat, inB_zero, must_true, Int.toNat_natCast, asInt_int, asBool_bool, asSl_sl, asOsl_osl, asStr_str, orcE_R, orcE_W, orcE_L, orcE_X, need_some', asTup_tup, List.getElem?_cons_zero, List.getElem?_cons_succ, Bool.not_true, Bool.not_false, Bool.true_and, Bool.and_true, Bool.false_or, ble_dec, beq_dec, List.length_cons, List.length_nil, Nat.mul_one, Nat.zero_add, Nat.add_zero, Nat.sub_zero, both_self', bytesV_length, bytesV_flat, bytesV_isU8, k, bne_t g]
    simp [g]
end Go.Proofs.Ytehpmolckdmibaa.Cli
