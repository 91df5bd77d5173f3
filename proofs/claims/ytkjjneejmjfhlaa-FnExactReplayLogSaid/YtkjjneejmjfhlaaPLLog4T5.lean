/-
  The log's functions: a log's records, a replay, the law.
-/
import Derived.Test.YtkjjneejmjfhlaaPLLog3T5
import Derived.Test.YtkjjneejmjfhlaaPLRelay6T5
namespace Go.Proofs.Ytkjjneejmjfhlaa.Log
open Go Go.PI Go.PI.Sha Go.PI.Log Go.PI.Rel Go.Proofs.Ytkjjneejmjfhlaa.Sha Go.Proofs.Ytkjjneejmjfhlaa.Rel Eq5
set_option maxHeartbeats 1000000
set_option linter.unusedVariables false
set_option linter.unusedSimpArgs false

/-! ### a log's records -/
def logFault (a b : List UInt8) : Int := if 2000 < a.length + b.length then 2 else 0
/-- The code, the records, the place behind them. -/
def recordsOf (a b : List UInt8) : Int × List (List UInt8) × Nat := if 2000 < a.length + b.length then (2, [], 0) else (0, (recordsB (a ++ b)).1, (recordsB (a ++ b)).2)
theorem lf {a b : List UInt8} (ha : a.length ≤ 1000000000) (hb : b.length ≤ 1000000000) : IntKind.i64.wrap ((a.length : Int) + (b.length : Int)) = ((a.length + b.length : Nat) : Int) := w64_k (a.length + b.length) (by omega) (by omega)
theorem c48 (a b : List UInt8) (ha : a.length ≤ 1000000000) (hb : b.length ≤ 1000000000) : runE C 48 [.agg [.sl a.length (bytesV a), .sl b.length (bytesV b)]] = some (.tup [.int .i64 (logFault a b)]) := by
  refine E48 _ _ _ _ ?_
  unfold T48
  rw [lf ha hb]
  unfold logFault
  by_cases h : 2000 < a.length + b.length
  · rw [if_pos h, decide_eq_true (by omega)]; rfl
  · rw [if_neg h, decide_eq_false (by omega)]; rfl
theorem c44 (a b : List UInt8) (ha : a.length ≤ 1000000000) (hb : b.length ≤ 1000000000) : runE C 44 [.agg [.sl a.length (bytesV a), .sl b.length (bytesV b)]] = some (.tup [.int .i64 (logFault a b)]) := by
  refine E44 _ _ _ _ ?_
  unfold T44
  rw [lf ha hb]
  unfold logFault
  by_cases h : 2000 < a.length + b.length
  · rw [if_pos h, decide_eq_true (by omega)]; rfl
  · rw [if_neg h, decide_eq_false (by omega)]; rfl
theorem c24 (a b : List UInt8) (ha : a.length ≤ 1000000000) (hb : b.length ≤ 1000000000) : runE C 24 [.agg [.sl a.length (bytesV a), .sl b.length (bytesV b)]] = some (.tup [.int .i64 (recordsOf a b).1, .int .i64 ((recordsOf a b).2.2 : Int), .sl (recordsOf a b).2.1.length (partsV (recordsOf a b).2.1)]) := by
  refine E24 _ _ _ _ ?_
  unfold T24
  have h1 := c48 a b ha hb
  by_cases h : 2000 < a.length + b.length
  · have e : logFault a b = 2 := if_pos h
    have e2 : recordsOf a b = (2, [], 0) := if_pos h
    rw [e] at h1
    rw [e2]
    simp only [Int.ofNat_lt, decide_true, decide_false, cond_true, cond_false, inB_nat, inB_zero, must_true, Int.toNat_natCast, asInt_int, asBool_bool, asSl_sl, asOsl_osl, asStr_str, orcE_R, orcE_W, orcE_L, orcE_X, need_some', asTup_tup, List.getElem?_cons_zero, List.getElem?_cons_succ, Bool.not_true, Bool.not_false, Bool.true_and, Bool.and_true, Bool.false_or, ble_dec, beq_dec, List.length_cons, List.length_nil, Nat.mul_one, Nat.zero_add, Nat.add_zero, Nat.sub_zero, both_self', bytesV_length, bytesV_flat, bytesV_isU8, h1]
    rfl
  · have e : logFault a b = 0 := if_neg h
    have e2 : recordsOf a b = (0, (recordsB (a ++ b)).1, (recordsB (a ++ b)).2) := if_neg h
    rw [e] at h1
    rw [e2]
    have h2 := c49 (a ++ b) (by rw [List.length_append]; omega)
    rw [List.length_append, bytesV_append] at h2
    have d1 : a.length ≤ 140737488355328 := by omega
    have d2 : a.length + b.length ≤ 140737488355328 := by omega
    simp only [Int.ofNat_lt, decide_true, decide_false, cond_true, cond_false, inB_nat, inB_zero, must_true, Int.toNat_natCast, asInt_int, asBool_bool, asSl_sl, asOsl_osl, asStr_str, orcE_R, orcE_W, orcE_L, orcE_X, need_some', asTup_tup, List.getElem?_cons_zero, List.getElem?_cons_succ, Bool.not_true, Bool.not_false, Bool.true_and, Bool.and_true, Bool.false_or, ble_dec, beq_dec, List.length_cons, List.length_nil, Nat.mul_one, Nat.zero_add, Nat.add_zero, Nat.sub_zero, both_self', bytesV_length, bytesV_flat, bytesV_isU8, h1, bne_f, d1, d2, h2]
theorem c45 (d : List UInt8) (hd : d.length ≤ 2000) : runE C 45 [.sl d.length (bytesV d)] = some (.tup [.int .i64 0, .int .i64 ((recordsB d).2 : Int), .sl (recordsB d).1.length (partsV (recordsB d).1)]) := by
  refine E45 _ _ ?_
  unfold T45
  have h : ¬ ((d.length : Int) > 2000) := by omega
  simp only [Int.ofNat_lt, decide_true, decide_false, cond_true, cond_false, inB_nat, inB_zero, must_true, Int.toNat_natCast, asInt_int, asBool_bool, asSl_sl, asOsl_osl, asStr_str, orcE_R, orcE_W, orcE_L, orcE_X, need_some', asTup_tup, List.getElem?_cons_zero, List.getElem?_cons_succ, Bool.not_true, Bool.not_false, Bool.true_and, Bool.and_true, Bool.false_or, ble_dec, beq_dec, List.length_cons, List.length_nil, Nat.mul_one, Nat.zero_add, Nat.add_zero, Nat.sub_zero, both_self', bytesV_length, bytesV_flat, bytesV_isU8, h, c71 d (by omega)]
theorem c22 (a b : List UInt8) (ha : a.length ≤ 1000000000) (hb : b.length ≤ 1000000000) : runE C 22 [.agg [.sl a.length (bytesV a), .sl b.length (bytesV b)]] = some (.tup [.int .i64 (recordsOf a b).1, .int .i64 ((recordsOf a b).2.2 : Int), .sl (recordsOf a b).2.1.length (partsV (recordsOf a b).2.1)]) := by
  refine E22 _ _ _ _ ?_
  unfold T22
  have h1 := c44 a b ha hb
  by_cases h : 2000 < a.length + b.length
  · have e : logFault a b = 2 := if_pos h
    have e2 : recordsOf a b = (2, [], 0) := if_pos h
    rw [e] at h1
    rw [e2]
    simp only [Int.ofNat_lt, decide_true, decide_false, cond_true, cond_false, inB_nat, inB_zero, must_true, Int.toNat_natCast, asInt_int, asBool_bool, asSl_sl, asOsl_osl, asStr_str, orcE_R, orcE_W, orcE_L, orcE_X, need_some', asTup_tup, List.getElem?_cons_zero, List.getElem?_cons_succ, Bool.not_true, Bool.not_false, Bool.true_and, Bool.and_true, Bool.false_or, ble_dec, beq_dec, List.length_cons, List.length_nil, Nat.mul_one, Nat.zero_add, Nat.add_zero, Nat.sub_zero, both_self', bytesV_length, bytesV_flat, bytesV_isU8, h1]
    rfl
  · have e : logFault a b = 0 := if_neg h
    have e2 : recordsOf a b = (0, (recordsB (a ++ b)).1, (recordsB (a ++ b)).2) := if_neg h
    rw [e] at h1
    rw [e2]
    have h2 := c46 [a, b] (by simp) (by simp; omega)
    have e3 : [a, b].flatten = a ++ b := by simp
    have e4 : partsV [a, b] = [V.sl a.length (bytesV a), V.sl b.length (bytesV b)] := rfl
    rw [e3, e4] at h2
    have h2 : runE C 46 [.sl 2 [V.sl a.length (bytesV a), V.sl b.length (bytesV b)]] = _ := h2
    have h3 := c45 (a ++ b) (by rw [List.length_append]; omega)
    simp only [Int.ofNat_lt, decide_true, decide_false, cond_true, cond_false, inB_nat, inB_zero, must_true, Int.toNat_natCast, asInt_int, asBool_bool, asSl_sl, asOsl_osl, asStr_str, orcE_R, orcE_W, orcE_L, orcE_X, need_some', asTup_tup, List.getElem?_cons_zero, List.getElem?_cons_succ, Bool.not_true, Bool.not_false, Bool.true_and, Bool.and_true, Bool.false_or, ble_dec, beq_dec, List.length_cons, List.length_nil, Nat.mul_one, Nat.zero_add, Nat.add_zero, Nat.sub_zero, both_self', bytesV_length, bytesV_flat, bytesV_isU8, h1, bne_f, h2, h3]

/-! ### a replay -/
theorem rApply_inv (c : Int) (q : List Itm) (rec : List UInt8) (hq : q.length ≤ 12) (hb : ∀ x ∈ q, 0 ≤ x.b ∧ x.b ≤ 8) : (rApply c q rec).2.2.length ≤ 12 ∧ ∀ x ∈ (rApply c q rec).2.2, 0 ≤ x.b ∧ x.b ≤ 8 := by
  have h1 : ∀ n, (rScan c q n).2.2.length ≤ 12 ∧ ∀ x ∈ (rScan c q n).2.2, 0 ≤ x.b ∧ x.b ≤ 8 := by
    intro n; unfold rScan; repeat' split
    · exact ⟨hq, hb⟩
    · exact ⟨hq, hb⟩
    · exact ⟨hq, hb⟩
    · refine ⟨by simp; omega, fun x hx => ?_⟩
      rcases List.mem_append.1 hx with hx | hx
      · exact hb x hx
      · rw [List.mem_singleton] at hx; subst hx; exact ⟨by show (0 : Int) ≤ 0; omega, by show (0 : Int) ≤ 8; omega⟩
  have h2 : ∀ n w, (try' c q n w).2.2.length ≤ 12 ∧ ∀ x ∈ (try' c q n w).2.2, 0 ≤ x.b ∧ x.b ≤ 8 := by
    intro n w; unfold try'
    split
    · exact ⟨hq, hb⟩
    · split
      · exact ⟨hq, hb⟩
      · split
        · rename_i i _ x hx
          refine ⟨by simpa using hq, fun y hy => ?_⟩
          rcases List.mem_or_eq_of_mem_set hy with hy | hy
          · exact hb y hy
          · subst hy
            have := hb x (List.mem_of_getElem? hx)
            unfold tries
            dsimp only
            split <;> omega
        · exact ⟨hq, hb⟩
  have h3 : ∀ n, (rSettle c q n).2.2.length ≤ 12 ∧ ∀ x ∈ (rSettle c q n).2.2, 0 ≤ x.b ∧ x.b ≤ 8 := by
    intro n; unfold rSettle; split
    · exact ⟨hq, hb⟩
    · refine ⟨by simp; omega, fun x hx => ?_⟩
      rcases List.mem_append.1 hx with hx | hx
      · exact hb x (List.mem_of_mem_take hx)
      · exact hb x (List.mem_of_mem_drop hx)
  unfold rApply
  split
  · exact ⟨hq, hb⟩
  · dsimp only
    split
    · exact ⟨hq, hb⟩
    · split
      · exact ⟨hq, hb⟩
      · split
        · exact h1 _
        · split
          · exact h2 _ _
          · exact h3 _
theorem replayR_inv : ∀ (rs : List (List UInt8)) (c : Int) (q : List Itm), q.length ≤ 12 → (∀ x ∈ q, 0 ≤ x.b ∧ x.b ≤ 8) → (replayR c q rs).2.2.length ≤ 12
  | [], c, q, hq, hb => hq
  | r :: rs, c, q, hq, hb => by
    rw [replayR]
    obtain ⟨h1, h2⟩ := rApply_inv c q r hq hb
    split
    · simp
    · exact replayR_inv rs _ _ h1 h2
/-- As the specification tells it: what was reached is kept. -/
def replayS : Int → List Itm → List (List UInt8) → Int × Int × List Itm
  | c, q, [] => (0, c, q)
  | c, q, r :: rs => if (rApply c q r).1 ≠ 0 then rApply c q r else replayS (rApply c q r).2.1 (rApply c q r).2.2 rs
theorem replayS_told : ∀ (rs : List (List UInt8)) (c : Int) (q : List Itm), (if (replayS c q rs).1 = 0 then replayS c q rs else ((replayS c q rs).1, 0, [])) = replayR c q rs
  | [], c, q => by simp [replayS, replayR]
  | r :: rs, c, q => by
    rw [replayS, replayR]
    by_cases h : (rApply c q r).1 = 0
    · have hn : ¬ ((rApply c q r).1 ≠ 0) := fun k => k h
      rw [if_neg hn, if_neg hn]
      exact replayS_told rs _ _
    · have hn : (rApply c q r).1 ≠ 0 := h
      rw [if_pos hn, if_pos hn, if_neg h]
theorem l20 (rs : List (List UInt8)) (hr : rs.length ≤ 1000000) : ∀ (n i : Nat) (c : Int) (q : List Itm), rs.length - i = n → i ≤ rs.length → q.length ≤ 12 → (∀ x ∈ q, 0 ≤ x.b ∧ x.b ≤ 8) →
    loopE C 20 0 [true, true, true, true, false, true] [] [(2, V.ptr 0 0), (4, V.ptr 2 0), (18, V.sl rs.length (partsV rs)), (19, V.int .i64 (rs.length : Int)), (20, V.int .i64 (i : Int))]
      [Ob.box 31 [V.int .i64 0, V.int .i64 0, V.ref 1] false, Ob.row 52 0 [] false, Ob.box 29 [V.int .i64 c, V.ref 3] false, Ob.row 52 q.length (its q) false] = some (.tup (encR (replayR c q (rs.drop i)))) := by
  intro n
  induction n with
  | zero =>
    intro i c q hn hi hq hb
    have : i = rs.length := by omega
    subst this
    refine E20l1 _ _ _ _ _ _ _ _ _ _ _ ?_
    unfold T20l1
    have hl : ¬ rs.length < rs.length := by omega
    rw [List.drop_length, replayR]
    simp only [Int.ofNat_lt, decide_true, decide_false, cond_true, cond_false, inB_nat, inB_zero, must_true, Int.toNat_natCast, asInt_int, asBool_bool, asSl_sl, asOsl_osl, asStr_str, orcE_R, orcE_W, orcE_L, orcE_X, need_some', asTup_tup, List.getElem?_cons_zero, List.getElem?_cons_succ, Bool.not_true, Bool.not_false, Bool.true_and, Bool.and_true, Bool.false_or, ble_dec, beq_dec, List.length_cons, List.length_nil, Nat.mul_one, Nat.zero_add, Nat.add_zero, Nat.sub_zero, both_self', bytesV_length, bytesV_flat, bytesV_isU8, hl, its_flat, encR]
  | succ n ih =>
    intro i c q hn hi hq hb
    have hlt : i < rs.length := by omega
    have hw := w64_succ (n := i) (by omega)
    obtain ⟨i1, i2⟩ := rApply_inv c q rs[i] hq hb
    have ih := ih (i + 1) (rApply c q rs[i]).2.1 (rApply c q rs[i]).2.2 (by omega) (by omega) i1 i2
    refine E20l1 _ _ _ _ _ _ _ _ _ _ _ ?_
    unfold T20l1
    rw [drop_eq_cons hlt, replayR]
    simp only [Int.ofNat_lt, decide_true, decide_false, cond_true, cond_false, inB_nat, inB_zero, must_true, Int.toNat_natCast, asInt_int, asBool_bool, asSl_sl, asOsl_osl, asStr_str, orcE_R, orcE_W, orcE_L, orcE_X, need_some', asTup_tup, List.getElem?_cons_zero, List.getElem?_cons_succ, Bool.not_true, Bool.not_false, Bool.true_and, Bool.and_true, Bool.false_or, ble_dec, beq_dec, List.length_cons, List.length_nil, Nat.mul_one, Nat.zero_add, Nat.add_zero, Nat.sub_zero, both_self', bytesV_length, bytesV_flat, bytesV_isU8, hlt, partsV_length, partsV_get hlt, c37 c q rs[i] hq hb, encR]
    by_cases h : (rApply c q rs[i]).1 = 0
    · have hn : ¬ ((rApply c q rs[i]).1 ≠ 0) := fun k => k h
      rw [if_neg hn]
      simp only [h, bne_f, cond_false, hw]
      exact ih
    · have hn : (rApply c q rs[i]).1 ≠ 0 := h
      rw [if_pos hn]
      simp only [bne_t h, cond_true, its_nil, List.length_nil]
theorem l43 (rs : List (List UInt8)) (hr : rs.length ≤ 1000000) : ∀ (n i : Nat) (c : Int) (q : List Itm), rs.length - i = n → i ≤ rs.length → q.length ≤ 12 → (∀ x ∈ q, 0 ≤ x.b ∧ x.b ≤ 8) →
    loopE C 43 0 [true, true, false, true] [] [(0, V.sl rs.length (partsV rs)), (2, V.ptr 0 0), (4, V.ptr 2 0), (5, V.int .i64 (i : Int))]
      [Ob.box 29 [V.int .i64 0, V.ref 1] false, Ob.row 52 0 [] false, Ob.box 29 [V.int .i64 c, V.ref 3] false, Ob.row 52 q.length (its q) false]
      = some (.tup [.int .i64 (replayS c q (rs.drop i)).2.1, .sl (replayS c q (rs.drop i)).2.2.length (its (replayS c q (rs.drop i)).2.2), .int .i64 (replayS c q (rs.drop i)).1]) := by
  intro n
  induction n with
  | zero =>
    intro i c q hn hi hq hb
    have : i = rs.length := by omega
    subst this
    refine E43l1 _ _ _ _ _ _ _ _ _ ?_
    unfold T43l1
    have hl : ¬ rs.length < rs.length := by omega
    rw [List.drop_length, replayS]
    simp only [Int.ofNat_lt, decide_true, decide_false, cond_true, cond_false, inB_nat, inB_zero, must_true, Int.toNat_natCast, asInt_int, asBool_bool, asSl_sl, asOsl_osl, asStr_str, orcE_R, orcE_W, orcE_L, orcE_X, need_some', asTup_tup, List.getElem?_cons_zero, List.getElem?_cons_succ, Bool.not_true, Bool.not_false, Bool.true_and, Bool.and_true, Bool.false_or, ble_dec, beq_dec, List.length_cons, List.length_nil, Nat.mul_one, Nat.zero_add, Nat.add_zero, Nat.sub_zero, both_self', bytesV_length, bytesV_flat, bytesV_isU8, hl]
  | succ n ih =>
    intro i c q hn hi hq hb
    have hlt : i < rs.length := by omega
    have hw := w64_succ (n := i) (by omega)
    obtain ⟨i1, i2⟩ := rApply_inv c q rs[i] hq hb
    have ih := ih (i + 1) (rApply c q rs[i]).2.1 (rApply c q rs[i]).2.2 (by omega) (by omega) i1 i2
    refine E43l1 _ _ _ _ _ _ _ _ _ ?_
    unfold T43l1
    rw [drop_eq_cons hlt, replayS]
    simp only [Int.ofNat_lt, decide_true, decide_false, cond_true, cond_false, inB_nat, inB_zero, must_true, Int.toNat_natCast, asInt_int, asBool_bool, asSl_sl, asOsl_osl, asStr_str, orcE_R, orcE_W, orcE_L, orcE_X, need_some', asTup_tup, List.getElem?_cons_zero, List.getElem?_cons_succ, Bool.not_true, Bool.not_false, Bool.true_and, Bool.and_true, Bool.false_or, ble_dec, beq_dec, List.length_cons, List.length_nil, Nat.mul_one, Nat.zero_add, Nat.add_zero, Nat.sub_zero, both_self', bytesV_length, bytesV_flat, bytesV_isU8, hlt, partsV_length, partsV_get hlt, c32 c q rs[i] hq hb, encR]
    by_cases h : (rApply c q rs[i]).1 = 0
    · have hn : ¬ ((rApply c q rs[i]).1 ≠ 0) := fun k => k h
      rw [if_neg hn]
      simp only [h, bne_f, cond_false, hw]
      exact ih
    · have hn : (rApply c q rs[i]).1 ≠ 0 := h
      rw [if_pos hn]
      simp only [bne_t h, cond_true]
/-- What both forms of ReplayLog come to. -/
def replayed (a b : List UInt8) : Int × Int × List Itm := if 2000 < a.length + b.length then (2, 0, []) else replayR 0 [] (recordsB (a ++ b)).1
theorem readRlen : ∀ (f i : Nat) (d : List UInt8) (o : List (List UInt8)), (Log.readR f i d o).1.length ≤ o.length + f
  | 0, i, d, o => by simp [Log.readR]
  | f + 1, i, d, o => by
    rw [Log.readR]
    split
    · split
      · simp
      · refine Nat.le_trans (readRlen f _ d _) ?_
        simp; omega
    · simp
theorem recordsB_length (d : List UInt8) : (recordsB d).1.length ≤ d.length := by
  have := readRlen d.length 0 d []
  simpa [recordsB] using this
theorem c20 (a b : List UInt8) (ha : a.length ≤ 1000000000) (hb : b.length ≤ 1000000000) : runE C 20 [.agg [.sl a.length (bytesV a), .sl b.length (bytesV b)]] = some (.tup (encR (replayed a b))) := by
  refine E20 _ _ _ _ ?_
  unfold T20
  have h1 := c22 a b ha hb
  by_cases h : 2000 < a.length + b.length
  · have e2 : recordsOf a b = (2, [], 0) := if_pos h
    have e3 : replayed a b = (2, 0, []) := if_pos h
    rw [e2] at h1
    rw [e3]
    simp only [Int.ofNat_lt, decide_true, decide_false, cond_true, cond_false, inB_nat, inB_zero, must_true, Int.toNat_natCast, asInt_int, asBool_bool, asSl_sl, asOsl_osl, asStr_str, orcE_R, orcE_W, orcE_L, orcE_X, need_some', asTup_tup, List.getElem?_cons_zero, List.getElem?_cons_succ, Bool.not_true, Bool.not_false, Bool.true_and, Bool.and_true, Bool.false_or, ble_dec, beq_dec, List.length_cons, List.length_nil, Nat.mul_one, Nat.zero_add, Nat.add_zero, Nat.sub_zero, both_self', bytesV_length, bytesV_flat, bytesV_isU8, h1, encR]
    rfl
  · have e2 : recordsOf a b = (0, (recordsB (a ++ b)).1, (recordsB (a ++ b)).2) := if_neg h
    have e3 : replayed a b = replayR 0 [] (recordsB (a ++ b)).1 := if_neg h
    rw [e2] at h1
    rw [e3]
    have hl := recordsB_length (a ++ b)
    rw [List.length_append] at hl
    have := l20 (recordsB (a ++ b)).1 (by omega) _ 0 0 [] rfl (by omega) (by simp) (by simp)
    simp only [Int.ofNat_lt, decide_true, decide_false, cond_true, cond_false, inB_nat, inB_zero, must_true, Int.toNat_natCast, asInt_int, asBool_bool, asSl_sl, asOsl_osl, asStr_str, orcE_R, orcE_W, orcE_L, orcE_X, need_some', asTup_tup, List.getElem?_cons_zero, List.getElem?_cons_succ, Bool.not_true, Bool.not_false, Bool.true_and, Bool.and_true, Bool.false_or, ble_dec, beq_dec, List.length_cons, List.length_nil, Nat.mul_one, Nat.zero_add, Nat.add_zero, Nat.sub_zero, both_self', bytesV_length, bytesV_flat, bytesV_isU8, h1, bne_f]
    exact this
theorem c21 (a b : List UInt8) (ha : a.length ≤ 1000000000) (hb : b.length ≤ 1000000000) : runE C 21 [.agg [.sl a.length (bytesV a), .sl b.length (bytesV b)]] = some (.tup [.int .i64 (replayed a b).1, .int .i64 (replayed a b).2.1, .sl (replayed a b).2.2.length (its (replayed a b).2.2)]) := by
  refine E21 _ _ _ _ ?_
  unfold T21
  have h1 := c24 a b ha hb
  by_cases h : 2000 < a.length + b.length
  · have e2 : recordsOf a b = (2, [], 0) := if_pos h
    have e3 : replayed a b = (2, 0, []) := if_pos h
    rw [e2] at h1
    rw [e3]
    simp only [Int.ofNat_lt, decide_true, decide_false, cond_true, cond_false, inB_nat, inB_zero, must_true, Int.toNat_natCast, asInt_int, asBool_bool, asSl_sl, asOsl_osl, asStr_str, orcE_R, orcE_W, orcE_L, orcE_X, need_some', asTup_tup, List.getElem?_cons_zero, List.getElem?_cons_succ, Bool.not_true, Bool.not_false, Bool.true_and, Bool.and_true, Bool.false_or, ble_dec, beq_dec, List.length_cons, List.length_nil, Nat.mul_one, Nat.zero_add, Nat.add_zero, Nat.sub_zero, both_self', bytesV_length, bytesV_flat, bytesV_isU8, h1]
    rfl
  · have e2 : recordsOf a b = (0, (recordsB (a ++ b)).1, (recordsB (a ++ b)).2) := if_neg h
    have e3 : replayed a b = replayR 0 [] (recordsB (a ++ b)).1 := if_neg h
    rw [e2] at h1
    rw [e3, ← replayS_told]
    have hl := recordsB_length (a ++ b)
    rw [List.length_append] at hl
    have h2 := l43 (recordsB (a ++ b)).1 (by omega) _ 0 0 [] rfl (by omega) (by simp) (by simp)
    have h3 : runE C 43 [.sl (recordsB (a ++ b)).1.length (partsV (recordsB (a ++ b)).1)] = some (.tup [.int .i64 (replayS 0 [] (recordsB (a ++ b)).1).2.1, .sl (replayS 0 [] (recordsB (a ++ b)).1).2.2.length (its (replayS 0 [] (recordsB (a ++ b)).1).2.2), .int .i64 (replayS 0 [] (recordsB (a ++ b)).1).1]) := by
      refine E43 _ _ ?_
      unfold T43
      exact h2
    simp only [Int.ofNat_lt, decide_true, decide_false, cond_true, cond_false, inB_nat, inB_zero, must_true, Int.toNat_natCast, asInt_int, asBool_bool, asSl_sl, asOsl_osl, asStr_str, orcE_R, orcE_W, orcE_L, orcE_X, need_some', asTup_tup, List.getElem?_cons_zero, List.getElem?_cons_succ, Bool.not_true, Bool.not_false, Bool.true_and, Bool.and_true, Bool.false_or, ble_dec, beq_dec, List.length_cons, List.length_nil, Nat.mul_one, Nat.zero_add, Nat.add_zero, Nat.sub_zero, both_self', bytesV_length, bytesV_flat, bytesV_isU8, h1, bne_f, h3, c33]
    by_cases h4 : (replayS 0 [] (recordsB (a ++ b)).1).1 = 0
    · simp only [h4, if_true, Int.ofNat_lt, decide_true, decide_false, cond_true, cond_false, inB_nat, inB_zero, must_true, Int.toNat_natCast, asInt_int, asBool_bool, asSl_sl, asOsl_osl, asStr_str, orcE_R, orcE_W, orcE_L, orcE_X, need_some', asTup_tup, List.getElem?_cons_zero, List.getElem?_cons_succ, Bool.not_true, Bool.not_false, Bool.true_and, Bool.and_true, Bool.false_or, ble_dec, beq_dec, List.length_cons, List.length_nil, Nat.mul_one, Nat.zero_add, Nat.add_zero, Nat.sub_zero, both_self', bytesV_length, bytesV_flat, bytesV_isU8]
    · simp only [h4, if_false, Int.ofNat_lt, decide_true, decide_false, cond_true, cond_false, inB_nat, inB_zero, must_true, Int.toNat_natCast, asInt_int, asBool_bool, asSl_sl, asOsl_osl, asStr_str, orcE_R, orcE_W, orcE_L, orcE_X, need_some', asTup_tup, List.getElem?_cons_zero, List.getElem?_cons_succ, Bool.not_true, Bool.not_false, Bool.true_and, Bool.and_true, Bool.false_or, ble_dec, beq_dec, List.length_cons, List.length_nil, Nat.mul_one, Nat.zero_add, Nat.add_zero, Nat.sub_zero, both_self', bytesV_length, bytesV_flat, bytesV_isU8, its_nil]
end Go.Proofs.Ytkjjneejmjfhlaa.Log
