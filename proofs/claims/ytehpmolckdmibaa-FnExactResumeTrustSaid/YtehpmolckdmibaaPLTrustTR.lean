/-
  Validators, heads that validators sign, trusts: sizes, copies, sameness, marks.
-/
import Derived.Test.YtehpmolckdmibaaPLNestTR
import Derived.Test.YtehpmolckdmibaaPMTrust
namespace Go.Proofs.Ytehpmolckdmibaa.Tru
open Go Go.PI Go.PI.Sha Go.PI.Rel Go.PI.Nest Go.PI.Tru Go.Proofs.Ytehpmolckdmibaa.Sha Go.Proofs.Ytehpmolckdmibaa.By Go.Proofs.Ytehpmolckdmibaa.Nest EqR
set_option maxHeartbeats 1000000
set_option linter.unusedVariables false
set_option linter.unusedSimpArgs false

/-! ### validators -/
theorem c116 (v : Vd) (left : Int) (h : v.key.length ≤ 9223372036854775807) (h1 : 0 ≤ left) (h2 : left ≤ 4611686018427387904) :
    runE C 116 [.agg [.sl v.key.length (bytesV v.key), .int .i64 v.pow], .int .i64 left] = some (.tup [.int .i64 (if left < v.key.length then -1 else left - v.key.length)]) := by
  refine E116 _ _ _ _ ?_
  unfold T116
  have k := c115 v.key.length (bytesV v.key) left h h1 h2
  by_cases g : left < v.key.length
  · rw [if_pos g] at k ⊢
    simp only [Int.ofNat_lt, decide_true, decide_false, cond_true, cond_false, inB_nat, inB_zero, must_true, Int.toNat_natCast, asInt_int, asBool_bool, asSl_sl, asOsl_osl, asStr_str, orcE_R, orcE_W, orcE_L, orcE_X, need_some', asTup_tup, List.getElem?_cons_zero, List.getElem?_cons_succ, Bool.not_true, Bool.not_false, Bool.true_and, Bool.and_true, Bool.false_or, ble_dec, beq_dec, List.length_cons, List.length_nil, Nat.mul_one, Nat.zero_add, Nat.add_zero, Nat.sub_zero, both_self', bytesV_length, bytesV_flat, bytesV_isU8, k]
    rfl
  · rw [if_neg g] at k ⊢
    have n1 : ¬ (left - (v.key.length : Int) < 0) := by omega
    simp only [Int.ofNat_lt, decide_true, decide_false, cond_true, cond_false, inB_nat, inB_zero, must_true, Int.toNat_natCast, asInt_int, asBool_bool, asSl_sl, asOsl_osl, asStr_str, orcE_R, orcE_W, orcE_L, orcE_X, need_some', asTup_tup, List.getElem?_cons_zero, List.getElem?_cons_succ, Bool.not_true, Bool.not_false, Bool.true_and, Bool.and_true, Bool.false_or, ble_dec, beq_dec, List.length_cons, List.length_nil, Nat.mul_one, Nat.zero_add, Nat.add_zero, Nat.sub_zero, both_self', bytesV_length, bytesV_flat, bytesV_isU8, k, n1]
theorem l29 : ∀ (r d : List Vd) (left : Int) (n i : Nat), n = d.length + r.length → i = d.length → n ≤ 4611686018427387904 → (∀ v ∈ r, v.key.length ≤ 9223372036854775807) → 0 ≤ left → left ≤ 4611686018427387904 →
    loopE C 29 0 [true, true, true, false, true] [] [(0, V.sl n (vsS (d ++ r))), (1, V.int .i64 left), (5, V.int .i64 (i : Int))] [] = some (.tup [.int .i64 (less left (tot kl r))])
  | [], d, left, n, i, hn, hi, hq, hv, h1, h2 => by
    refine E29l1 _ _ _ _ ?_
    unfold T29l1
    have : ¬ i < n := by simp at hn; omega
    rw [less_ge (by simp [tot]; omega)]
    simp [this, tot]
  | v :: r, d, left, n, i, hn, hi, hq, hv, h1, h2 => by
    simp only [List.length_cons] at hn
    have hlt : i < n := by omega
    have hw := w64_succ (n := i) (by omega)
    have g0 := vsS_at0 hi v r
    have g1 := vsS_at1 hi v r
    have k := c116 v left (hv v (by simp)) h1 h2
    have et : tot kl (v :: r) = v.key.length + tot kl r := rfl
    rw [et]
    refine E29l1 _ _ _ _ ?_
    unfold T29l1
    by_cases g : left < v.key.length
    · rw [if_pos g] at k
      rw [less_lt (by omega)]
      simp only [Int.ofNat_lt, decide_true, decide_false, cond_true, cond_false, inB_nat, inB_zero, must_true, Int.toNat_natCast, asInt_int, asBool_bool, asSl_sl, asOsl_osl, asStr_str, orcE_R, orcE_W, orcE_L, orcE_X, need_some', asTup_tup, List.getElem?_cons_zero, List.getElem?_cons_succ, Bool.not_true, Bool.not_false, Bool.true_and, Bool.and_true, Bool.false_or, ble_dec, beq_dec, List.length_cons, List.length_nil, Nat.mul_one, Nat.zero_add, Nat.add_zero, Nat.sub_zero, both_self', bytesV_length, bytesV_flat, bytesV_isU8, hlt, g0, g1, k]
      rfl
    · rw [if_neg g] at k
      have n1 : ¬ (left - (v.key.length : Int) < 0) := by omega
      have ih := l29 r (d ++ [v]) (left - v.key.length) n (i + 1) (by simp; omega) (by simp; omega) hq (fun u hu => hv u (by simp [hu])) (by omega) (by omega)
      rw [less_less g] at ih
      simp only [List.append_assoc, List.singleton_append] at ih
      simp only [Int.ofNat_lt, decide_true, decide_false, cond_true, cond_false, inB_nat, inB_zero, must_true, Int.toNat_natCast, asInt_int, asBool_bool, asSl_sl, asOsl_osl, asStr_str, orcE_R, orcE_W, orcE_L, orcE_X, need_some', asTup_tup, List.getElem?_cons_zero, List.getElem?_cons_succ, Bool.not_true, Bool.not_false, Bool.true_and, Bool.and_true, Bool.false_or, ble_dec, beq_dec, List.length_cons, List.length_nil, Nat.mul_one, Nat.zero_add, Nat.add_zero, Nat.sub_zero, both_self', bytesV_length, bytesV_flat, bytesV_isU8, hlt, g0, g1, k, n1, hw, ih]
theorem c29 (l : List Vd) (left : Int) (h : l.length ≤ 9223372036854775807) (hv : ∀ v ∈ l, v.key.length ≤ 9223372036854775807) (h1 : 0 ≤ left) (h2 : left ≤ 4611686018427387904) :
    runE C 29 [.sl l.length (vsS l), .int .i64 left] = some (.tup [.int .i64 (less left (l.length + tot kl l))]) := by
  refine E29 _ _ _ ?_
  unfold T29
  rw [w64 (by omega) (by omega)]
  by_cases g : left < (l.length : Int)
  · rw [less_lt (by omega), decide_eq_true (by omega)]
    rfl
  · have k := l29 l [] (left - l.length) l.length 0 (by simp) rfl (by omega) hv (by omega) (by omega)
    rw [less_less g] at k
    rw [decide_eq_false (by omega)]
    exact k
theorem c120 (v : Vd) (h : v.key.length ≤ 100000000) : runE C 120 [.agg [.sl v.key.length (bytesV v.key), .int .i64 v.pow]] = some (.tup [.osl v.key.length (bytesV v.key), .int .i64 v.pow]) := by
  refine E120 _ _ _ ?_
  unfold T120
  simp only [Int.ofNat_lt, decide_true, decide_false, cond_true, cond_false, inB_nat, inB_zero, must_true, Int.toNat_natCast, asInt_int, asBool_bool, asSl_sl, asOsl_osl, asStr_str, orcE_R, orcE_W, orcE_L, orcE_X, need_some', asTup_tup, List.getElem?_cons_zero, List.getElem?_cons_succ, Bool.not_true, Bool.not_false, Bool.true_and, Bool.and_true, Bool.false_or, ble_dec, beq_dec, List.length_cons, List.length_nil, Nat.mul_one, Nat.zero_add, Nat.add_zero, Nat.sub_zero, both_self', bytesV_length, bytesV_flat, bytesV_isU8, c119 v.key (by omega)]
theorem l32 : ∀ (r d : List Vd) (n i : Nat), n = d.length + r.length → i = d.length → n < 1000000000 → tot kl r ≤ 100000000 →
    loopE C 32 0 [true, true, false, true] [] [(0, V.sl n (vsS (d ++ r))), (3, V.ref 0), (4, V.int .i64 (i : Int))] [Ob.nrow [] 103 n (prt vdO zV d r.length)] = some (.tup [.osl n (vsO (d ++ r))])
  | [], d, n, i, hn, hi, hq, ht => by
    refine E32l1 _ _ _ _ _ ?_
    unfold T32l1
    have : ¬ i < n := by simp at hn; omega
    rw [List.length_nil, prt_full]
    simp [this, vsO]
  | v :: r, d, n, i, hn, hi, hq, ht => by
    simp only [List.length_cons] at hn ⊢
    simp only [tot, kl] at ht
    have ih := l32 r (d ++ [v]) n (i + 1) (by simp; omega) (by simp; omega) hq (by omega)
    refine E32l1 _ _ _ _ _ ?_
    unfold T32l1
    have hlt : i < n := by omega
    have hw := w64_succ (n := i) (by omega)
    have g0 := vsS_at0 hi v r
    have g1 := vsS_at1 hi v r
    have hs : splice (prt vdO zV d (r.length + 1)) (i * 2) [V.own false 5 1 v.key.length (bytesV v.key), V.int .i64 v.pow] = prt vdO zV (d ++ [v]) r.length := by subst hi; exact vs_part d v r.length
    have hl : (prt vdO zV d (r.length + 1)).length = n * 2 := by rw [prt_length vdO vdO2 (z := zV) rfl]; congr 1; omega
    have hb : i * 2 + (0 + 1 + 1) ≤ n * 2 := by omega
    simp only [List.append_assoc, List.singleton_append] at ih
    simp only [Int.ofNat_lt, decide_true, decide_false, cond_true, cond_false, inB_nat, inB_zero, must_true, Int.toNat_natCast, asInt_int, asBool_bool, asSl_sl, asOsl_osl, asStr_str, orcE_R, orcE_W, orcE_L, orcE_X, need_some', asTup_tup, List.getElem?_cons_zero, List.getElem?_cons_succ, Bool.not_true, Bool.not_false, Bool.true_and, Bool.and_true, Bool.false_or, ble_dec, beq_dec, List.length_cons, List.length_nil, Nat.mul_one, Nat.zero_add, Nat.add_zero, Nat.sub_zero, both_self', bytesV_length, bytesV_flat, bytesV_isU8, hlt, g0, g1, c120 v (by omega), hl, hs, hw, ih]
    simp only [hb, Int.ofNat_lt, decide_true, decide_false, cond_true, cond_false, inB_nat, inB_zero, must_true, Int.toNat_natCast, asInt_int, asBool_bool, asSl_sl, asOsl_osl, asStr_str, orcE_R, orcE_W, orcE_L, orcE_X, need_some', asTup_tup, List.getElem?_cons_zero, List.getElem?_cons_succ, Bool.not_true, Bool.not_false, Bool.true_and, Bool.and_true, Bool.false_or, ble_dec, beq_dec, List.length_cons, List.length_nil, Nat.mul_one, Nat.zero_add, Nat.add_zero, Nat.sub_zero, both_self', bytesV_length, bytesV_flat, bytesV_isU8]
theorem c32 (l : List Vd) (hf : fitV l) : runE C 32 [.sl l.length (vsS l)] = some (.tup [.osl l.length (vsO l)]) := by
  refine E32 _ _ ?_
  unfold T32
  have := l32 l [] l.length 0 (by simp) rfl (by have := hf.1; omega) hf.2
  rw [prt_zero] at this
  rw [must_of (by have := hf.1; simp; omega)]
  simpa [zV] using this
theorem c124 (v u : Vd) (h : v.key.length < 4611686018427387904) : runE C 124 [.agg [.sl v.key.length (bytesV v.key), .int .i64 v.pow], .agg [.sl u.key.length (bytesV u.key), .int .i64 u.pow]] = some (.tup [.bool (decide (v = u))]) := by
  refine E124 _ _ _ _ _ _ ?_
  unfold T124
  simp only [Int.ofNat_lt, decide_true, decide_false, cond_true, cond_false, inB_nat, inB_zero, must_true, Int.toNat_natCast, asInt_int, asBool_bool, asSl_sl, asOsl_osl, asStr_str, orcE_R, orcE_W, orcE_L, orcE_X, need_some', asTup_tup, List.getElem?_cons_zero, List.getElem?_cons_succ, Bool.not_true, Bool.not_false, Bool.true_and, Bool.and_true, Bool.false_or, ble_dec, beq_dec, List.length_cons, List.length_nil, Nat.mul_one, Nat.zero_add, Nat.add_zero, Nat.sub_zero, both_self', bytesV_length, bytesV_flat, bytesV_isU8, c123 v.key u.key h]
  obtain ⟨a, b⟩ := v
  obtain ⟨c, d⟩ := u
  simp only [Vd.mk.injEq]
  by_cases e1 : a = c <;> by_cases e2 : b = d <;> simp [e1, e2, bne_t]
theorem l36 : ∀ (r r' d d' : List Vd) (n i : Nat), n = d.length + r.length → r.length = r'.length → d'.length = d.length → i = d.length → n < 1000000000 → tot kl r ≤ 1000000000 →
    loopE C 36 0 [true, true, false, true] [] [(0, V.sl n (vsS (d ++ r))), (1, V.sl n (vsS (d' ++ r'))), (5, V.int .i64 (i : Int))] [] = some (.tup [.bool (decide (r = r'))])
  | [], [], d, d', n, i, hn, hr, hd, hi, hq, ht => by
    refine E36l1 _ _ _ _ _ ?_
    unfold T36l1
    have : ¬ i < n := by simp at hn; omega
    simp [this]
  | [], _ :: _, d, d', n, i, hn, hr, hd, hi, hq, ht => by simp at hr
  | _ :: _, [], d, d', n, i, hn, hr, hd, hi, hq, ht => by simp at hr
  | b :: r, b' :: r', d, d', n, i, hn, hr, hd, hi, hq, ht => by
    simp only [List.length_cons] at hn hr
    simp only [tot, kl] at ht
    have ih := l36 r r' (d ++ [b]) (d' ++ [b']) n (i + 1) (by simp; omega) (by omega) (by simp [hd]) (by simp; omega) hq (by omega)
    refine E36l1 _ _ _ _ _ ?_
    unfold T36l1
    have hlt : i < n := by omega
    have hw := w64_succ (n := i) (by omega)
    have g0 := vsS_at0 hi b r
    have g1 := vsS_at1 hi b r
    have g2 := vsS_at0 (hi.trans hd.symm) b' r'
    have g3 := vsS_at1 (hi.trans hd.symm) b' r'
    simp only [List.append_assoc, List.singleton_append] at ih
    rw [dec_cons]
    simp only [Int.ofNat_lt, decide_true, decide_false, cond_true, cond_false, inB_nat, inB_zero, must_true, Int.toNat_natCast, asInt_int, asBool_bool, asSl_sl, asOsl_osl, asStr_str, orcE_R, orcE_W, orcE_L, orcE_X, need_some', asTup_tup, List.getElem?_cons_zero, List.getElem?_cons_succ, Bool.not_true, Bool.not_false, Bool.true_and, Bool.and_true, Bool.false_or, ble_dec, beq_dec, List.length_cons, List.length_nil, Nat.mul_one, Nat.zero_add, Nat.add_zero, Nat.sub_zero, both_self', bytesV_length, bytesV_flat, bytesV_isU8, hlt, g0, g1, g2, g3, c124 b b' (by omega), hw, ih]
    by_cases e : b = b' <;> simp [e]
theorem c36 (a b : List Vd) (hf : fitV a) : runE C 36 [.sl a.length (vsS a), .sl b.length (vsS b)] = some (.tup [.bool (decide (a = b))]) := by
  refine E36 _ _ _ _ ?_
  unfold T36
  by_cases e : a.length = b.length
  · have := l36 a b [] [] a.length 0 (by simp) e rfl rfl (by have := hf.1; omega) (by have := hf.2; omega)
    simp only [List.nil_append] at this
    rw [← e]
    simpa using this
  · have h1 : a ≠ b := fun h => e (by rw [h])
    have h2 : ((a.length : Int) != (b.length : Int)) = true := by simp; omega
    simp [h1, h2]
theorem l38 : ∀ (r d : List Vd) (k : Int) (n i : Nat), n = d.length + r.length → i = d.length → 0 ≤ k → k + cV r < 4611686017427387904 → n < 1000000000 → tot kl r < 1000000000 →
    loopWE C 38 [0] [Ob.nrow [] 103 0 []] 0 [true, false, true] [] [(0, V.ref 0), (1, V.int .i64 k), (5, V.int .i64 (i : Int))] [Ob.nrow [] 103 n (vsO (d ++ r))] = some (.tup [.int .i64 (k + cV r), .osl n (vsO (d ++ mkVs k r))])
  | [], d, k, n, i, hn, hi, hk, hk2, hq, ht => by
    refine E38l1 _ _ _ _ ?_
    unfold T38l1
    have : ¬ i < n := by simp at hn; omega
    simp [this, mkVs, cV, tot]
  | v :: r, d, k, n, i, hn, hi, hk, hk2, hq, ht => by
    simp only [List.length_cons] at hn
    have ec : cV (v :: r) = v.key.length + 1 + cV r := rfl
    rw [ec] at hk2 ⊢
    simp only [tot, kl] at ht
    have ih := l38 r (d ++ [⟨mkB k v.key.length, k + v.key.length⟩]) (k + v.key.length + 1) n (i + 1) (by simp; omega) (by simp; omega) (by omega) (by omega) hq (by omega)
    refine E38l1 _ _ _ _ ?_
    unfold T38l1
    have hlt : i < n := by omega
    have hw := w64_succ (n := i) (by omega)
    have g0 := vsO_at0 hi v r
    have hs : (vsO (d ++ v :: r)).set (i * 2) (V.own false 5 1 v.key.length (bytesV (mkB k v.key.length))) = vsO (d ++ ⟨mkB k v.key.length, v.pow⟩ :: r) := by
      subst hi
      have := vsO_set0 d v r (mkB k v.key.length)
      simpa using this
    have hs1 : splice (vsO (d ++ ⟨mkB k v.key.length, v.pow⟩ :: r)) (i * 2 + 1) [V.int .i64 (k + v.key.length)] = vsO (d ++ ⟨mkB k v.key.length, k + v.key.length⟩ :: r) := by
      subst hi; exact vsO_set1 d _ r _
    have hl : (vsO (d ++ ⟨mkB k v.key.length, v.pow⟩ :: r)).length = n * 2 := by rw [vsO_len]; congr 1; omega
    have hb : i * 2 + 1 + (0 + 1) ≤ n * 2 := by omega
    have hk' : IntKind.i64.wrap (k + v.key.length + 1) = k + v.key.length + 1 := w64 (by omega) (by omega)
    have e1 : k + (v.key.length : Int) + 1 + (cV r : Int) = k + ((v.key.length + 1 + cV r : Nat) : Int) := by omega
    simp only [List.append_assoc, List.singleton_append, e1] at ih
    simp only [Int.ofNat_lt, decide_true, decide_false, cond_true, cond_false, inB_nat, inB_zero, must_true, Int.toNat_natCast, asInt_int, asBool_bool, asSl_sl, asOsl_osl, asStr_str, orcE_R, orcE_W, orcE_L, orcE_X, need_some', asTup_tup, List.getElem?_cons_zero, List.getElem?_cons_succ, Bool.not_true, Bool.not_false, Bool.true_and, Bool.and_true, Bool.false_or, ble_dec, beq_dec, List.length_cons, List.length_nil, Nat.mul_one, Nat.zero_add, Nat.add_zero, Nat.sub_zero, both_self', bytesV_length, bytesV_flat, bytesV_isU8, hlt, g0, asOwn_own, c125 v.key k hk (by omega) (by omega), hs, hl, hs1, hw, hk', mkVs, ih]
    simp only [hb, Int.ofNat_lt, decide_true, decide_false, cond_true, cond_false, inB_nat, inB_zero, must_true, Int.toNat_natCast, asInt_int, asBool_bool, asSl_sl, asOsl_osl, asStr_str, orcE_R, orcE_W, orcE_L, orcE_X, need_some', asTup_tup, List.getElem?_cons_zero, List.getElem?_cons_succ, Bool.not_true, Bool.not_false, Bool.true_and, Bool.and_true, Bool.false_or, ble_dec, beq_dec, List.length_cons, List.length_nil, Nat.mul_one, Nat.zero_add, Nat.add_zero, Nat.sub_zero, both_self', bytesV_length, bytesV_flat, bytesV_isU8]
theorem c38 (l : List Vd) (k : Int) (hk : 0 ≤ k) (hk2 : k < 4611686016427387904) (hf : fitV l) :
    runWE C 38 [0] [.ref 0, .int .i64 k] [.nrow [] 103 l.length (vsO l)] = some (.tup [.int .i64 (k + cV l), .osl l.length (vsO (mkVs k l))]) := by
  refine E38 _ _ _ ?_
  unfold T38
  have := cV_le l
  exact l38 l [] k l.length 0 (by simp) rfl hk (by have := hf.1; have := hf.2; omega) (by have := hf.1; omega) (by have := hf.2; omega)
theorem l200 : ∀ (r d : List Vd) (k : Int) (n i : Nat), n = d.length + r.length → i = d.length → 0 ≤ k → k + cV r < 4611686017427387904 → n < 1000000000 → tot kl r < 1000000000 →
    loopE C 200 0 [true, false, true] [] [(0, V.sl n (vsS (d ++ mkVs k r))), (1, V.int .i64 k), (5, V.int .i64 (i : Int))] [] = some (.tup [.int .i64 (k + cV r)])
  | [], d, k, n, i, hn, hi, hk, hk2, hq, ht => by
    refine E200l1 _ _ _ _ ?_
    unfold T200l1
    have : ¬ i < n := by simp at hn; omega
    simp [this, mkVs, cV, tot]
  | v :: r, d, k, n, i, hn, hi, hk, hk2, hq, ht => by
    simp only [List.length_cons] at hn
    have ec : cV (v :: r) = v.key.length + 1 + cV r := rfl
    rw [ec] at hk2 ⊢
    simp only [tot, kl] at ht
    have ih := l200 r (d ++ [⟨mkB k v.key.length, k + v.key.length⟩]) (k + v.key.length + 1) n (i + 1) (by simp; omega) (by simp; omega) (by omega) (by omega) hq (by omega)
    refine E200l1 _ _ _ _ ?_
    unfold T200l1
    have hlt : i < n := by omega
    have hw := w64_succ (n := i) (by omega)
    simp only [mkVs]
    have g0 := vsS_at0 hi (⟨mkB k v.key.length, k + v.key.length⟩ : Vd) (mkVs (k + v.key.length + 1) r)
    have g1 := vsS_at1 hi (⟨mkB k v.key.length, k + v.key.length⟩ : Vd) (mkVs (k + v.key.length + 1) r)
    have hl : (vsS (d ++ ⟨mkB k v.key.length, k + v.key.length⟩ :: mkVs (k + v.key.length + 1) r)).length = n * 2 := by rw [vsS_length]; simp [mkVs_length]; omega
    have hb : i * 2 < n * 2 := by omega
    have hk' : IntKind.i64.wrap (k + v.key.length + 1) = k + v.key.length + 1 := w64 (by omega) (by omega)
    have e1 : k + (v.key.length : Int) + 1 + (cV r : Int) = k + ((v.key.length + 1 + cV r : Nat) : Int) := by omega
    have e2 : ¬ (k + (v.key.length : Int) < 0) := by omega
    simp only [List.append_assoc, List.singleton_append, e1] at ih
    simp only [Int.ofNat_lt, decide_true, decide_false, cond_true, cond_false, inB_nat, inB_zero, must_true, Int.toNat_natCast, asInt_int, asBool_bool, asSl_sl, asOsl_osl, asStr_str, orcE_R, orcE_W, orcE_L, orcE_X, need_some', asTup_tup, List.getElem?_cons_zero, List.getElem?_cons_succ, Bool.not_true, Bool.not_false, Bool.true_and, Bool.and_true, Bool.false_or, ble_dec, beq_dec, List.length_cons, List.length_nil, Nat.mul_one, Nat.zero_add, Nat.add_zero, Nat.sub_zero, both_self', bytesV_length, bytesV_flat, bytesV_isU8, hlt, hl, hb, g0, g1, mkB_length, c254 v.key.length k hk (by omega) (by omega), e2, bne_f, hw, hk', ih]
theorem c200 (l : List Vd) (k : Int) (hk : 0 ≤ k) (hk2 : k < 4611686016427387904) (hf : fitV l) :
    runE C 200 [.sl l.length (vsS (mkVs k l)), .int .i64 k] = some (.tup [.int .i64 (k + cV l)]) := by
  refine E200 _ _ _ ?_
  unfold T200
  have := cV_le l
  exact l200 l [] k l.length 0 (by simp) rfl hk (by have := hf.1; have := hf.2; omega) (by have := hf.1; omega) (by have := hf.2; omega)
theorem l197 : ∀ (r d : List Vd) (n i : Nat), n = d.length + r.length → i = d.length → n < 1000000000 → tot kl r ≤ 1000000000 →
    loopE C 197 0 [true, true, false, true] [] [(3, V.ref 0), (7, V.sl n (vsS (d ++ r))), (8, V.int .i64 (n : Int)), (9, V.int .i64 (i : Int))] [Ob.nrow [] 103 i (vsO d)] = some (.tup [.osl n (vsO (d ++ r))])
  | [], d, n, i, hn, hi, hq, ht => by
    refine E197l1 _ _ _ _ _ _ ?_
    unfold T197l1
    have e : i = n := by simp at hn; omega
    have : ¬ n < n := by omega
    subst e
    simp [this]
  | b :: r, d, n, i, hn, hi, hq, ht => by
    simp only [List.length_cons] at hn
    simp only [tot, kl] at ht
    have ih := l197 r (d ++ [b]) n (i + 1) (by simp; omega) (by simp; omega) hq (by omega)
    refine E197l1 _ _ _ _ _ _ ?_
    unfold T197l1
    have hlt : i < n := by omega
    have hw := w64_succ (n := i) (by omega)
    have g0 := vsS_at0 hi b r
    have g1 := vsS_at1 hi b r
    have d1 : i + 1 ≤ 140737488355328 := by omega
    have d2 : (i + 1) * 32 ≤ 140737488355328 := by omega
    simp only [List.append_assoc, List.singleton_append] at ih
    simp only [Int.ofNat_lt, decide_true, decide_false, cond_true, cond_false, inB_nat, inB_zero, must_true, Int.toNat_natCast, asInt_int, asBool_bool, asSl_sl, asOsl_osl, asStr_str, orcE_R, orcE_W, orcE_L, orcE_X, need_some', asTup_tup, List.getElem?_cons_zero, List.getElem?_cons_succ, Bool.not_true, Bool.not_false, Bool.true_and, Bool.and_true, Bool.false_or, ble_dec, beq_dec, List.length_cons, List.length_nil, Nat.mul_one, Nat.zero_add, Nat.add_zero, Nat.sub_zero, both_self', bytesV_length, bytesV_flat, bytesV_isU8, hlt, g0, g1, c184 b.key (by omega), hw, d1, d2, vsO_snoc, ih]
theorem c197 (l : List Vd) (hf : fitV l) : runE C 197 [.sl l.length (vsS l)] = some (.tup [.osl l.length (vsO l)]) := by
  refine E197 _ _ ?_
  unfold T197
  exact l197 l [] l.length 0 (by simp) rfl (by have := hf.1; omega) (by have := hf.2; omega)
theorem l193 : ∀ (r d : List Vd) (n i : Nat), n = d.length + r.length → i = d.length → n < 1000000000 → tot kl r ≤ 1000000000 →
    loopE C 193 0 [true, true, false, true] [] [(0, V.sl n (vsS (d ++ r))), (3, V.ref 0), (4, V.int .i64 (i : Int))] [Ob.row 103 i (vsS d) false] = some (.tup [.sl n (vsS (d ++ r))])
  | [], d, n, i, hn, hi, hq, ht => by
    refine E193l1 _ _ _ _ _ ?_
    unfold T193l1
    have e : i = n := by simp at hn; omega
    have : ¬ n < n := by omega
    subst e
    simp [this]
  | b :: r, d, n, i, hn, hi, hq, ht => by
    simp only [List.length_cons] at hn
    simp only [tot, kl] at ht
    have ih := l193 r (d ++ [b]) n (i + 1) (by simp; omega) (by simp; omega) hq (by omega)
    refine E193l1 _ _ _ _ _ ?_
    unfold T193l1
    have hlt : i < n := by omega
    have hw := w64_succ (n := i) (by omega)
    have g0 := vsS_at0 hi b r
    have g1 := vsS_at1 hi b r
    have hl : (vsS (d ++ b :: r)).length = n * 2 := by rw [vsS_length]; simp; omega
    have hb : i * 2 < n * 2 := by omega
    have d0 : b.key.length ≤ 140737488355328 := by omega
    have d1 : i + 1 ≤ 140737488355328 := by omega
    have d2 : (i + 1) * 32 ≤ 140737488355328 := by omega
    simp only [List.append_assoc, List.singleton_append] at ih
    simp only [Int.ofNat_lt, decide_true, decide_false, cond_true, cond_false, inB_nat, inB_zero, must_true, Int.toNat_natCast, asInt_int, asBool_bool, asSl_sl, asOsl_osl, asStr_str, orcE_R, orcE_W, orcE_L, orcE_X, need_some', asTup_tup, List.getElem?_cons_zero, List.getElem?_cons_succ, Bool.not_true, Bool.not_false, Bool.true_and, Bool.and_true, Bool.false_or, ble_dec, beq_dec, List.length_cons, List.length_nil, Nat.mul_one, Nat.zero_add, Nat.add_zero, Nat.sub_zero, both_self', bytesV_length, bytesV_flat, bytesV_isU8, hlt, hl, hb, g0, g1, hw, d0, d1, d2, vsS_snoc, ih]
theorem c193 (l : List Vd) (hf : fitV l) : runE C 193 [.sl l.length (vsS l)] = some (.tup [.sl l.length (vsS l)]) := by
  refine E193 _ _ ?_
  unfold T193
  exact l193 l [] l.length 0 (by simp) rfl (by have := hf.1; omega) (by have := hf.2; omega)

/-! ### heads -/
theorem c28 (x : HB) (left : Int) (h : x.root.length ≤ 9223372036854775807 ∧ x.set.length ≤ 9223372036854775807 ∧ x.nxt.length ≤ 9223372036854775807) (h1 : 0 ≤ left) (h2 : left ≤ 4611686018427387904) :
    runE C 28 [.agg [.int .i64 x.hgt, .int .i64 x.tim, .sl x.root.length (bytesV x.root), .sl x.set.length (bytesV x.set), .sl x.nxt.length (bytesV x.nxt)], .int .i64 left] = some (.tup [.int .i64 (less left (szH x))]) := by
  refine E28 _ _ _ _ _ _ _ _ _ ?_
  unfold T28
  have k1 := c115 x.root.length (bytesV x.root) left h.1 h1 h2
  by_cases g1 : left < x.root.length
  · rw [if_pos g1] at k1
    rw [less_lt (by unfold szH; omega)]
    simp only [Int.ofNat_lt, decide_true, decide_false, cond_true, cond_false, inB_nat, inB_zero, must_true, Int.toNat_natCast, asInt_int, asBool_bool, asSl_sl, asOsl_osl, asStr_str, orcE_R, orcE_W, orcE_L, orcE_X, need_some', asTup_tup, List.getElem?_cons_zero, List.getElem?_cons_succ, Bool.not_true, Bool.not_false, Bool.true_and, Bool.and_true, Bool.false_or, ble_dec, beq_dec, List.length_cons, List.length_nil, Nat.mul_one, Nat.zero_add, Nat.add_zero, Nat.sub_zero, both_self', bytesV_length, bytesV_flat, bytesV_isU8, k1]
    rfl
  rw [if_neg g1] at k1
  have n1 : ¬ (left - (x.root.length : Int) < 0) := by omega
  have k2 := c115 x.set.length (bytesV x.set) (left - x.root.length) h.2.1 (by omega) (by omega)
  by_cases g2 : left - (x.root.length : Int) < x.set.length
  · rw [if_pos g2] at k2
    rw [less_lt (by unfold szH; omega)]
    simp only [Int.ofNat_lt, decide_true, decide_false, cond_true, cond_false, inB_nat, inB_zero, must_true, Int.toNat_natCast, asInt_int, asBool_bool, asSl_sl, asOsl_osl, asStr_str, orcE_R, orcE_W, orcE_L, orcE_X, need_some', asTup_tup, List.getElem?_cons_zero, List.getElem?_cons_succ, Bool.not_true, Bool.not_false, Bool.true_and, Bool.and_true, Bool.false_or, ble_dec, beq_dec, List.length_cons, List.length_nil, Nat.mul_one, Nat.zero_add, Nat.add_zero, Nat.sub_zero, both_self', bytesV_length, bytesV_flat, bytesV_isU8, k1, n1, k2]
    rfl
  rw [if_neg g2] at k2
  have n2 : ¬ (left - (x.root.length : Int) - (x.set.length : Int) < 0) := by omega
  have k3 := c115 x.nxt.length (bytesV x.nxt) (left - x.root.length - x.set.length) h.2.2 (by omega) (by omega)
  by_cases g3 : left - (x.root.length : Int) - (x.set.length : Int) < x.nxt.length
  · rw [if_pos g3] at k3
    rw [less_lt (by unfold szH; omega)]
    simp only [Int.ofNat_lt, decide_true, decide_false, cond_true, cond_false, inB_nat, inB_zero, must_true, Int.toNat_natCast, asInt_int, asBool_bool, asSl_sl, asOsl_osl, asStr_str, orcE_R, orcE_W, orcE_L, orcE_X, need_some', asTup_tup, List.getElem?_cons_zero, List.getElem?_cons_succ, Bool.not_true, Bool.not_false, Bool.true_and, Bool.and_true, Bool.false_or, ble_dec, beq_dec, List.length_cons, List.length_nil, Nat.mul_one, Nat.zero_add, Nat.add_zero, Nat.sub_zero, both_self', bytesV_length, bytesV_flat, bytesV_isU8, k1, n1, k2, n2, k3]
    rfl
  rw [if_neg g3] at k3
  have n3 : ¬ (left - (x.root.length : Int) - (x.set.length : Int) - (x.nxt.length : Int) < 0) := by omega
  rw [less_ge (by unfold szH; omega)]
  have e : left - (x.root.length : Int) - (x.set.length : Int) - (x.nxt.length : Int) = left - (szH x : Int) := by unfold szH; omega
  rw [e] at k3 n3
  simp only [Int.ofNat_lt, decide_true, decide_false, cond_true, cond_false, inB_nat, inB_zero, must_true, Int.toNat_natCast, asInt_int, asBool_bool, asSl_sl, asOsl_osl, asStr_str, orcE_R, orcE_W, orcE_L, orcE_X, need_some', asTup_tup, List.getElem?_cons_zero, List.getElem?_cons_succ, Bool.not_true, Bool.not_false, Bool.true_and, Bool.and_true, Bool.false_or, ble_dec, beq_dec, List.length_cons, List.length_nil, Nat.mul_one, Nat.zero_add, Nat.add_zero, Nat.sub_zero, both_self', bytesV_length, bytesV_flat, bytesV_isU8, k1, n1, k2, n2, k3, n3]
theorem c31 (x : HB) (h : fitH x) : runE C 31 [.agg [.int .i64 x.hgt, .int .i64 x.tim, .sl x.root.length (bytesV x.root), .sl x.set.length (bytesV x.set), .sl x.nxt.length (bytesV x.nxt)]] = some (.tup [.int .i64 x.hgt, .int .i64 x.tim, .osl x.root.length (bytesV x.root), .osl x.set.length (bytesV x.set), .osl x.nxt.length (bytesV x.nxt)]) := by
  refine E31 _ _ _ _ _ _ _ _ ?_
  unfold T31
  unfold fitH szH at h
  simp only [Int.ofNat_lt, decide_true, decide_false, cond_true, cond_false, inB_nat, inB_zero, must_true, Int.toNat_natCast, asInt_int, asBool_bool, asSl_sl, asOsl_osl, asStr_str, orcE_R, orcE_W, orcE_L, orcE_X, need_some', asTup_tup, List.getElem?_cons_zero, List.getElem?_cons_succ, Bool.not_true, Bool.not_false, Bool.true_and, Bool.and_true, Bool.false_or, ble_dec, beq_dec, List.length_cons, List.length_nil, Nat.mul_one, Nat.zero_add, Nat.add_zero, Nat.sub_zero, both_self', bytesV_length, bytesV_flat, bytesV_isU8, c119 x.root (by omega), c119 x.set (by omega), c119 x.nxt (by omega)]
theorem c35 (x y : HB) (h : fitH x) : runE C 35 [.agg [.int .i64 x.hgt, .int .i64 x.tim, .sl x.root.length (bytesV x.root), .sl x.set.length (bytesV x.set), .sl x.nxt.length (bytesV x.nxt)], .agg [.int .i64 y.hgt, .int .i64 y.tim, .sl y.root.length (bytesV y.root), .sl y.set.length (bytesV y.set), .sl y.nxt.length (bytesV y.nxt)]] = some (.tup [.bool (decide (x = y))]) := by
  refine E35 _ _ _ _ _ _ _ _ _ _ _ _ _ _ _ _ ?_
  unfold T35
  unfold fitH szH at h
  simp only [Int.ofNat_lt, decide_true, decide_false, cond_true, cond_false, inB_nat, inB_zero, must_true, Int.toNat_natCast, asInt_int, asBool_bool, asSl_sl, asOsl_osl, asStr_str, orcE_R, orcE_W, orcE_L, orcE_X, need_some', asTup_tup, List.getElem?_cons_zero, List.getElem?_cons_succ, Bool.not_true, Bool.not_false, Bool.true_and, Bool.and_true, Bool.false_or, ble_dec, beq_dec, List.length_cons, List.length_nil, Nat.mul_one, Nat.zero_add, Nat.add_zero, Nat.sub_zero, both_self', bytesV_length, bytesV_flat, bytesV_isU8, c123 x.root y.root (by omega), c123 x.set y.set (by omega), c123 x.nxt y.nxt (by omega)]
  obtain ⟨a, b, c, d, e⟩ := x
  obtain ⟨a', b', c', d', e'⟩ := y
  simp only [HB.mk.injEq]
  by_cases e1 : a = a' <;> by_cases e2 : b = b' <;> by_cases e3 : c = c' <;> by_cases e4 : d = d' <;> by_cases e5 : e = e' <;> simp [e1, e2, e3, e4, e5, bne_t]
theorem c37 (x : HB) (k : Int) (hk : 0 ≤ k) (hk2 : k < 4611686014427387904) (h : fitH x) :
    runWE C 37 [0, 1, 2] [.agg [.int .i64 x.hgt, .int .i64 x.tim, .ref 0, .ref 1, .ref 2], .int .i64 k] [.row 5 x.root.length (bytesV x.root) false, .row 5 x.set.length (bytesV x.set) false, .row 5 x.nxt.length (bytesV x.nxt) false] =
      some (.tup [.int .i64 (k + szH x), .osl x.root.length (bytesV (mkH k x).root), .osl x.set.length (bytesV (mkH k x).set), .osl x.nxt.length (bytesV (mkH k x).nxt)]) := by
  refine E37 _ _ _ _ _ _ _ _ _ ?_
  unfold T37
  unfold fitH szH at h
  have e : k + (x.root.length : Int) + (x.set.length : Int) + (x.nxt.length : Int) = k + (szH x : Int) := by unfold szH; omega
  simp only [Int.ofNat_lt, decide_true, decide_false, cond_true, cond_false, inB_nat, inB_zero, must_true, Int.toNat_natCast, asInt_int, asBool_bool, asSl_sl, asOsl_osl, asStr_str, orcE_R, orcE_W, orcE_L, orcE_X, need_some', asTup_tup, List.getElem?_cons_zero, List.getElem?_cons_succ, Bool.not_true, Bool.not_false, Bool.true_and, Bool.and_true, Bool.false_or, ble_dec, beq_dec, List.length_cons, List.length_nil, Nat.mul_one, Nat.zero_add, Nat.add_zero, Nat.sub_zero, both_self', bytesV_length, bytesV_flat, bytesV_isU8, c125 x.root k hk (by omega) (by omega), c125 x.set (k + x.root.length) (by omega) (by omega) (by omega), c125 x.nxt (k + x.root.length + x.set.length) (by omega) (by omega) (by omega), mkH, e]
theorem c199 (x : HB) (k : Int) (hk : 0 ≤ k) (hk2 : k < 4611686014427387904) (h : fitH x) :
    runE C 199 [.agg [.int .i64 x.hgt, .int .i64 x.tim, .sl x.root.length (bytesV (mkH k x).root), .sl x.set.length (bytesV (mkH k x).set), .sl x.nxt.length (bytesV (mkH k x).nxt)], .int .i64 k] = some (.tup [.int .i64 (k + szH x)]) := by
  refine E199 _ _ _ _ _ _ _ _ _ ?_
  unfold T199
  unfold fitH szH at h
  have e : k + (x.root.length : Int) + (x.set.length : Int) + (x.nxt.length : Int) = k + (szH x : Int) := by unfold szH; omega
  have n1 : ¬ (k + (x.root.length : Int) < 0) := by omega
  have n2 : ¬ (k + (x.root.length : Int) + (x.set.length : Int) < 0) := by omega
  have n3 : ¬ (k + (szH x : Int) < 0) := by omega
  simp only [Int.ofNat_lt, decide_true, decide_false, cond_true, cond_false, inB_nat, inB_zero, must_true, Int.toNat_natCast, asInt_int, asBool_bool, asSl_sl, asOsl_osl, asStr_str, orcE_R, orcE_W, orcE_L, orcE_X, need_some', asTup_tup, List.getElem?_cons_zero, List.getElem?_cons_succ, Bool.not_true, Bool.not_false, Bool.true_and, Bool.and_true, Bool.false_or, ble_dec, beq_dec, List.length_cons, List.length_nil, Nat.mul_one, Nat.zero_add, Nat.add_zero, Nat.sub_zero, both_self', bytesV_length, bytesV_flat, bytesV_isU8, mkH, c254 x.root.length k hk (by omega) (by omega), n1, c254 x.set.length (k + x.root.length) (by omega) (by omega) (by omega), n2, c254 x.nxt.length (k + x.root.length + x.set.length) (by omega) (by omega) (by omega), e, n3]
theorem c140 (x : HB) (h : fitH x) : runE C 140 [.agg [.int .i64 x.hgt, .int .i64 x.tim, .sl x.root.length (bytesV x.root), .sl x.set.length (bytesV x.set), .sl x.nxt.length (bytesV x.nxt)]] = some (.tup [.int .i64 x.hgt, .int .i64 x.tim, .osl x.root.length (bytesV x.root), .osl x.set.length (bytesV x.set), .osl x.nxt.length (bytesV x.nxt)]) := by
  refine E140 _ _ _ _ _ _ _ _ ?_
  unfold T140
  unfold fitH szH at h
  simp only [Int.ofNat_lt, decide_true, decide_false, cond_true, cond_false, inB_nat, inB_zero, must_true, Int.toNat_natCast, asInt_int, asBool_bool, asSl_sl, asOsl_osl, asStr_str, orcE_R, orcE_W, orcE_L, orcE_X, need_some', asTup_tup, List.getElem?_cons_zero, List.getElem?_cons_succ, Bool.not_true, Bool.not_false, Bool.true_and, Bool.and_true, Bool.false_or, ble_dec, beq_dec, List.length_cons, List.length_nil, Nat.mul_one, Nat.zero_add, Nat.add_zero, Nat.sub_zero, both_self', bytesV_length, bytesV_flat, bytesV_isU8, c184 x.root (by omega), c184 x.set (by omega), c184 x.nxt (by omega)]
theorem c192 (x : HB) (h : fitH x) : runE C 192 [.agg [.int .i64 x.hgt, .int .i64 x.tim, .sl x.root.length (bytesV x.root), .sl x.set.length (bytesV x.set), .sl x.nxt.length (bytesV x.nxt)]] = some (.tup [.int .i64 x.hgt, .int .i64 x.tim, .sl x.root.length (bytesV x.root), .sl x.set.length (bytesV x.set), .sl x.nxt.length (bytesV x.nxt)]) := by
  refine E192 _ _ _ _ _ _ _ _ ?_
  unfold T192
  unfold fitH szH at h
  have d1 : x.root.length ≤ 140737488355328 := by omega
  have d2 : x.set.length ≤ 140737488355328 := by omega
  have d3 : x.nxt.length ≤ 140737488355328 := by omega
  simp only [Int.ofNat_lt, decide_true, decide_false, cond_true, cond_false, inB_nat, inB_zero, must_true, Int.toNat_natCast, asInt_int, asBool_bool, asSl_sl, asOsl_osl, asStr_str, orcE_R, orcE_W, orcE_L, orcE_X, need_some', asTup_tup, List.getElem?_cons_zero, List.getElem?_cons_succ, Bool.not_true, Bool.not_false, Bool.true_and, Bool.and_true, Bool.false_or, ble_dec, beq_dec, List.length_cons, List.length_nil, Nat.mul_one, Nat.zero_add, Nat.add_zero, Nat.sub_zero, both_self', bytesV_length, bytesV_flat, bytesV_isU8, d1, d2, d3]

/-! ### trusts -/
theorem c64 (x y : Tr) (h : fitH x.hd) (h1 : fitV x.nx) (h2 : fitP x.roots) : runE C 64 [.agg [.int .i64 x.hd.hgt, .int .i64 x.hd.tim, .sl x.hd.root.length (bytesV x.hd.root), .sl x.hd.set.length (bytesV x.hd.set), .sl x.hd.nxt.length (bytesV x.hd.nxt), .sl x.nx.length (vsS x.nx), .int .i64 x.per, .bool x.pau, .sl x.roots.length (psS x.roots), .int .i64 x.frm], .agg [.int .i64 y.hd.hgt, .int .i64 y.hd.tim, .sl y.hd.root.length (bytesV y.hd.root), .sl y.hd.set.length (bytesV y.hd.set), .sl y.hd.nxt.length (bytesV y.hd.nxt), .sl y.nx.length (vsS y.nx), .int .i64 y.per, .bool y.pau, .sl y.roots.length (psS y.roots), .int .i64 y.frm]] = some (.tup [.bool (decide (x = y))]) := by
  refine E64 _ _ _ _ _ _ _ _ _ _ _ _ _ _ _ _ _ _ _ _ _ _ _ _ _ _ _ _ _ _ ?_
  unfold T64
  simp only [Int.ofNat_lt, decide_true, decide_false, cond_true, cond_false, inB_nat, inB_zero, must_true, Int.toNat_natCast, asInt_int, asBool_bool, asSl_sl, asOsl_osl, asStr_str, orcE_R, orcE_W, orcE_L, orcE_X, need_some', asTup_tup, List.getElem?_cons_zero, List.getElem?_cons_succ, Bool.not_true, Bool.not_false, Bool.true_and, Bool.and_true, Bool.false_or, ble_dec, beq_dec, List.length_cons, List.length_nil, Nat.mul_one, Nat.zero_add, Nat.add_zero, Nat.sub_zero, both_self', bytesV_length, bytesV_flat, bytesV_isU8, c35 x.hd y.hd h, c36 x.nx y.nx h1, c70 x.roots y.roots (by have := h2.1; omega) (by have := h2.2; omega)]
  obtain ⟨a, b, c, d, e, f⟩ := x
  obtain ⟨a', b', c', d', e', f'⟩ := y
  simp only [Tr.mk.injEq]
  by_cases e1 : a = a' <;> by_cases e2 : b = b' <;> by_cases e3 : c = c' <;> by_cases e5 : e = e' <;> by_cases e6 : f = f' <;> cases d <;> cases d' <;> simp [e1, e2, e3, e5, e6, bne_t]
theorem c34 (a b : Int) (x y : Tr) (h : fitH x.hd) (h1 : fitV x.nx) (h2 : fitP x.roots) : runE C 34 [.agg [.int .i64 a, .int .i64 x.hd.hgt, .int .i64 x.hd.tim, .sl x.hd.root.length (bytesV x.hd.root), .sl x.hd.set.length (bytesV x.hd.set), .sl x.hd.nxt.length (bytesV x.hd.nxt), .sl x.nx.length (vsS x.nx), .int .i64 x.per, .bool x.pau, .sl x.roots.length (psS x.roots), .int .i64 x.frm], .agg [.int .i64 b, .int .i64 y.hd.hgt, .int .i64 y.hd.tim, .sl y.hd.root.length (bytesV y.hd.root), .sl y.hd.set.length (bytesV y.hd.set), .sl y.hd.nxt.length (bytesV y.hd.nxt), .sl y.nx.length (vsS y.nx), .int .i64 y.per, .bool y.pau, .sl y.roots.length (psS y.roots), .int .i64 y.frm]] = some (.tup [.bool (decide (a = b ∧ x = y))]) := by
  refine E34 _ _ _ _ _ _ _ _ _ _ _ _ _ _ _ _ _ _ _ _ _ _ _ _ _ _ _ _ _ _ _ _ ?_
  unfold T34
  simp only [Int.ofNat_lt, decide_true, decide_false, cond_true, cond_false, inB_nat, inB_zero, must_true, Int.toNat_natCast, asInt_int, asBool_bool, asSl_sl, asOsl_osl, asStr_str, orcE_R, orcE_W, orcE_L, orcE_X, need_some', asTup_tup, List.getElem?_cons_zero, List.getElem?_cons_succ, Bool.not_true, Bool.not_false, Bool.true_and, Bool.and_true, Bool.false_or, ble_dec, beq_dec, List.length_cons, List.length_nil, Nat.mul_one, Nat.zero_add, Nat.add_zero, Nat.sub_zero, both_self', bytesV_length, bytesV_flat, bytesV_isU8, c64 x y h h1 h2]
  by_cases e1 : a = b <;> by_cases e2 : x = y <;> simp [e1, e2, bne_t]
theorem c65 (x : Tr) (k : Int) (hk : 0 ≤ k) (hk2 : k < 4611686010427387904) (h : fitH x.hd) (h1 : fitV x.nx) (h2 : fitP x.roots) :
    runWE C 65 [0, 1, 2, 3, 4] [.agg [.int .i64 x.hd.hgt, .int .i64 x.hd.tim, .ref 0, .ref 1, .ref 2, .ref 3, .int .i64 x.per, .bool x.pau, .ref 4, .int .i64 x.frm], .int .i64 k]
      [.row 5 x.hd.root.length (bytesV x.hd.root) false, .row 5 x.hd.set.length (bytesV x.hd.set) false, .row 5 x.hd.nxt.length (bytesV x.hd.nxt) false, .nrow [] 103 x.nx.length (vsO x.nx), .nrow [] 22 x.roots.length (psO x.roots)] =
      some (.tup [.int .i64 (k + szT x), .osl x.hd.root.length (bytesV (mkT k x).hd.root), .osl x.hd.set.length (bytesV (mkT k x).hd.set), .osl x.hd.nxt.length (bytesV (mkT k x).hd.nxt), .osl x.nx.length (vsO (mkT k x).nx), .osl x.roots.length (psO (mkT k x).roots)]) := by
  refine E65 _ _ _ _ _ _ _ _ _ _ _ _ _ _ _ _ ?_
  unfold T65
  have := cV_le x.nx
  have q0 : szH x.hd ≤ 100000000 := h
  obtain ⟨q1, q2⟩ := h1
  obtain ⟨q3, q4⟩ := h2
  have e : k + (szH x.hd : Int) + (cV x.nx : Int) + (tot List.length x.roots : Int) = k + (szT x : Int) := by unfold szT; omega
  have w1 := c37 x.hd k hk (by omega) h
  have w2 := c38 x.nx (k + szH x.hd) (by omega) (by omega) ⟨q1, q2⟩
  have w3 := c72 x.roots (k + szH x.hd + cV x.nx) (by omega) (by omega) (by omega) (by omega)
  simp only [Int.ofNat_lt, decide_true, decide_false, cond_true, cond_false, inB_nat, inB_zero, must_true, Int.toNat_natCast, asInt_int, asBool_bool, asSl_sl, asOsl_osl, asStr_str, orcE_R, orcE_W, orcE_L, orcE_X, need_some', asTup_tup, List.getElem?_cons_zero, List.getElem?_cons_succ, Bool.not_true, Bool.not_false, Bool.true_and, Bool.and_true, Bool.false_or, ble_dec, beq_dec, List.length_cons, List.length_nil, Nat.mul_one, Nat.zero_add, Nat.add_zero, Nat.sub_zero, both_self', bytesV_length, bytesV_flat, bytesV_isU8, w1, w2, w3, mkT, e]
theorem c39 (a : Int) (x : Tr) (k : Int) (hk : 0 ≤ k) (hk2 : k < 4611686010427387904) (h : fitH x.hd) (h1 : fitV x.nx) (h2 : fitP x.roots) :
    runWE C 39 [0, 1, 2, 3, 4] [.agg [.int .i64 a, .int .i64 x.hd.hgt, .int .i64 x.hd.tim, .ref 0, .ref 1, .ref 2, .ref 3, .int .i64 x.per, .bool x.pau, .ref 4, .int .i64 x.frm], .int .i64 k]
      [.row 5 x.hd.root.length (bytesV x.hd.root) false, .row 5 x.hd.set.length (bytesV x.hd.set) false, .row 5 x.hd.nxt.length (bytesV x.hd.nxt) false, .nrow [] 103 x.nx.length (vsO x.nx), .nrow [] 22 x.roots.length (psO x.roots)] =
      some (.tup [.int .i64 (k + szT x), .osl x.hd.root.length (bytesV (mkT k x).hd.root), .osl x.hd.set.length (bytesV (mkT k x).hd.set), .osl x.hd.nxt.length (bytesV (mkT k x).hd.nxt), .osl x.nx.length (vsO (mkT k x).nx), .osl x.roots.length (psO (mkT k x).roots)]) := by
  refine E39 _ _ _ _ _ _ _ _ _ _ _ _ _ _ _ _ _ ?_
  unfold T39
  simp only [Int.ofNat_lt, decide_true, decide_false, cond_true, cond_false, inB_nat, inB_zero, must_true, Int.toNat_natCast, asInt_int, asBool_bool, asSl_sl, asOsl_osl, asStr_str, orcE_R, orcE_W, orcE_L, orcE_X, need_some', asTup_tup, List.getElem?_cons_zero, List.getElem?_cons_succ, Bool.not_true, Bool.not_false, Bool.true_and, Bool.and_true, Bool.false_or, ble_dec, beq_dec, List.length_cons, List.length_nil, Nat.mul_one, Nat.zero_add, Nat.add_zero, Nat.sub_zero, both_self', bytesV_length, bytesV_flat, bytesV_isU8, c65 x k hk hk2 h h1 h2]
theorem c126 (x : Tr) (k : Int) (hk : 0 ≤ k) (hk2 : k < 4611686010427387904) (h : fitH x.hd) (h1 : fitV x.nx) (h2 : fitP x.roots) :
    runE C 126 [.agg [.int .i64 x.hd.hgt, .int .i64 x.hd.tim, .sl x.hd.root.length (bytesV (mkT k x).hd.root), .sl x.hd.set.length (bytesV (mkT k x).hd.set), .sl x.hd.nxt.length (bytesV (mkT k x).hd.nxt), .sl x.nx.length (vsS (mkT k x).nx), .int .i64 x.per, .bool x.pau, .sl x.roots.length (psS (mkT k x).roots), .int .i64 x.frm], .int .i64 k] =
      some (.tup [.int .i64 (k + szT x)]) := by
  refine E126 _ _ _ _ _ _ _ _ _ _ _ _ _ _ _ _ ?_
  unfold T126
  have := cV_le x.nx
  have q0 : szH x.hd ≤ 100000000 := h
  obtain ⟨q1, q2⟩ := h1
  obtain ⟨q3, q4⟩ := h2
  have e : k + (szH x.hd : Int) + (cV x.nx : Int) + (tot List.length x.roots : Int) = k + (szT x : Int) := by unfold szT; omega
  have n1 : ¬ (k + (szH x.hd : Int) < 0) := by omega
  have n2 : ¬ (k + (szH x.hd : Int) + (cV x.nx : Int) < 0) := by omega
  have n3 : ¬ (k + (szT x : Int) < 0) := by omega
  have w1 := c199 x.hd k hk (by omega) h
  have w2 := c200 x.nx (k + szH x.hd) (by omega) (by omega) ⟨q1, q2⟩
  have w3 := c201 x.roots (k + szH x.hd + cV x.nx) (by omega) (by omega) (by omega) (by omega)
  simp only [Int.ofNat_lt, decide_true, decide_false, cond_true, cond_false, inB_nat, inB_zero, must_true, Int.toNat_natCast, asInt_int, asBool_bool, asSl_sl, asOsl_osl, asStr_str, orcE_R, orcE_W, orcE_L, orcE_X, need_some', asTup_tup, List.getElem?_cons_zero, List.getElem?_cons_succ, Bool.not_true, Bool.not_false, Bool.true_and, Bool.and_true, Bool.false_or, ble_dec, beq_dec, List.length_cons, List.length_nil, Nat.mul_one, Nat.zero_add, Nat.add_zero, Nat.sub_zero, both_self', bytesV_length, bytesV_flat, bytesV_isU8, mkT, w1, n1, w2, n2, w3, e, n3]
theorem c40 (a : Int) (x : Tr) (k : Int) (hk : 0 ≤ k) (hk2 : k < 4611686010427387904) (h : fitH x.hd) (h1 : fitV x.nx) (h2 : fitP x.roots) :
    runE C 40 [.agg [.int .i64 a, .int .i64 x.hd.hgt, .int .i64 x.hd.tim, .sl x.hd.root.length (bytesV (mkT k x).hd.root), .sl x.hd.set.length (bytesV (mkT k x).hd.set), .sl x.hd.nxt.length (bytesV (mkT k x).hd.nxt), .sl x.nx.length (vsS (mkT k x).nx), .int .i64 x.per, .bool x.pau, .sl x.roots.length (psS (mkT k x).roots), .int .i64 x.frm], .int .i64 k] =
      some (.tup [.int .i64 (k + szT x)]) := by
  refine E40 _ _ _ _ _ _ _ _ _ _ _ _ _ _ _ _ _ ?_
  unfold T40
  have n3 : ¬ (k + (szT x : Int) < 0) := by omega
  simp only [Int.ofNat_lt, decide_true, decide_false, cond_true, cond_false, inB_nat, inB_zero, must_true, Int.toNat_natCast, asInt_int, asBool_bool, asSl_sl, asOsl_osl, asStr_str, orcE_R, orcE_W, orcE_L, orcE_X, need_some', asTup_tup, List.getElem?_cons_zero, List.getElem?_cons_succ, Bool.not_true, Bool.not_false, Bool.true_and, Bool.and_true, Bool.false_or, ble_dec, beq_dec, List.length_cons, List.length_nil, Nat.mul_one, Nat.zero_add, Nat.add_zero, Nat.sub_zero, both_self', bytesV_length, bytesV_flat, bytesV_isU8, c126 x k hk hk2 h h1 h2, n3]
theorem c122 (x : Tr) (h : fitH x.hd) (h1 : fitV x.nx) (h2 : fitP x.roots) : runE C 122 [.agg [.int .i64 x.hd.hgt, .int .i64 x.hd.tim, .sl x.hd.root.length (bytesV x.hd.root), .sl x.hd.set.length (bytesV x.hd.set), .sl x.hd.nxt.length (bytesV x.hd.nxt), .sl x.nx.length (vsS x.nx), .int .i64 x.per, .bool x.pau, .sl x.roots.length (psS x.roots), .int .i64 x.frm]] = some (.tup [.int .i64 x.hd.hgt, .int .i64 x.hd.tim, .osl x.hd.root.length (bytesV x.hd.root), .osl x.hd.set.length (bytesV x.hd.set), .osl x.hd.nxt.length (bytesV x.hd.nxt), .osl x.nx.length (vsO x.nx), .int .i64 x.per, .bool x.pau, .osl x.roots.length (psO x.roots), .int .i64 x.frm]) := by
  refine E122 _ _ _ _ _ _ _ _ _ _ _ _ _ _ _ ?_
  unfold T122
  simp only [Int.ofNat_lt, decide_true, decide_false, cond_true, cond_false, inB_nat, inB_zero, must_true, Int.toNat_natCast, asInt_int, asBool_bool, asSl_sl, asOsl_osl, asStr_str, orcE_R, orcE_W, orcE_L, orcE_X, need_some', asTup_tup, List.getElem?_cons_zero, List.getElem?_cons_succ, Bool.not_true, Bool.not_false, Bool.true_and, Bool.and_true, Bool.false_or, ble_dec, beq_dec, List.length_cons, List.length_nil, Nat.mul_one, Nat.zero_add, Nat.add_zero, Nat.sub_zero, both_self', bytesV_length, bytesV_flat, bytesV_isU8, c140 x.hd h, c197 x.nx h1, c198 x.roots (by have := h2.1; omega) (by have := h2.2; omega)]
theorem c118 (x : Tr) (h : fitH x.hd) (h1 : fitV x.nx) (h2 : fitP x.roots) : runE C 118 [.agg [.int .i64 x.hd.hgt, .int .i64 x.hd.tim, .sl x.hd.root.length (bytesV x.hd.root), .sl x.hd.set.length (bytesV x.hd.set), .sl x.hd.nxt.length (bytesV x.hd.nxt), .sl x.nx.length (vsS x.nx), .int .i64 x.per, .bool x.pau, .sl x.roots.length (psS x.roots), .int .i64 x.frm]] = some (.tup [.int .i64 x.hd.hgt, .int .i64 x.hd.tim, .sl x.hd.root.length (bytesV x.hd.root), .sl x.hd.set.length (bytesV x.hd.set), .sl x.hd.nxt.length (bytesV x.hd.nxt), .sl x.nx.length (vsS x.nx), .int .i64 x.per, .bool x.pau, .sl x.roots.length (psS x.roots), .int .i64 x.frm]) := by
  refine E118 _ _ _ _ _ _ _ _ _ _ _ _ _ _ _ ?_
  unfold T118
  simp only [Int.ofNat_lt, decide_true, decide_false, cond_true, cond_false, inB_nat, inB_zero, must_true, Int.toNat_natCast, asInt_int, asBool_bool, asSl_sl, asOsl_osl, asStr_str, orcE_R, orcE_W, orcE_L, orcE_X, need_some', asTup_tup, List.getElem?_cons_zero, List.getElem?_cons_succ, Bool.not_true, Bool.not_false, Bool.true_and, Bool.and_true, Bool.false_or, ble_dec, beq_dec, List.length_cons, List.length_nil, Nat.mul_one, Nat.zero_add, Nat.add_zero, Nat.sub_zero, both_self', bytesV_length, bytesV_flat, bytesV_isU8, c192 x.hd h, c193 x.nx h1, c194 x.roots (by have := h2.1; omega) (by have := h2.2; omega)]
end Go.Proofs.Ytehpmolckdmibaa.Tru
