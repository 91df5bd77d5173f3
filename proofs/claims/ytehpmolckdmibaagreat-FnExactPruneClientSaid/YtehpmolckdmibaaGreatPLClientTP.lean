/-
  Heads of blocks, clients: sizes, copies, sameness, marks.
-/
import Derived.Test.YtehpmolckdmibaaGreatPLNestTP
import Derived.Test.YtehpmolckdmibaaGreatPMClient
namespace Go.Proofs.YtehpmolckdmibaaGreat.Cli
open Go Go.PI Go.PI.Sha Go.PI.Rel Go.PI.Nest Go.PI.Tru Go.PI.Cli Go.Proofs.YtehpmolckdmibaaGreat.Sha Go.Proofs.YtehpmolckdmibaaGreat.By Go.Proofs.YtehpmolckdmibaaGreat.Nest EqP
set_option maxHeartbeats 1000000
set_option linter.unusedVariables false
set_option linter.unusedSimpArgs false

/-! ### Head -/
theorem c124 (x : Hd) (left : Int) (h : x.par.length ≤ 9223372036854775807 ∧ x.root.length ≤ 9223372036854775807) (h1 : 0 ≤ left) (h2 : left ≤ 4611686018427387904) :
    runE C 124 [.agg [.sl x.par.length (bytesV x.par), .int .i64 x.hgt, .int .i64 x.tim, .int .i64 x.zer, .sl x.root.length (bytesV x.root), .int .i64 x.non], .int .i64 left] = some (.tup [.int .i64 (less left (hdZ x))]) := by
  refine E124 _ _ _ _ _ _ _ _ _ ?_
  unfold T124
  have k0 := c182 x.par.length (bytesV x.par) (left) h.1 (by omega) (by omega)
  by_cases g0 : left < (x.par.length : Int)
  · rw [if_pos g0] at k0
    rw [less_lt (by unfold hdZ; omega)]
    simp only [Int.ofNat_lt, decide_true, decide_false, cond_true, cond_false, inB_nat, inB_zero, must_true, Int.toNat_natCast, asInt_int, asBool_bool, asSl_sl, asOsl_osl, asStr_str, orcE_R, orcE_W, orcE_L, orcE_X, need_some', asTup_tup, List.getElem?_cons_zero, List.getElem?_cons_succ, Bool.not_true, Bool.not_false, Bool.true_and, Bool.and_true, Bool.false_or, ble_dec, beq_dec, List.length_cons, List.length_nil, Nat.mul_one, Nat.zero_add, Nat.add_zero, Nat.sub_zero, both_self', bytesV_length, bytesV_flat, bytesV_isU8, k0]
    rfl
  rw [if_neg g0] at k0
  have n0 : ¬ (left - (x.par.length : Int) < 0) := by omega
  have k1 := c182 x.root.length (bytesV x.root) (left - (x.par.length : Int)) h.2 (by omega) (by omega)
  by_cases g1 : left - (x.par.length : Int) < (x.root.length : Int)
  · rw [if_pos g1] at k1
    rw [less_lt (by unfold hdZ; omega)]
    simp only [Int.ofNat_lt, decide_true, decide_false, cond_true, cond_false, inB_nat, inB_zero, must_true, Int.toNat_natCast, asInt_int, asBool_bool, asSl_sl, asOsl_osl, asStr_str, orcE_R, orcE_W, orcE_L, orcE_X, need_some', asTup_tup, List.getElem?_cons_zero, List.getElem?_cons_succ, Bool.not_true, Bool.not_false, Bool.true_and, Bool.and_true, Bool.false_or, ble_dec, beq_dec, List.length_cons, List.length_nil, Nat.mul_one, Nat.zero_add, Nat.add_zero, Nat.sub_zero, both_self', bytesV_length, bytesV_flat, bytesV_isU8, k0, n0, k1]
    rfl
  rw [if_neg g1] at k1
  have n1 : ¬ (left - (x.par.length : Int) - (x.root.length : Int) < 0) := by omega
  rw [less_ge (by unfold hdZ; omega)]
  have e : left - (x.par.length : Int) - (x.root.length : Int) = left - (hdZ x : Int) := by unfold hdZ; omega
  rw [e] at k1 n1
  simp only [Int.ofNat_lt, decide_true, decide_false, cond_true, cond_false, inB_nat, inB_zero, must_true, Int.toNat_natCast, asInt_int, asBool_bool, asSl_sl, asOsl_osl, asStr_str, orcE_R, orcE_W, orcE_L, orcE_X, need_some', asTup_tup, List.getElem?_cons_zero, List.getElem?_cons_succ, Bool.not_true, Bool.not_false, Bool.true_and, Bool.and_true, Bool.false_or, ble_dec, beq_dec, List.length_cons, List.length_nil, Nat.mul_one, Nat.zero_add, Nat.add_zero, Nat.sub_zero, both_self', bytesV_length, bytesV_flat, bytesV_isU8, k0, n0, k1, n1]
theorem c125 (x : Hd) (h : hdfit x) : runE C 125 [.agg [.sl x.par.length (bytesV x.par), .int .i64 x.hgt, .int .i64 x.tim, .int .i64 x.zer, .sl x.root.length (bytesV x.root), .int .i64 x.non]] = some (.tup [.osl x.par.length (bytesV x.par), .int .i64 x.hgt, .int .i64 x.tim, .int .i64 x.zer, .osl x.root.length (bytesV x.root), .int .i64 x.non]) := by
  refine E125 _ _ _ _ _ _ _ _ ?_
  unfold T125
  unfold hdfit hdZ at h
  simp only [Int.ofNat_lt, decide_true, decide_false, cond_true, cond_false, inB_nat, inB_zero, must_true, Int.toNat_natCast, asInt_int, asBool_bool, asSl_sl, asOsl_osl, asStr_str, orcE_R, orcE_W, orcE_L, orcE_X, need_some', asTup_tup, List.getElem?_cons_zero, List.getElem?_cons_succ, Bool.not_true, Bool.not_false, Bool.true_and, Bool.and_true, Bool.false_or, ble_dec, beq_dec, List.length_cons, List.length_nil, Nat.mul_one, Nat.zero_add, Nat.add_zero, Nat.sub_zero, both_self', bytesV_length, bytesV_flat, bytesV_isU8, c183 x.par (by omega), c183 x.root (by omega)]
theorem c126 (x y : Hd) (h : hdfit x) : runE C 126 [.agg [.sl x.par.length (bytesV x.par), .int .i64 x.hgt, .int .i64 x.tim, .int .i64 x.zer, .sl x.root.length (bytesV x.root), .int .i64 x.non], .agg [.sl y.par.length (bytesV y.par), .int .i64 y.hgt, .int .i64 y.tim, .int .i64 y.zer, .sl y.root.length (bytesV y.root), .int .i64 y.non]] = some (.tup [.bool (decide (x = y))]) := by
  refine E126 _ _ _ _ _ _ _ _ _ _ _ _ _ _ _ _ ?_
  unfold T126
  unfold hdfit hdZ at h
  simp only [Int.ofNat_lt, decide_true, decide_false, cond_true, cond_false, inB_nat, inB_zero, must_true, Int.toNat_natCast, asInt_int, asBool_bool, asSl_sl, asOsl_osl, asStr_str, orcE_R, orcE_W, orcE_L, orcE_X, need_some', asTup_tup, List.getElem?_cons_zero, List.getElem?_cons_succ, Bool.not_true, Bool.not_false, Bool.true_and, Bool.and_true, Bool.false_or, ble_dec, beq_dec, List.length_cons, List.length_nil, Nat.mul_one, Nat.zero_add, Nat.add_zero, Nat.sub_zero, both_self', bytesV_length, bytesV_flat, bytesV_isU8, c184 x.par y.par (by omega), c184 x.root y.root (by omega)]
  obtain ⟨a0, a1, a2, a3, a4, a5⟩ := x
  obtain ⟨b0, b1, b2, b3, b4, b5⟩ := y
  simp only [Hd.mk.injEq]
  by_cases e0 : a0 = b0 <;> by_cases e1 : a1 = b1 <;> by_cases e2 : a2 = b2 <;> by_cases e3 : a3 = b3 <;> by_cases e4 : a4 = b4 <;> by_cases e5 : a5 = b5 <;> simp [e0, e1, e2, e3, e4, e5, bne_t]
theorem c98 (x : Hd) (h : hdfit x) : runE C 98 [.agg [.sl x.par.length (bytesV x.par), .int .i64 x.hgt, .int .i64 x.tim, .int .i64 x.zer, .sl x.root.length (bytesV x.root), .int .i64 x.non]] = some (.tup [.osl x.par.length (bytesV x.par), .int .i64 x.hgt, .int .i64 x.tim, .int .i64 x.zer, .osl x.root.length (bytesV x.root), .int .i64 x.non]) := by
  refine E98 _ _ _ _ _ _ _ _ ?_
  unfold T98
  unfold hdfit hdZ at h
  simp only [Int.ofNat_lt, decide_true, decide_false, cond_true, cond_false, inB_nat, inB_zero, must_true, Int.toNat_natCast, asInt_int, asBool_bool, asSl_sl, asOsl_osl, asStr_str, orcE_R, orcE_W, orcE_L, orcE_X, need_some', asTup_tup, List.getElem?_cons_zero, List.getElem?_cons_succ, Bool.not_true, Bool.not_false, Bool.true_and, Bool.and_true, Bool.false_or, ble_dec, beq_dec, List.length_cons, List.length_nil, Nat.mul_one, Nat.zero_add, Nat.add_zero, Nat.sub_zero, both_self', bytesV_length, bytesV_flat, bytesV_isU8, c165 x.par (by omega), c165 x.root (by omega)]
theorem c61 (x : Hd) (h : hdfit x) : runE C 61 [.agg [.sl x.par.length (bytesV x.par), .int .i64 x.hgt, .int .i64 x.tim, .int .i64 x.zer, .sl x.root.length (bytesV x.root), .int .i64 x.non]] = some (.tup [.osl x.par.length (bytesV x.par), .int .i64 x.hgt, .int .i64 x.tim, .int .i64 x.zer, .osl x.root.length (bytesV x.root), .int .i64 x.non]) := by
  refine E61 _ _ _ _ _ _ _ _ ?_
  unfold T61
  unfold hdfit hdZ at h
  have d0 : x.par.length ≤ 140737488355328 := by omega
  have d1 : x.root.length ≤ 140737488355328 := by omega
  simp only [Int.ofNat_lt, decide_true, decide_false, cond_true, cond_false, inB_nat, inB_zero, must_true, Int.toNat_natCast, asInt_int, asBool_bool, asSl_sl, asOsl_osl, asStr_str, orcE_R, orcE_W, orcE_L, orcE_X, need_some', asTup_tup, List.getElem?_cons_zero, List.getElem?_cons_succ, Bool.not_true, Bool.not_false, Bool.true_and, Bool.and_true, Bool.false_or, ble_dec, beq_dec, List.length_cons, List.length_nil, Nat.mul_one, Nat.zero_add, Nat.add_zero, Nat.sub_zero, both_self', bytesV_length, bytesV_flat, bytesV_isU8, d0, d1]
/-! ### rows of Head -/
theorem l62 : ∀ (r d : List Hd) (left : Int) (n i : Nat), n = d.length + r.length → i = d.length → n ≤ 4611686018427387904 → (∀ v ∈ r, v.par.length ≤ 9223372036854775807 ∧ v.root.length ≤ 9223372036854775807) → 0 ≤ left → left ≤ 4611686018427387904 →
    loopE C 62 0 [true, true, true, false, true] [] [(0, V.sl n (hdsS (d ++ r))), (1, V.int .i64 left), (5, V.int .i64 (i : Int))] [] = some (.tup [.int .i64 (less left (tot hdZ r))])
  | [], d, left, n, i, hn, hi, hq, hv, h1, h2 => by
    refine E62l1 _ _ _ _ ?_
    unfold T62l1
    have : ¬ i < n := by simp at hn; omega
    rw [less_ge (by simp [tot]; omega)]
    simp [this, tot]
  | v :: r, d, left, n, i, hn, hi, hq, hv, h1, h2 => by
    simp only [List.length_cons] at hn
    have hlt : i < n := by omega
    have hw := w64_succ (n := i) (by omega)
    have g0 := hdsS_at0 hi v r
    have g1 := hdsS_at1 hi v r
    have g2 := hdsS_at2 hi v r
    have g3 := hdsS_at3 hi v r
    have g4 := hdsS_at4 hi v r
    have g5 := hdsS_at5 hi v r
    have k := c124 v left (hv v (by simp)) h1 h2
    have et : tot hdZ (v :: r) = hdZ v + tot hdZ r := rfl
    rw [et]
    refine E62l1 _ _ _ _ ?_
    unfold T62l1
    by_cases g : left < (hdZ v : Int)
    · rw [less_lt g] at k
      rw [less_lt (by omega)]
      simp only [Int.ofNat_lt, decide_true, decide_false, cond_true, cond_false, inB_nat, inB_zero, must_true, Int.toNat_natCast, asInt_int, asBool_bool, asSl_sl, asOsl_osl, asStr_str, orcE_R, orcE_W, orcE_L, orcE_X, need_some', asTup_tup, List.getElem?_cons_zero, List.getElem?_cons_succ, Bool.not_true, Bool.not_false, Bool.true_and, Bool.and_true, Bool.false_or, ble_dec, beq_dec, List.length_cons, List.length_nil, Nat.mul_one, Nat.zero_add, Nat.add_zero, Nat.sub_zero, both_self', bytesV_length, bytesV_flat, bytesV_isU8, hlt, g0, g1, g2, g3, g4, g5, k]
      rfl
    · rw [less_ge g] at k
      have n1 : ¬ (left - (hdZ v : Int) < 0) := by omega
      have ih := l62 r (d ++ [v]) (left - hdZ v) n (i + 1) (by simp; omega) (by simp; omega) hq (fun u hu => hv u (by simp [hu])) (by omega) (by omega)
      rw [less_less g] at ih
      simp only [List.append_assoc, List.singleton_append] at ih
      simp only [Int.ofNat_lt, decide_true, decide_false, cond_true, cond_false, inB_nat, inB_zero, must_true, Int.toNat_natCast, asInt_int, asBool_bool, asSl_sl, asOsl_osl, asStr_str, orcE_R, orcE_W, orcE_L, orcE_X, need_some', asTup_tup, List.getElem?_cons_zero, List.getElem?_cons_succ, Bool.not_true, Bool.not_false, Bool.true_and, Bool.and_true, Bool.false_or, ble_dec, beq_dec, List.length_cons, List.length_nil, Nat.mul_one, Nat.zero_add, Nat.add_zero, Nat.sub_zero, both_self', bytesV_length, bytesV_flat, bytesV_isU8, hlt, g0, g1, g2, g3, g4, g5, k, n1, hw, ih]
theorem c62 (l : List Hd) (left : Int) (h : l.length ≤ 9223372036854775807) (hv : ∀ v ∈ l, v.par.length ≤ 9223372036854775807 ∧ v.root.length ≤ 9223372036854775807) (h1 : 0 ≤ left) (h2 : left ≤ 4611686018427387904) :
    runE C 62 [.sl l.length (hdsS l), .int .i64 left] = some (.tup [.int .i64 (less left (l.length + tot hdZ l))]) := by
  refine E62 _ _ _ ?_
  unfold T62
  rw [w64 (by omega) (by omega)]
  by_cases g : left < (l.length : Int)
  · rw [less_lt (by omega), decide_eq_true (by omega)]
    rfl
  · have k := l62 l [] (left - l.length) l.length 0 (by simp) rfl (by omega) hv (by omega) (by omega)
    rw [less_less g] at k
    rw [decide_eq_false (by omega)]
    exact k
theorem l63 : ∀ (r d : List Hd) (n i : Nat), n = d.length + r.length → i = d.length → n < 1000000000 → tot hdZ r ≤ 100000000 →
    loopE C 63 0 [true, true, false, true] [] [(0, V.sl n (hdsS (d ++ r))), (3, V.ref 0), (4, V.int .i64 (i : Int))] [Ob.nrow [] 28 n (prt hdO hdz d r.length)] = some (.tup [.osl n (hdsO (d ++ r))])
  | [], d, n, i, hn, hi, hq, ht => by
    refine E63l1 _ _ _ _ _ ?_
    unfold T63l1
    have : ¬ i < n := by simp at hn; omega
    rw [List.length_nil, prt_full]
    simp [this, hdsO]
  | v :: r, d, n, i, hn, hi, hq, ht => by
    simp only [List.length_cons] at hn ⊢
    simp only [tot] at ht
    have ih := l63 r (d ++ [v]) n (i + 1) (by simp; omega) (by simp; omega) hq (by omega)
    refine E63l1 _ _ _ _ _ ?_
    unfold T63l1
    have hlt : i < n := by omega
    have hw := w64_succ (n := i) (by omega)
    have g0 := hdsS_at0 hi v r
    have g1 := hdsS_at1 hi v r
    have g2 := hdsS_at2 hi v r
    have g3 := hdsS_at3 hi v r
    have g4 := hdsS_at4 hi v r
    have g5 := hdsS_at5 hi v r
    have hs : splice (prt hdO hdz d (r.length + 1)) (i * 6) [V.own false 5 1 v.par.length (bytesV v.par), V.int .i64 v.hgt, V.int .i64 v.tim, V.int .i64 v.zer, V.own false 5 1 v.root.length (bytesV v.root), V.int .i64 v.non] = prt hdO hdz (d ++ [v]) r.length := by subst hi; exact hds_part d v r.length
    have hl : (prt hdO hdz d (r.length + 1)).length = n * 6 := by rw [prt_length hdO hdO6 (z := hdz) rfl]; congr 1; omega
    have hb : i * 6 + (0 + 1 + 1 + 1 + 1 + 1 + 1) ≤ n * 6 := by omega
    simp only [List.append_assoc, List.singleton_append] at ih
    simp only [Int.ofNat_lt, decide_true, decide_false, cond_true, cond_false, inB_nat, inB_zero, must_true, Int.toNat_natCast, asInt_int, asBool_bool, asSl_sl, asOsl_osl, asStr_str, orcE_R, orcE_W, orcE_L, orcE_X, need_some', asTup_tup, List.getElem?_cons_zero, List.getElem?_cons_succ, Bool.not_true, Bool.not_false, Bool.true_and, Bool.and_true, Bool.false_or, ble_dec, beq_dec, List.length_cons, List.length_nil, Nat.mul_one, Nat.zero_add, Nat.add_zero, Nat.sub_zero, both_self', bytesV_length, bytesV_flat, bytesV_isU8, hlt, g0, g1, g2, g3, g4, g5, c125 v (by unfold hdfit; omega), hl, hs, hw, ih]
    simp only [hb, Int.ofNat_lt, decide_true, decide_false, cond_true, cond_false, inB_nat, inB_zero, must_true, Int.toNat_natCast, asInt_int, asBool_bool, asSl_sl, asOsl_osl, asStr_str, orcE_R, orcE_W, orcE_L, orcE_X, need_some', asTup_tup, List.getElem?_cons_zero, List.getElem?_cons_succ, Bool.not_true, Bool.not_false, Bool.true_and, Bool.and_true, Bool.false_or, ble_dec, beq_dec, List.length_cons, List.length_nil, Nat.mul_one, Nat.zero_add, Nat.add_zero, Nat.sub_zero, both_self', bytesV_length, bytesV_flat, bytesV_isU8]
theorem c63 (l : List Hd) (hf : hdsfit l) : runE C 63 [.sl l.length (hdsS l)] = some (.tup [.osl l.length (hdsO l)]) := by
  refine E63 _ _ ?_
  unfold T63
  have := l63 l [] l.length 0 (by simp) rfl (by have := hf.1; omega) hf.2
  rw [prt_zero] at this
  rw [must_of (by have := hf.1; simp; omega)]
  simpa [hdz] using this
theorem l64 : ∀ (r r' d d' : List Hd) (n i : Nat), n = d.length + r.length → r.length = r'.length → d'.length = d.length → i = d.length → n < 1000000000 → tot hdZ r ≤ 100000000 →
    loopE C 64 0 [true, true, false, true] [] [(0, V.sl n (hdsS (d ++ r))), (1, V.sl n (hdsS (d' ++ r'))), (5, V.int .i64 (i : Int))] [] = some (.tup [.bool (decide (r = r'))])
  | [], [], d, d', n, i, hn, hr, hd, hi, hq, ht => by
    refine E64l1 _ _ _ _ _ ?_
    unfold T64l1
    have : ¬ i < n := by simp at hn; omega
    simp [this]
  | [], _ :: _, d, d', n, i, hn, hr, hd, hi, hq, ht => by simp at hr
  | _ :: _, [], d, d', n, i, hn, hr, hd, hi, hq, ht => by simp at hr
  | b :: r, b' :: r', d, d', n, i, hn, hr, hd, hi, hq, ht => by
    simp only [List.length_cons] at hn hr
    simp only [tot] at ht
    have ih := l64 r r' (d ++ [b]) (d' ++ [b']) n (i + 1) (by simp; omega) (by omega) (by simp [hd]) (by simp; omega) hq (by omega)
    refine E64l1 _ _ _ _ _ ?_
    unfold T64l1
    have hlt : i < n := by omega
    have hw := w64_succ (n := i) (by omega)
    have g0 := hdsS_at0 hi b r
    have g1 := hdsS_at1 hi b r
    have g2 := hdsS_at2 hi b r
    have g3 := hdsS_at3 hi b r
    have g4 := hdsS_at4 hi b r
    have g5 := hdsS_at5 hi b r
    have j0 := hdsS_at0 (hi.trans hd.symm) b' r'
    have j1 := hdsS_at1 (hi.trans hd.symm) b' r'
    have j2 := hdsS_at2 (hi.trans hd.symm) b' r'
    have j3 := hdsS_at3 (hi.trans hd.symm) b' r'
    have j4 := hdsS_at4 (hi.trans hd.symm) b' r'
    have j5 := hdsS_at5 (hi.trans hd.symm) b' r'
    simp only [List.append_assoc, List.singleton_append] at ih
    rw [dec_cons]
    simp only [Int.ofNat_lt, decide_true, decide_false, cond_true, cond_false, inB_nat, inB_zero, must_true, Int.toNat_natCast, asInt_int, asBool_bool, asSl_sl, asOsl_osl, asStr_str, orcE_R, orcE_W, orcE_L, orcE_X, need_some', asTup_tup, List.getElem?_cons_zero, List.getElem?_cons_succ, Bool.not_true, Bool.not_false, Bool.true_and, Bool.and_true, Bool.false_or, ble_dec, beq_dec, List.length_cons, List.length_nil, Nat.mul_one, Nat.zero_add, Nat.add_zero, Nat.sub_zero, both_self', bytesV_length, bytesV_flat, bytesV_isU8, hlt, g0, g1, g2, g3, g4, g5, j0, j1, j2, j3, j4, j5, c126 b b' (by unfold hdfit; omega), hw, ih]
    by_cases e : b = b' <;> simp [e]
theorem c64 (a b : List Hd) (hf : hdsfit a) : runE C 64 [.sl a.length (hdsS a), .sl b.length (hdsS b)] = some (.tup [.bool (decide (a = b))]) := by
  refine E64 _ _ _ _ ?_
  unfold T64
  by_cases e : a.length = b.length
  · have := l64 a b [] [] a.length 0 (by simp) e rfl rfl (by have := hf.1; omega) hf.2
    simp only [List.nil_append] at this
    rw [← e]
    simpa using this
  · have h1 : a ≠ b := fun h => e (by rw [h])
    have h2 : ((a.length : Int) != (b.length : Int)) = true := by simp; omega
    simp [h1, h2]
theorem l65 : ∀ (r d : List Hd) (k : Int) (n i : Nat), n = d.length + r.length → i = d.length → 0 ≤ k → k + hdsC r < 4611686017427387904 → n < 1000000000 → tot hdZ r < 1000000000 →
    loopWE C 65 [0] [Ob.nrow [] 28 0 []] 0 [true, false, true] [] [(0, V.ref 0), (1, V.int .i64 k), (5, V.int .i64 (i : Int))] [Ob.nrow [] 28 n (hdsO (d ++ r))] = some (.tup [.int .i64 (k + hdsC r), .osl n (hdsO (d ++ hdsM k r))])
  | [], d, k, n, i, hn, hi, hk, hk2, hq, ht => by
    refine E65l1 _ _ _ _ ?_
    unfold T65l1
    have : ¬ i < n := by simp at hn; omega
    simp [this, hdsM, hdsC, tot]
  | v :: r, d, k, n, i, hn, hi, hk, hk2, hq, ht => by
    simp only [List.length_cons] at hn
    have ec : hdsC (v :: r) = hdC v + hdsC r := rfl
    rw [ec] at hk2 ⊢
    simp only [tot, hdZ] at ht
    unfold hdC at hk2 ⊢
    have ih := l65 r (d ++ [hdR k v]) (k + (v.par.length : Int) + 1 + 1 + 1 + (v.root.length : Int) + 1) n (i + 1) (by simp; omega) (by simp; omega) (by omega) (by omega) hq (by omega)
    refine E65l1 _ _ _ _ ?_
    unfold T65l1
    have hlt : i < n := by omega
    have hw := w64_succ (n := i) (by omega)
    have q0 := hdsO_at0 hi (⟨v.par, v.hgt, v.tim, v.zer, v.root, v.non⟩ : Hd) r
    have s0 := hdsO_set0 hi (⟨v.par, v.hgt, v.tim, v.zer, v.root, v.non⟩ : Hd) r (mkB (k) v.par.length) (m := v.par.length) (by simp)
    have m0 := c127 v.par (k) (by omega) (by omega) (by omega)
    have s1 := hdsO_set1 hi (⟨(mkB (k) v.par.length), v.hgt, v.tim, v.zer, v.root, v.non⟩ : Hd) r (k + (v.par.length : Int))
    have b1 : i * 6 + 1 + (0 + 1) ≤ n * 6 := by omega
    have w1 : IntKind.i64.wrap (k + (v.par.length : Int) + 1) = k + (v.par.length : Int) + 1 := w64 (by omega) (by omega)
    have s2 := hdsO_set2 hi (⟨(mkB (k) v.par.length), (k + (v.par.length : Int)), v.tim, v.zer, v.root, v.non⟩ : Hd) r (k + (v.par.length : Int) + 1)
    have b2 : i * 6 + 2 + (0 + 1) ≤ n * 6 := by omega
    have w2 : IntKind.i64.wrap (k + (v.par.length : Int) + 1 + 1) = k + (v.par.length : Int) + 1 + 1 := w64 (by omega) (by omega)
    have s3 := hdsO_set3 hi (⟨(mkB (k) v.par.length), (k + (v.par.length : Int)), (k + (v.par.length : Int) + 1), v.zer, v.root, v.non⟩ : Hd) r (k + (v.par.length : Int) + 1 + 1)
    have b3 : i * 6 + 3 + (0 + 1) ≤ n * 6 := by omega
    have w3 : IntKind.i64.wrap (k + (v.par.length : Int) + 1 + 1 + 1) = k + (v.par.length : Int) + 1 + 1 + 1 := w64 (by omega) (by omega)
    have q4 := hdsO_at4 hi (⟨(mkB (k) v.par.length), (k + (v.par.length : Int)), (k + (v.par.length : Int) + 1), (k + (v.par.length : Int) + 1 + 1), v.root, v.non⟩ : Hd) r
    have s4 := hdsO_set4 hi (⟨(mkB (k) v.par.length), (k + (v.par.length : Int)), (k + (v.par.length : Int) + 1), (k + (v.par.length : Int) + 1 + 1), v.root, v.non⟩ : Hd) r (mkB (k + (v.par.length : Int) + 1 + 1 + 1) v.root.length) (m := v.root.length) (by simp)
    have m4 := c127 v.root (k + (v.par.length : Int) + 1 + 1 + 1) (by omega) (by omega) (by omega)
    have s5 := hdsO_set5 hi (⟨(mkB (k) v.par.length), (k + (v.par.length : Int)), (k + (v.par.length : Int) + 1), (k + (v.par.length : Int) + 1 + 1), (mkB (k + (v.par.length : Int) + 1 + 1 + 1) v.root.length), v.non⟩ : Hd) r (k + (v.par.length : Int) + 1 + 1 + 1 + (v.root.length : Int))
    have b5 : i * 6 + 5 + (0 + 1) ≤ n * 6 := by omega
    have w5 : IntKind.i64.wrap (k + (v.par.length : Int) + 1 + 1 + 1 + (v.root.length : Int) + 1) = k + (v.par.length : Int) + 1 + 1 + 1 + (v.root.length : Int) + 1 := w64 (by omega) (by omega)
    have hl : ∀ u : Hd, (hdsO (d ++ u :: r)).length = n * 6 := fun u => by rw [hdsO_len]; congr 1; omega
    have e1 : k + (v.par.length : Int) + 1 + 1 + 1 + (v.root.length : Int) + 1 + (hdsC r : Int) = k + ((v.par.length + 1 + 1 + 1 + v.root.length + 1 + hdsC r : Nat) : Int) := by omega
    have e2 : d ++ [hdR k v] ++ hdsM (k + (v.par.length : Int) + 1 + 1 + 1 + (v.root.length : Int) + 1) r = d ++ hdsM k (v :: r) := by simp [hdsM]
    rw [e1, e2] at ih
    simp only [List.append_assoc, List.singleton_append, hdR] at ih
    simp only [Int.ofNat_lt, decide_true, decide_false, cond_true, cond_false, inB_nat, inB_zero, must_true, Int.toNat_natCast, asInt_int, asBool_bool, asSl_sl, asOsl_osl, asStr_str, orcE_R, orcE_W, orcE_L, orcE_X, need_some', asTup_tup, List.getElem?_cons_zero, List.getElem?_cons_succ, Bool.not_true, Bool.not_false, Bool.true_and, Bool.and_true, Bool.false_or, ble_dec, beq_dec, List.length_cons, List.length_nil, Nat.mul_one, Nat.zero_add, Nat.add_zero, Nat.sub_zero, both_self', bytesV_length, bytesV_flat, bytesV_isU8, hlt, q0, asOwn_own, m0, s0, s1, s2, s3, q4, asOwn_own, m4, s4, s5, hl, hw, w1, w2, w3, w5, ih]
    simp only [b1, b2, b3, b5, Int.ofNat_lt, decide_true, decide_false, cond_true, cond_false, inB_nat, inB_zero, must_true, Int.toNat_natCast, asInt_int, asBool_bool, asSl_sl, asOsl_osl, asStr_str, orcE_R, orcE_W, orcE_L, orcE_X, need_some', asTup_tup, List.getElem?_cons_zero, List.getElem?_cons_succ, Bool.not_true, Bool.not_false, Bool.true_and, Bool.and_true, Bool.false_or, ble_dec, beq_dec, List.length_cons, List.length_nil, Nat.mul_one, Nat.zero_add, Nat.add_zero, Nat.sub_zero, both_self', bytesV_length, bytesV_flat, bytesV_isU8]
theorem c65 (l : List Hd) (k : Int) (hk : 0 ≤ k) (hk2 : k < 4611686010427387904) (hf : hdsfit l) :
    runWE C 65 [0] [.ref 0, .int .i64 k] [.nrow [] 28 l.length (hdsO l)] = some (.tup [.int .i64 (k + hdsC l), .osl l.length (hdsO (hdsM k l))]) := by
  refine E65 _ _ _ ?_
  unfold T65
  have := hdsC_le l
  exact l65 l [] k l.length 0 (by simp) rfl hk (by have := hf.1; have := hf.2; omega) (by have := hf.1; omega) (by have := hf.2; omega)
theorem l128 : ∀ (r d : List Hd) (k : Int) (n i : Nat), n = d.length + r.length → i = d.length → 0 ≤ k → k + hdsC r < 4611686017427387904 → n < 1000000000 → tot hdZ r < 1000000000 →
    loopE C 128 0 [true, false, true] [] [(0, V.sl n (hdsS (d ++ hdsM k r))), (1, V.int .i64 k), (5, V.int .i64 (i : Int))] [] = some (.tup [.int .i64 (k + hdsC r)])
  | [], d, k, n, i, hn, hi, hk, hk2, hq, ht => by
    refine E128l1 _ _ _ _ ?_
    unfold T128l1
    have : ¬ i < n := by simp at hn; omega
    simp [this, hdsM, hdsC, tot]
  | v :: r, d, k, n, i, hn, hi, hk, hk2, hq, ht => by
    simp only [List.length_cons] at hn
    have ec : hdsC (v :: r) = hdC v + hdsC r := rfl
    rw [ec] at hk2 ⊢
    simp only [tot, hdZ] at ht
    unfold hdC at hk2 ⊢
    have ih := l128 r (d ++ [hdR k v]) (k + (v.par.length : Int) + 1 + 1 + 1 + (v.root.length : Int) + 1) n (i + 1) (by simp; omega) (by simp; omega) (by omega) (by omega) hq (by omega)
    refine E128l1 _ _ _ _ ?_
    unfold T128l1
    have hlt : i < n := by omega
    have hw := w64_succ (n := i) (by omega)
    simp only [hdsM]
    have g0 := hdsS_at0 hi (hdR k v) (hdsM (k + (v.par.length : Int) + 1 + 1 + 1 + (v.root.length : Int) + 1) r)
    have b0 : i * 6 < n * 6 := by omega
    have m0 := c185 v.par.length (k) (by omega) (by omega) (by omega)
    have f0 : ¬ (k + (v.par.length : Int) < 0) := by omega
    have g1 := hdsS_at1 hi (hdR k v) (hdsM (k + (v.par.length : Int) + 1 + 1 + 1 + (v.root.length : Int) + 1) r)
    have b1 : i * 6 + 1 < n * 6 := by omega
    have w1 : IntKind.i64.wrap (k + (v.par.length : Int) + 1) = k + (v.par.length : Int) + 1 := w64 (by omega) (by omega)
    have g2 := hdsS_at2n hi (hdR k v) (hdsM (k + (v.par.length : Int) + 1 + 1 + 1 + (v.root.length : Int) + 1) r)
    have b2 : i * 6 + 2 < n * 6 := by omega
    have w2 : IntKind.i64.wrap (k + (v.par.length : Int) + 1 + 1) = k + (v.par.length : Int) + 1 + 1 := w64 (by omega) (by omega)
    have g3 := hdsS_at3n hi (hdR k v) (hdsM (k + (v.par.length : Int) + 1 + 1 + 1 + (v.root.length : Int) + 1) r)
    have b3 : i * 6 + 3 < n * 6 := by omega
    have w3 : IntKind.i64.wrap (k + (v.par.length : Int) + 1 + 1 + 1) = k + (v.par.length : Int) + 1 + 1 + 1 := w64 (by omega) (by omega)
    have g4 := hdsS_at4n hi (hdR k v) (hdsM (k + (v.par.length : Int) + 1 + 1 + 1 + (v.root.length : Int) + 1) r)
    have b4 : i * 6 + 4 < n * 6 := by omega
    have m4 := c185 v.root.length (k + (v.par.length : Int) + 1 + 1 + 1) (by omega) (by omega) (by omega)
    have f4 : ¬ (k + (v.par.length : Int) + 1 + 1 + 1 + (v.root.length : Int) < 0) := by omega
    have g5 := hdsS_at5n hi (hdR k v) (hdsM (k + (v.par.length : Int) + 1 + 1 + 1 + (v.root.length : Int) + 1) r)
    have b5 : i * 6 + 5 < n * 6 := by omega
    have w5 : IntKind.i64.wrap (k + (v.par.length : Int) + 1 + 1 + 1 + (v.root.length : Int) + 1) = k + (v.par.length : Int) + 1 + 1 + 1 + (v.root.length : Int) + 1 := w64 (by omega) (by omega)
    have hl : (hdsS (d ++ hdR k v :: hdsM (k + (v.par.length : Int) + 1 + 1 + 1 + (v.root.length : Int) + 1) r)).length = n * 6 := by rw [hdsS_len, hdsM_length]; congr 1; omega
    have e1 : k + (v.par.length : Int) + 1 + 1 + 1 + (v.root.length : Int) + 1 + (hdsC r : Int) = k + ((v.par.length + 1 + 1 + 1 + v.root.length + 1 + hdsC r : Nat) : Int) := by omega
    simp only [List.append_assoc, List.singleton_append, e1] at ih
    simp only [hdR, mkB_length] at g0 g1 g2 g3 g4 g5 hl ih ⊢
    simp only [Int.ofNat_lt, decide_true, decide_false, cond_true, cond_false, inB_nat, inB_zero, must_true, Int.toNat_natCast, asInt_int, asBool_bool, asSl_sl, asOsl_osl, asStr_str, orcE_R, orcE_W, orcE_L, orcE_X, need_some', asTup_tup, List.getElem?_cons_zero, List.getElem?_cons_succ, Bool.not_true, Bool.not_false, Bool.true_and, Bool.and_true, Bool.false_or, ble_dec, beq_dec, List.length_cons, List.length_nil, Nat.mul_one, Nat.zero_add, Nat.add_zero, Nat.sub_zero, both_self', bytesV_length, bytesV_flat, bytesV_isU8, hlt, hl, g0, b0, m0, f0, g1, b1, w1, g2, b2, w2, g3, b3, w3, g4, b4, m4, f4, g5, b5, w5, bne_f, hw, ih]
theorem c128 (l : List Hd) (k : Int) (hk : 0 ≤ k) (hk2 : k < 4611686010427387904) (hf : hdsfit l) :
    runE C 128 [.sl l.length (hdsS (hdsM k l)), .int .i64 k] = some (.tup [.int .i64 (k + hdsC l)]) := by
  refine E128 _ _ _ ?_
  unfold T128
  have := hdsC_le l
  exact l128 l [] k l.length 0 (by simp) rfl hk (by have := hf.1; have := hf.2; omega) (by have := hf.1; omega) (by have := hf.2; omega)
/-! ### clients -/
theorem c20 (l : List Hd) (dep left : Int) (h : l.length ≤ 9223372036854775807) (hv : ∀ v ∈ l, v.par.length ≤ 9223372036854775807 ∧ v.root.length ≤ 9223372036854775807) (h1 : 0 ≤ left) (h2 : left ≤ 4611686018427387904) :
    runE C 20 [.agg [.sl l.length (hdsS l), .int .i64 dep], .int .i64 left] = some (.tup [.int .i64 (less left (l.length + tot hdZ l))]) := by
  refine E20 _ _ _ _ ?_
  unfold T20
  have k := c62 l left h hv h1 h2
  by_cases g : left < ((l.length + tot hdZ l : Nat) : Int)
  · rw [less_lt g] at k ⊢
    simp only [Int.ofNat_lt, decide_true, decide_false, cond_true, cond_false, inB_nat, inB_zero, must_true, Int.toNat_natCast, asInt_int, asBool_bool, asSl_sl, asOsl_osl, asStr_str, orcE_R, orcE_W, orcE_L, orcE_X, need_some', asTup_tup, List.getElem?_cons_zero, List.getElem?_cons_succ, Bool.not_true, Bool.not_false, Bool.true_and, Bool.and_true, Bool.false_or, ble_dec, beq_dec, List.length_cons, List.length_nil, Nat.mul_one, Nat.zero_add, Nat.add_zero, Nat.sub_zero, both_self', bytesV_length, bytesV_flat, bytesV_isU8, k]
    rfl
  · rw [less_ge g] at k ⊢
    have n : ¬ (left - ((l.length + tot hdZ l : Nat) : Int) < 0) := by omega
    simp only [Int.ofNat_lt, decide_true, decide_false, cond_true, cond_false, inB_nat, inB_zero, must_true, Int.toNat_natCast, asInt_int, asBool_bool, asSl_sl, asOsl_osl, asStr_str, orcE_R, orcE_W, orcE_L, orcE_X, need_some', asTup_tup, List.getElem?_cons_zero, List.getElem?_cons_succ, Bool.not_true, Bool.not_false, Bool.true_and, Bool.and_true, Bool.false_or, ble_dec, beq_dec, List.length_cons, List.length_nil, Nat.mul_one, Nat.zero_add, Nat.add_zero, Nat.sub_zero, both_self', bytesV_length, bytesV_flat, bytesV_isU8, k, n]
theorem c21 (l : List Hd) (dep : Int) (hf : hdsfit l) : runE C 21 [.agg [.sl l.length (hdsS l), .int .i64 dep]] = some (.tup [.osl l.length (hdsO l), .int .i64 dep]) := by
  refine E21 _ _ _ ?_
  unfold T21
  simp only [Int.ofNat_lt, decide_true, decide_false, cond_true, cond_false, inB_nat, inB_zero, must_true, Int.toNat_natCast, asInt_int, asBool_bool, asSl_sl, asOsl_osl, asStr_str, orcE_R, orcE_W, orcE_L, orcE_X, need_some', asTup_tup, List.getElem?_cons_zero, List.getElem?_cons_succ, Bool.not_true, Bool.not_false, Bool.true_and, Bool.and_true, Bool.false_or, ble_dec, beq_dec, List.length_cons, List.length_nil, Nat.mul_one, Nat.zero_add, Nat.add_zero, Nat.sub_zero, both_self', bytesV_length, bytesV_flat, bytesV_isU8, c63 l hf]
theorem c23 (l r : List Hd) (a b : Int) (hf : hdsfit l) : runE C 23 [.agg [.sl l.length (hdsS l), .int .i64 a], .agg [.sl r.length (hdsS r), .int .i64 b]] = some (.tup [.bool (decide (l = r ∧ a = b))]) := by
  refine E23 _ _ _ _ _ _ ?_
  unfold T23
  simp only [Int.ofNat_lt, decide_true, decide_false, cond_true, cond_false, inB_nat, inB_zero, must_true, Int.toNat_natCast, asInt_int, asBool_bool, asSl_sl, asOsl_osl, asStr_str, orcE_R, orcE_W, orcE_L, orcE_X, need_some', asTup_tup, List.getElem?_cons_zero, List.getElem?_cons_succ, Bool.not_true, Bool.not_false, Bool.true_and, Bool.and_true, Bool.false_or, ble_dec, beq_dec, List.length_cons, List.length_nil, Nat.mul_one, Nat.zero_add, Nat.add_zero, Nat.sub_zero, both_self', bytesV_length, bytesV_flat, bytesV_isU8, c64 l r hf]
  by_cases e1 : l = r <;> by_cases e2 : a = b <;> simp [e1, e2, bne_t]
theorem c22 (c c' : Int) (l r : List Hd) (a b : Int) (hf : hdsfit l) : runE C 22 [.agg [.int .i64 c, .sl l.length (hdsS l), .int .i64 a], .agg [.int .i64 c', .sl r.length (hdsS r), .int .i64 b]] = some (.tup [.bool (decide (c = c' ∧ l = r ∧ a = b))]) := by
  refine E22 _ _ _ _ _ _ _ _ ?_
  unfold T22
  simp only [Int.ofNat_lt, decide_true, decide_false, cond_true, cond_false, inB_nat, inB_zero, must_true, Int.toNat_natCast, asInt_int, asBool_bool, asSl_sl, asOsl_osl, asStr_str, orcE_R, orcE_W, orcE_L, orcE_X, need_some', asTup_tup, List.getElem?_cons_zero, List.getElem?_cons_succ, Bool.not_true, Bool.not_false, Bool.true_and, Bool.and_true, Bool.false_or, ble_dec, beq_dec, List.length_cons, List.length_nil, Nat.mul_one, Nat.zero_add, Nat.add_zero, Nat.sub_zero, both_self', bytesV_length, bytesV_flat, bytesV_isU8, c23 l r a b hf]
  by_cases e0 : c = c' <;> by_cases e1 : l = r <;> by_cases e2 : a = b <;> simp [e0, e1, e2, bne_t]
theorem c24 (l : List Hd) (dep k : Int) (hk : 0 ≤ k) (hk2 : k < 4611686010427387904) (hf : hdsfit l) :
    runWE C 24 [0] [.agg [.ref 0, .int .i64 dep], .int .i64 k] [.nrow [] 28 l.length (hdsO l)] = some (.tup [.int .i64 (k + hdsC l), .osl l.length (hdsO (hdsM k l))]) := by
  refine E24 _ _ _ _ ?_
  unfold T24
  simp only [Int.ofNat_lt, decide_true, decide_false, cond_true, cond_false, inB_nat, inB_zero, must_true, Int.toNat_natCast, asInt_int, asBool_bool, asSl_sl, asOsl_osl, asStr_str, orcE_R, orcE_W, orcE_L, orcE_X, need_some', asTup_tup, List.getElem?_cons_zero, List.getElem?_cons_succ, Bool.not_true, Bool.not_false, Bool.true_and, Bool.and_true, Bool.false_or, ble_dec, beq_dec, List.length_cons, List.length_nil, Nat.mul_one, Nat.zero_add, Nat.add_zero, Nat.sub_zero, both_self', bytesV_length, bytesV_flat, bytesV_isU8, c65 l k hk hk2 hf]
theorem c25 (c : Int) (l : List Hd) (dep k : Int) (hk : 0 ≤ k) (hk2 : k < 4611686010427387904) (hf : hdsfit l) :
    runWE C 25 [0] [.agg [.int .i64 c, .ref 0, .int .i64 dep], .int .i64 k] [.nrow [] 28 l.length (hdsO l)] = some (.tup [.int .i64 (k + hdsC l), .osl l.length (hdsO (hdsM k l))]) := by
  refine E25 _ _ _ _ _ ?_
  unfold T25
  simp only [Int.ofNat_lt, decide_true, decide_false, cond_true, cond_false, inB_nat, inB_zero, must_true, Int.toNat_natCast, asInt_int, asBool_bool, asSl_sl, asOsl_osl, asStr_str, orcE_R, orcE_W, orcE_L, orcE_X, need_some', asTup_tup, List.getElem?_cons_zero, List.getElem?_cons_succ, Bool.not_true, Bool.not_false, Bool.true_and, Bool.and_true, Bool.false_or, ble_dec, beq_dec, List.length_cons, List.length_nil, Nat.mul_one, Nat.zero_add, Nat.add_zero, Nat.sub_zero, both_self', bytesV_length, bytesV_flat, bytesV_isU8, c24 l dep k hk hk2 hf]
theorem c66 (l : List Hd) (dep k : Int) (hk : 0 ≤ k) (hk2 : k < 4611686010427387904) (hf : hdsfit l) :
    runE C 66 [.agg [.sl l.length (hdsS (hdsM k l)), .int .i64 dep], .int .i64 k] = some (.tup [.int .i64 (k + hdsC l)]) := by
  refine E66 _ _ _ _ ?_
  unfold T66
  have n : ¬ (k + (hdsC l : Int) < 0) := by omega
  simp only [Int.ofNat_lt, decide_true, decide_false, cond_true, cond_false, inB_nat, inB_zero, must_true, Int.toNat_natCast, asInt_int, asBool_bool, asSl_sl, asOsl_osl, asStr_str, orcE_R, orcE_W, orcE_L, orcE_X, need_some', asTup_tup, List.getElem?_cons_zero, List.getElem?_cons_succ, Bool.not_true, Bool.not_false, Bool.true_and, Bool.and_true, Bool.false_or, ble_dec, beq_dec, List.length_cons, List.length_nil, Nat.mul_one, Nat.zero_add, Nat.add_zero, Nat.sub_zero, both_self', bytesV_length, bytesV_flat, bytesV_isU8, c128 l k hk hk2 hf, n]
theorem c26 (c : Int) (l : List Hd) (dep k : Int) (hk : 0 ≤ k) (hk2 : k < 4611686010427387904) (hf : hdsfit l) :
    runE C 26 [.agg [.int .i64 c, .sl l.length (hdsS (hdsM k l)), .int .i64 dep], .int .i64 k] = some (.tup [.int .i64 (k + hdsC l)]) := by
  refine E26 _ _ _ _ _ ?_
  unfold T26
  have n : ¬ (k + (hdsC l : Int) < 0) := by omega
  simp only [Int.ofNat_lt, decide_true, decide_false, cond_true, cond_false, inB_nat, inB_zero, must_true, Int.toNat_natCast, asInt_int, asBool_bool, asSl_sl, asOsl_osl, asStr_str, orcE_R, orcE_W, orcE_L, orcE_X, need_some', asTup_tup, List.getElem?_cons_zero, List.getElem?_cons_succ, Bool.not_true, Bool.not_false, Bool.true_and, Bool.and_true, Bool.false_or, ble_dec, beq_dec, List.length_cons, List.length_nil, Nat.mul_one, Nat.zero_add, Nat.add_zero, Nat.sub_zero, both_self', bytesV_length, bytesV_flat, bytesV_isU8, c66 l dep k hk hk2 hf, n]
theorem l40 (dep : Int) : ∀ (r d : List Hd) (n i : Nat), n = d.length + r.length → i = d.length → n < 1000000000 → tot hdZ r ≤ 100000000 →
    loopE C 40 0 [true, true, false, true] [] [(4, V.ptr 0 0), (5, V.ptr 2 0), (10, V.sl n (hdsS (d ++ r))), (11, V.int .i64 (n : Int)), (12, V.int .i64 (i : Int))] [Ob.box 26 [V.ref 1, V.int .i64 0] false, Ob.nrow [] 28 0 [], Ob.box 26 [V.ref 3, V.int .i64 dep] false, Ob.nrow [] 28 i (hdsO d)] = some (.tup [.osl n (hdsO (d ++ r)), .int .i64 dep])
  | [], d, n, i, hn, hi, hq, ht => by
    refine E40l1 _ _ _ _ _ _ _ _ _ _ ?_
    unfold T40l1
    have e : i = n := by simp at hn; omega
    have : ¬ n < n := by omega
    subst e
    simp [this]
  | b :: r, d, n, i, hn, hi, hq, ht => by
    simp only [List.length_cons] at hn
    simp only [tot] at ht
    have ih := l40 dep r (d ++ [b]) n (i + 1) (by simp; omega) (by simp; omega) hq (by omega)
    refine E40l1 _ _ _ _ _ _ _ _ _ _ ?_
    unfold T40l1
    have hlt : i < n := by omega
    have hw := w64_succ (n := i) (by omega)
    have g0 := hdsS_at0 hi b r
    have g1 := hdsS_at1 hi b r
    have g2 := hdsS_at2 hi b r
    have g3 := hdsS_at3 hi b r
    have g4 := hdsS_at4 hi b r
    have g5 := hdsS_at5 hi b r
    have d1 : i + 1 ≤ 140737488355328 := by omega
    have d2 : (i + 1) * 80 ≤ 140737488355328 := by omega
    simp only [List.append_assoc, List.singleton_append] at ih
    simp only [Int.ofNat_lt, decide_true, decide_false, cond_true, cond_false, inB_nat, inB_zero, must_true, Int.toNat_natCast, asInt_int, asBool_bool, asSl_sl, asOsl_osl, asStr_str, orcE_R, orcE_W, orcE_L, orcE_X, need_some', asTup_tup, List.getElem?_cons_zero, List.getElem?_cons_succ, Bool.not_true, Bool.not_false, Bool.true_and, Bool.and_true, Bool.false_or, ble_dec, beq_dec, List.length_cons, List.length_nil, Nat.mul_one, Nat.zero_add, Nat.add_zero, Nat.sub_zero, both_self', bytesV_length, bytesV_flat, bytesV_isU8, hlt, g0, g1, g2, g3, g4, g5, c98 b (by unfold hdfit; omega), hw, d1, d2, hdsO_snoc, ih]
theorem c40 (l : List Hd) (dep : Int) (hf : hdsfit l) : runE C 40 [.sl l.length (hdsS l), .int .i64 dep] = some (.tup [.osl l.length (hdsO l), .int .i64 dep]) := by
  refine E40 _ _ _ ?_
  unfold T40
  exact l40 dep l [] l.length 0 (by simp) rfl (by have := hf.1; omega) hf.2
end Go.Proofs.YtehpmolckdmibaaGreat.Cli
