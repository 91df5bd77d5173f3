/-
  One-time signatures: chains, secrets, public leaves, digits, signatures, both sides.
-/
import Derived.Test.YtehpmolckdmibaaPLTreeTG
namespace Go.Proofs.Ytehpmolckdmibaa.Tree
open Go Go.PI Go.PI.Sha Go.PI.Rel Go.PI.Nest Go.PI.Tru Go.PI.Set Go.PI.Tree Go.Proofs.Ytehpmolckdmibaa.Sha Go.Proofs.Ytehpmolckdmibaa.By Go.Proofs.Ytehpmolckdmibaa.Nest Go.Proofs.Ytehpmolckdmibaa.Set EqG
set_option maxHeartbeats 1000000
set_option linter.unusedVariables false
set_option linter.unusedSimpArgs false
theorem u64n {n : Nat} (h : n < 9223372036854775808) : IntKind.u64.wrap (n : Int) = (n : Int) := IntWalk.u64_in _ (by omega)
theorem bytesV_b8 (a b : Int) : bytesV [b8 a, b8 b] = [V.int .u8 (IntKind.u8.wrap a), V.int .u8 (IntKind.u8.wrap b)] := by rw [wrap_b8, wrap_b8]; rfl
theorem c272 (l : List UInt8) (h : l.length ≤ 1000000) : runE C 272 [.sl l.length (bytesV l)] = some (.tup [.osl l.length (bytesV l)]) := by
  refine E272 _ _ ?_
  unfold T272
  have d1 : l.length ≤ 140737488355328 := by omega
  simp only [Int.ofNat_lt, decide_true, decide_false, cond_true, cond_false, inB_nat, inB_zero, must_true, Int.toNat_natCast, asInt_int, asBool_bool, asSl_sl, asOsl_osl, asStr_str, orcE_R, orcE_W, orcE_L, orcE_X, need_some', asTup_tup, List.getElem?_cons_zero, List.getElem?_cons_succ, Bool.not_true, Bool.not_false, Bool.true_and, Bool.and_true, Bool.false_or, ble_dec, beq_dec, List.length_cons, List.length_nil, Nat.mul_one, Nat.zero_add, Nat.add_zero, Nat.sub_zero, both_self', bytesV_length, bytesV_flat, bytesV_isU8, d1]
  by_cases h0 : l = []
  · subst h0; simp [bytesV]
  · have h1 : l.length ≠ 0 := by simpa using h0
    simp [h1]
/-! ### impl -/
theorem l214 : ∀ (r n i : Nat) (x : List UInt8), n = i + r → n ≤ 1000000 → x.length ≤ 1000 →
    loopE C 214 0 [true, true, false, true] [] [(0, V.ref 0), (7, V.int .i64 (n : Int)), (8, V.int .i64 (i : Int))] [Ob.row 5 x.length (bytesV x) false] = some (.tup [.osl (climb x r).length (bytesV (climb x r))])
  | 0, n, i, x, hn, hq, hx => by
    refine E214l1 _ _ _ _ ?_
    unfold T214l1
    have : ¬ i < n := by omega
    simp only [Int.ofNat_lt, decide_true, decide_false, cond_true, cond_false, inB_nat, inB_zero, must_true, Int.toNat_natCast, asInt_int, asBool_bool, asSl_sl, asOsl_osl, asStr_str, orcE_R, orcE_W, orcE_L, orcE_X, need_some', asTup_tup, List.getElem?_cons_zero, List.getElem?_cons_succ, Bool.not_true, Bool.not_false, Bool.true_and, Bool.and_true, Bool.false_or, ble_dec, beq_dec, List.length_cons, List.length_nil, Nat.mul_one, Nat.zero_add, Nat.add_zero, Nat.sub_zero, both_self', bytesV_length, bytesV_flat, bytesV_isU8, this, climb]
  | r + 1, n, i, x, hn, hq, hx => by
    have hlt : i < n := by omega
    have hw := w64_succ (n := i) (by omega)
    have k := g216 stepTag [x] (by decide) (by simp) (by simp; omega)
    rw [show [x].flatten = x by simp] at k
    have k : runE C 216 [V.str { data := #[(115 : UInt8), (116 : UInt8), (101 : UInt8), (112 : UInt8)] }, V.sl 1 [V.sl x.length (bytesV x)]] = some (.tup [.osl 32 (bytesV (dg stepTag (x)))]) := k
    have ih := l214 r n (i + 1) (dg stepTag x) (by omega) hq (by rw [dg_length]; decide)
    rw [dg_length] at ih
    refine E214l1 _ _ _ _ ?_
    unfold T214l1
    simp only [Int.ofNat_lt, decide_true, decide_false, cond_true, cond_false, inB_nat, inB_zero, must_true, Int.toNat_natCast, asInt_int, asBool_bool, asSl_sl, asOsl_osl, asStr_str, orcE_R, orcE_W, orcE_L, orcE_X, need_some', asTup_tup, List.getElem?_cons_zero, List.getElem?_cons_succ, Bool.not_true, Bool.not_false, Bool.true_and, Bool.and_true, Bool.false_or, ble_dec, beq_dec, List.length_cons, List.length_nil, Nat.mul_one, Nat.zero_add, Nat.add_zero, Nat.sub_zero, both_self', bytesV_length, bytesV_flat, bytesV_isU8, hlt, k, hw, ih, climb]
theorem c214 (x : List UInt8) (n : Nat) (hn : n ≤ 1000000) (hx : x.length ≤ 1000) : runE C 214 [.sl x.length (bytesV x), .int .i64 (n : Int)] = some (.tup [.osl (climb x n).length (bytesV (climb x n))]) := by
  refine E214 _ _ _ ?_
  unfold T214
  have ih := l214 n n 0 x (by omega) hn hx
  simp only [Int.ofNat_lt, decide_true, decide_false, cond_true, cond_false, inB_nat, inB_zero, must_true, Int.toNat_natCast, asInt_int, asBool_bool, asSl_sl, asOsl_osl, asStr_str, orcE_R, orcE_W, orcE_L, orcE_X, need_some', asTup_tup, List.getElem?_cons_zero, List.getElem?_cons_succ, Bool.not_true, Bool.not_false, Bool.true_and, Bool.and_true, Bool.false_or, ble_dec, beq_dec, List.length_cons, List.length_nil, Nat.mul_one, Nat.zero_add, Nat.add_zero, Nat.sub_zero, both_self', bytesV_length, bytesV_flat, bytesV_isU8, c272 x (by omega)]
  exact ih
theorem c215 (seed : List UInt8) (leaf chain : Nat) (h : seed.length ≤ 1000) : runE C 215 [.sl seed.length (bytesV seed), .int .i64 (leaf : Int), .int .i64 (chain : Int)] = some (.tup [.osl 32 (bytesV (secr seed leaf chain))]) := by
  refine E215 _ _ _ _ ?_
  unfold T215
  have k := g216 keyTag [seed, [b8 (leaf : Int), b8 (chain : Int)]] (by decide) (by simp) (by simp; omega)
  rw [show [seed, [b8 (leaf : Int), b8 (chain : Int)]].flatten = seed ++ [b8 (leaf : Int), b8 (chain : Int)] by simp] at k
  have e : psS [seed, [b8 (leaf : Int), b8 (chain : Int)]] = [V.sl seed.length (bytesV seed), V.sl 2 (bytesV [b8 (leaf : Int), b8 (chain : Int)])] := rfl
  rw [e, bytesV_b8] at k
  have k : runE C 216 [V.str { data := #[(107 : UInt8), (101 : UInt8), (121 : UInt8)] }, V.sl 2 [V.sl seed.length (bytesV seed), V.sl 2 [V.int .u8 (IntKind.u8.wrap (leaf : Int)), V.int .u8 (IntKind.u8.wrap (chain : Int))]]] = some (.tup [.osl 32 (bytesV (secr seed leaf chain))]) := k
  simp only [Int.ofNat_lt, decide_true, decide_false, cond_true, cond_false, inB_nat, inB_zero, must_true, Int.toNat_natCast, asInt_int, asBool_bool, asSl_sl, asOsl_osl, asStr_str, orcE_R, orcE_W, orcE_L, orcE_X, need_some', asTup_tup, List.getElem?_cons_zero, List.getElem?_cons_succ, Bool.not_true, Bool.not_false, Bool.true_and, Bool.and_true, Bool.false_or, ble_dec, beq_dec, List.length_cons, List.length_nil, Nat.mul_one, Nat.zero_add, Nat.add_zero, Nat.sub_zero, both_self', bytesV_length, bytesV_flat, bytesV_isU8, k]
/-! ### spec -/
theorem m276 : ∀ (r : Nat) (x : List UInt8), r ≤ 1000000 → x.length ≤ 1000 →
    loopE C 276 0 [true, false] [] [(0, V.ref 0), (1, V.int .i64 (r : Int))] [Ob.row 5 x.length (bytesV x) false] = some (.tup [.osl (climb x r).length (bytesV (climb x r))])
  | 0, x, hq, hx => by
    refine E276l2 _ _ _ ?_
    unfold T276l2
    have d1 : x.length ≤ 140737488355328 := by omega
    have t1 : decide (((0 : Nat) : Int) > 0) = false := rfl
    simp only [t1, Int.ofNat_lt, decide_true, decide_false, cond_true, cond_false, inB_nat, inB_zero, must_true, Int.toNat_natCast, asInt_int, asBool_bool, asSl_sl, asOsl_osl, asStr_str, orcE_R, orcE_W, orcE_L, orcE_X, need_some', asTup_tup, List.getElem?_cons_zero, List.getElem?_cons_succ, Bool.not_true, Bool.not_false, Bool.true_and, Bool.and_true, Bool.false_or, ble_dec, beq_dec, List.length_cons, List.length_nil, Nat.mul_one, Nat.zero_add, Nat.add_zero, Nat.sub_zero, both_self', bytesV_length, bytesV_flat, bytesV_isU8, d1, climb]
  | r + 1, x, hq, hx => by
    have hp : ((r + 1 : Nat) : Int) > 0 := by omega
    have hw : IntKind.i64.wrap (((r + 1 : Nat) : Int) - 1) = (r : Int) := by rw [w64 (by omega) (by omega)]; omega
    have k := c244 stepTag (x) (by decide) (by (try simp); omega)
    have k : runE C 244 [V.str { data := #[(115 : UInt8), (116 : UInt8), (101 : UInt8), (112 : UInt8)] }, V.sl (x).length (bytesV (x))] = some (.tup [.osl 32 (bytesV (dg stepTag (x)))]) := k
    have ih := m276 r (dg stepTag x) (by omega) (by rw [dg_length]; decide)
    rw [dg_length] at ih
    refine E276l2 _ _ _ ?_
    unfold T276l2
    simp only [decide_eq_true hp, Int.ofNat_lt, decide_true, decide_false, cond_true, cond_false, inB_nat, inB_zero, must_true, Int.toNat_natCast, asInt_int, asBool_bool, asSl_sl, asOsl_osl, asStr_str, orcE_R, orcE_W, orcE_L, orcE_X, need_some', asTup_tup, List.getElem?_cons_zero, List.getElem?_cons_succ, Bool.not_true, Bool.not_false, Bool.true_and, Bool.and_true, Bool.false_or, ble_dec, beq_dec, List.length_cons, List.length_nil, Nat.mul_one, Nat.zero_add, Nat.add_zero, Nat.sub_zero, both_self', bytesV_length, bytesV_flat, bytesV_isU8, k, hw, ih, climb]
theorem c276 (x : List UInt8) (n : Nat) (hn : n ≤ 1000000) (hx : x.length ≤ 1000) : runE C 276 [.sl x.length (bytesV x), .int .i64 (n : Int)] = some (.tup [.osl (climb x n).length (bytesV (climb x n))]) := by
  refine E276 _ _ _ ?_
  unfold T276
  refine E276l1 _ _ _ ?_
  unfold T276l1
  cases n with
  | zero =>
    have d1 : x.length ≤ 140737488355328 := by omega
    have t1 : decide (((0 : Nat) : Int) > 0) = false := rfl
    simp only [t1, Int.ofNat_lt, decide_true, decide_false, cond_true, cond_false, inB_nat, inB_zero, must_true, Int.toNat_natCast, asInt_int, asBool_bool, asSl_sl, asOsl_osl, asStr_str, orcE_R, orcE_W, orcE_L, orcE_X, need_some', asTup_tup, List.getElem?_cons_zero, List.getElem?_cons_succ, Bool.not_true, Bool.not_false, Bool.true_and, Bool.and_true, Bool.false_or, ble_dec, beq_dec, List.length_cons, List.length_nil, Nat.mul_one, Nat.zero_add, Nat.add_zero, Nat.sub_zero, both_self', bytesV_length, bytesV_flat, bytesV_isU8, d1, climb]
  | succ r =>
    have hp : ((r + 1 : Nat) : Int) > 0 := by omega
    have hw : IntKind.i64.wrap (((r + 1 : Nat) : Int) - 1) = (r : Int) := by rw [w64 (by omega) (by omega)]; omega
    have k := c244 stepTag (x) (by decide) (by (try simp); omega)
    have k : runE C 244 [V.str { data := #[(115 : UInt8), (116 : UInt8), (101 : UInt8), (112 : UInt8)] }, V.sl (x).length (bytesV (x))] = some (.tup [.osl 32 (bytesV (dg stepTag (x)))]) := k
    have ih := m276 r (dg stepTag x) (by omega) (by rw [dg_length]; decide)
    rw [dg_length] at ih
    simp only [decide_eq_true hp, Int.ofNat_lt, decide_true, decide_false, cond_true, cond_false, inB_nat, inB_zero, must_true, Int.toNat_natCast, asInt_int, asBool_bool, asSl_sl, asOsl_osl, asStr_str, orcE_R, orcE_W, orcE_L, orcE_X, need_some', asTup_tup, List.getElem?_cons_zero, List.getElem?_cons_succ, Bool.not_true, Bool.not_false, Bool.true_and, Bool.and_true, Bool.false_or, ble_dec, beq_dec, List.length_cons, List.length_nil, Nat.mul_one, Nat.zero_add, Nat.add_zero, Nat.sub_zero, both_self', bytesV_length, bytesV_flat, bytesV_isU8, k, hw, ih, climb]
theorem c277 (seed : List UInt8) (leaf chain : Nat) (h : seed.length ≤ 1000) : runE C 277 [.sl seed.length (bytesV seed), .int .i64 (leaf : Int), .int .i64 (chain : Int)] = some (.tup [.osl 32 (bytesV (secr seed leaf chain))]) := by
  refine E277 _ _ _ _ ?_
  unfold T277
  have k := c244 keyTag (seed ++ [b8 (leaf : Int), b8 (chain : Int)]) (by decide) (by simp; omega)
  have e : bytesV (seed ++ [b8 (leaf : Int), b8 (chain : Int)]) = bytesV seed ++ [V.int .u8 (IntKind.u8.wrap (leaf : Int)), V.int .u8 (IntKind.u8.wrap (chain : Int))] := by rw [bytesV_append, bytesV_b8]
  have el : (seed ++ [b8 (leaf : Int), b8 (chain : Int)]).length = seed.length + 2 := by simp
  rw [e, el] at k
  have k : runE C 244 [V.str { data := #[(107 : UInt8), (101 : UInt8), (121 : UInt8)] }, V.sl (seed.length + 2) (bytesV seed ++ [V.int .u8 (IntKind.u8.wrap (leaf : Int)), V.int .u8 (IntKind.u8.wrap (chain : Int))])] = some (.tup [.osl 32 (bytesV (secr seed leaf chain))]) := k
  have d1 : seed.length ≤ 140737488355328 := by omega
  have d2 : seed.length + 2 ≤ 140737488355328 := by omega
  simp only [Int.ofNat_lt, decide_true, decide_false, cond_true, cond_false, inB_nat, inB_zero, must_true, Int.toNat_natCast, asInt_int, asBool_bool, asSl_sl, asOsl_osl, asStr_str, orcE_R, orcE_W, orcE_L, orcE_X, need_some', asTup_tup, List.getElem?_cons_zero, List.getElem?_cons_succ, Bool.not_true, Bool.not_false, Bool.true_and, Bool.and_true, Bool.false_or, ble_dec, beq_dec, List.length_cons, List.length_nil, Nat.mul_one, Nat.zero_add, Nat.add_zero, Nat.sub_zero, both_self', bytesV_length, bytesV_flat, bytesV_isU8, d1, d2, k]
/-! ### public leaves, impl -/
theorem l222 (seed : List UInt8) (leaf : Nat) (h : seed.length ≤ 1000) : ∀ (r c : Nat) (x : List UInt8), c + r = 19 → x.length = 32 * c →
    loopE C 222 0 [true, true, false, true] [] [(0, V.sl seed.length (bytesV seed)), (1, V.int .i64 (leaf : Int)), (5, V.ref 0), (8, V.int .i64 (c : Int))] [Ob.row 5 x.length (bytesV x) false] = some (.tup [.osl (x ++ endsF seed leaf r c).length (bytesV (x ++ endsF seed leaf r c))])
  | 0, c, x, hc, hx => by
    refine E222l1 _ _ _ _ _ _ ?_
    unfold T222l1
    have : ¬ ((c : Int) < 19) := by omega
    simp only [decide_eq_false this, Int.ofNat_lt, decide_true, decide_false, cond_true, cond_false, inB_nat, inB_zero, must_true, Int.toNat_natCast, asInt_int, asBool_bool, asSl_sl, asOsl_osl, asStr_str, orcE_R, orcE_W, orcE_L, orcE_X, need_some', asTup_tup, List.getElem?_cons_zero, List.getElem?_cons_succ, Bool.not_true, Bool.not_false, Bool.true_and, Bool.and_true, Bool.false_or, ble_dec, beq_dec, List.length_cons, List.length_nil, Nat.mul_one, Nat.zero_add, Nat.add_zero, Nat.sub_zero, both_self', bytesV_length, bytesV_flat, bytesV_isU8, endsF, List.append_nil]
  | r + 1, c, x, hc, hx => by
    have hlt : ((c : Int) < 19) := by omega
    have hw := w64_succ (n := c) (by omega)
    have k1 := c215 seed leaf c h
    have k2 := c214 (secr seed leaf c) 3 (by decide) (by rw [secr_length]; decide)
    rw [secr_length, climb_length (secr_length _ _ _)] at k2
    have k2 : runE C 214 [.sl 32 (bytesV (secr seed leaf c)), .int .i64 3] = _ := k2
    have ih := l222 seed leaf h r (c + 1) (x ++ climb (secr seed leaf c) 3) (by omega) (by rw [List.length_append, climb_length (secr_length _ _ _), hx]; omega)
    have el : (x ++ climb (secr seed leaf c) 3).length = x.length + 32 := by rw [List.length_append, climb_length (secr_length _ _ _)]
    have cl : (bytesV (climb (secr seed leaf c) 3)).length = 32 := by rw [bytesV_length, climb_length (secr_length _ _ _)]
    have d1 : x.length + 32 ≤ 140737488355328 := by omega
    rw [el, bytesV_append, List.append_assoc] at ih
    refine E222l1 _ _ _ _ _ _ ?_
    unfold T222l1
    simp only [decide_eq_true hlt, Int.ofNat_lt, decide_true, decide_false, cond_true, cond_false, inB_nat, inB_zero, must_true, Int.toNat_natCast, asInt_int, asBool_bool, asSl_sl, asOsl_osl, asStr_str, orcE_R, orcE_W, orcE_L, orcE_X, need_some', asTup_tup, List.getElem?_cons_zero, List.getElem?_cons_succ, Bool.not_true, Bool.not_false, Bool.true_and, Bool.and_true, Bool.false_or, ble_dec, beq_dec, List.length_cons, List.length_nil, Nat.mul_one, Nat.zero_add, Nat.add_zero, Nat.sub_zero, both_self', bytesV_length, bytesV_flat, bytesV_isU8, k1, k2, climb_length (secr_length _ _ _), d1, hw, ih, endsF]
theorem c222 (seed : List UInt8) (leaf : Nat) (h : seed.length ≤ 1000) : runE C 222 [.sl seed.length (bytesV seed), .int .i64 (leaf : Int)] = some (.tup [.osl 608 (bytesV (pubLeaf seed leaf))]) := by
  refine E222 _ _ _ ?_
  unfold T222
  have k := l222 seed leaf h 19 0 [] rfl rfl
  rw [List.nil_append, endsF_length] at k
  exact k
theorem l146 (seed : List UInt8) (h : seed.length ≤ 1000) : ∀ (r c : Nat) (d : List (List UInt8)), c + r = 4 → d.length = c →
    loopE C 146 0 [true, true, false, true] [] [(0, V.sl seed.length (bytesV seed)), (3, V.ref 0), (6, V.int .i64 (c : Int))] [Ob.nrow [] 22 d.length (psO d)] = some (.tup [.osl (d ++ leavesF seed r c).length (psO (d ++ leavesF seed r c))])
  | 0, c, d, hc, hd => by
    refine E146l1 _ _ _ _ _ ?_
    unfold T146l1
    have : ¬ ((c : Int) < 4) := by omega
    simp only [decide_eq_false this, Int.ofNat_lt, decide_true, decide_false, cond_true, cond_false, inB_nat, inB_zero, must_true, Int.toNat_natCast, asInt_int, asBool_bool, asSl_sl, asOsl_osl, asStr_str, orcE_R, orcE_W, orcE_L, orcE_X, need_some', asTup_tup, List.getElem?_cons_zero, List.getElem?_cons_succ, Bool.not_true, Bool.not_false, Bool.true_and, Bool.and_true, Bool.false_or, ble_dec, beq_dec, List.length_cons, List.length_nil, Nat.mul_one, Nat.zero_add, Nat.add_zero, Nat.sub_zero, both_self', bytesV_length, bytesV_flat, bytesV_isU8, leavesF, List.append_nil]
  | r + 1, c, d, hc, hd => by
    have hlt : ((c : Int) < 4) := by omega
    have hw := w64_succ (n := c) (by omega)
    have k1 := c222 seed c h
    have ih := l146 seed h r (c + 1) (d ++ [pubLeaf seed c]) (by omega) (by simp; omega)
    rw [List.length_append, List.length_singleton, List.append_assoc] at ih
    have d1 : d.length + 1 ≤ 140737488355328 := by omega
    have d2 : (d.length + 1) * 24 ≤ 140737488355328 := by omega
    refine E146l1 _ _ _ _ _ ?_
    unfold T146l1
    simp only [decide_eq_true hlt, Int.ofNat_lt, decide_true, decide_false, cond_true, cond_false, inB_nat, inB_zero, must_true, Int.toNat_natCast, asInt_int, asBool_bool, asSl_sl, asOsl_osl, asStr_str, orcE_R, orcE_W, orcE_L, orcE_X, need_some', asTup_tup, List.getElem?_cons_zero, List.getElem?_cons_succ, Bool.not_true, Bool.not_false, Bool.true_and, Bool.and_true, Bool.false_or, ble_dec, beq_dec, List.length_cons, List.length_nil, Nat.mul_one, Nat.zero_add, Nat.add_zero, Nat.sub_zero, both_self', bytesV_length, bytesV_flat, bytesV_isU8, k1, d1, d2, psO_snoc' _ _ (pubLeaf_length _ _), hw, ih, leavesF]
    rfl
theorem c146 (seed : List UInt8) (h : seed.length ≤ 1000) : runE C 146 [.sl seed.length (bytesV seed)] = some (.tup [.osl 4 (psO (leaves seed))]) := by
  refine E146 _ _ ?_
  unfold T146
  have k := l146 seed h 4 0 [] rfl rfl
  rw [List.nil_append, leavesF_length] at k
  exact k
/-! ### public leaves, spec -/
theorem l299 (seed : List UInt8) (leaf : Nat) (h : seed.length ≤ 1000) : ∀ (r c : Nat) (x : List UInt8), c + r = 19 → x.length = 32 * c →
    loopE C 299 0 [true, true, false, true] [] [(0, V.sl seed.length (bytesV seed)), (1, V.int .i64 (leaf : Int)), (5, V.ref 0), (6, V.int .i64 (c : Int))] [Ob.row 5 x.length (bytesV x) false] = some (.tup [.osl (x ++ endsF seed leaf r c).length (bytesV (x ++ endsF seed leaf r c))])
  | 0, c, x, hc, hx => by
    refine E299l1 _ _ _ _ _ _ ?_
    unfold T299l1
    have : ¬ ((c : Int) < 19) := by omega
    simp only [decide_eq_false this, Int.ofNat_lt, decide_true, decide_false, cond_true, cond_false, inB_nat, inB_zero, must_true, Int.toNat_natCast, asInt_int, asBool_bool, asSl_sl, asOsl_osl, asStr_str, orcE_R, orcE_W, orcE_L, orcE_X, need_some', asTup_tup, List.getElem?_cons_zero, List.getElem?_cons_succ, Bool.not_true, Bool.not_false, Bool.true_and, Bool.and_true, Bool.false_or, ble_dec, beq_dec, List.length_cons, List.length_nil, Nat.mul_one, Nat.zero_add, Nat.add_zero, Nat.sub_zero, both_self', bytesV_length, bytesV_flat, bytesV_isU8, endsF, List.append_nil]
  | r + 1, c, x, hc, hx => by
    have hlt : ((c : Int) < 19) := by omega
    have hw := w64_succ (n := c) (by omega)
    have k1 := c277 seed leaf c h
    have k2 := c276 (secr seed leaf c) 3 (by decide) (by rw [secr_length]; decide)
    rw [secr_length, climb_length (secr_length _ _ _)] at k2
    have k2 : runE C 276 [.sl 32 (bytesV (secr seed leaf c)), .int .i64 3] = _ := k2
    have ih := l299 seed leaf h r (c + 1) (x ++ climb (secr seed leaf c) 3) (by omega) (by rw [List.length_append, climb_length (secr_length _ _ _), hx]; omega)
    have el : (x ++ climb (secr seed leaf c) 3).length = x.length + 32 := by rw [List.length_append, climb_length (secr_length _ _ _)]
    have cl : (bytesV (climb (secr seed leaf c) 3)).length = 32 := by rw [bytesV_length, climb_length (secr_length _ _ _)]
    have d1 : x.length + 32 ≤ 140737488355328 := by omega
    rw [el, bytesV_append, List.append_assoc] at ih
    refine E299l1 _ _ _ _ _ _ ?_
    unfold T299l1
    simp only [decide_eq_true hlt, Int.ofNat_lt, decide_true, decide_false, cond_true, cond_false, inB_nat, inB_zero, must_true, Int.toNat_natCast, asInt_int, asBool_bool, asSl_sl, asOsl_osl, asStr_str, orcE_R, orcE_W, orcE_L, orcE_X, need_some', asTup_tup, List.getElem?_cons_zero, List.getElem?_cons_succ, Bool.not_true, Bool.not_false, Bool.true_and, Bool.and_true, Bool.false_or, ble_dec, beq_dec, List.length_cons, List.length_nil, Nat.mul_one, Nat.zero_add, Nat.add_zero, Nat.sub_zero, both_self', bytesV_length, bytesV_flat, bytesV_isU8, k1, k2, climb_length (secr_length _ _ _), d1, hw, ih, endsF]
theorem c299 (seed : List UInt8) (leaf : Nat) (h : seed.length ≤ 1000) : runE C 299 [.sl seed.length (bytesV seed), .int .i64 (leaf : Int)] = some (.tup [.osl 608 (bytesV (pubLeaf seed leaf))]) := by
  refine E299 _ _ _ ?_
  unfold T299
  have k := l299 seed leaf h 19 0 [] rfl rfl
  rw [List.nil_append, endsF_length] at k
  exact k
theorem l274 (seed : List UInt8) (h : seed.length ≤ 1000) : ∀ (r c : Nat) (d : List (List UInt8)), c + r = 4 → d.length = c →
    loopE C 274 0 [true, true, false, true] [] [(0, V.sl seed.length (bytesV seed)), (3, V.ref 0), (4, V.int .i64 (c : Int))] [Ob.nrow [] 22 d.length (psO d)] = some (.tup [.osl (d ++ leavesF seed r c).length (psO (d ++ leavesF seed r c))])
  | 0, c, d, hc, hd => by
    refine E274l1 _ _ _ _ _ ?_
    unfold T274l1
    have : ¬ ((c : Int) < 4) := by omega
    simp only [decide_eq_false this, Int.ofNat_lt, decide_true, decide_false, cond_true, cond_false, inB_nat, inB_zero, must_true, Int.toNat_natCast, asInt_int, asBool_bool, asSl_sl, asOsl_osl, asStr_str, orcE_R, orcE_W, orcE_L, orcE_X, need_some', asTup_tup, List.getElem?_cons_zero, List.getElem?_cons_succ, Bool.not_true, Bool.not_false, Bool.true_and, Bool.and_true, Bool.false_or, ble_dec, beq_dec, List.length_cons, List.length_nil, Nat.mul_one, Nat.zero_add, Nat.add_zero, Nat.sub_zero, both_self', bytesV_length, bytesV_flat, bytesV_isU8, leavesF, List.append_nil]
  | r + 1, c, d, hc, hd => by
    have hlt : ((c : Int) < 4) := by omega
    have hw := w64_succ (n := c) (by omega)
    have k1 := c299 seed c h
    have ih := l274 seed h r (c + 1) (d ++ [pubLeaf seed c]) (by omega) (by simp; omega)
    rw [List.length_append, List.length_singleton, List.append_assoc] at ih
    have d1 : d.length + 1 ≤ 140737488355328 := by omega
    have d2 : (d.length + 1) * 24 ≤ 140737488355328 := by omega
    refine E274l1 _ _ _ _ _ ?_
    unfold T274l1
    simp only [decide_eq_true hlt, Int.ofNat_lt, decide_true, decide_false, cond_true, cond_false, inB_nat, inB_zero, must_true, Int.toNat_natCast, asInt_int, asBool_bool, asSl_sl, asOsl_osl, asStr_str, orcE_R, orcE_W, orcE_L, orcE_X, need_some', asTup_tup, List.getElem?_cons_zero, List.getElem?_cons_succ, Bool.not_true, Bool.not_false, Bool.true_and, Bool.and_true, Bool.false_or, ble_dec, beq_dec, List.length_cons, List.length_nil, Nat.mul_one, Nat.zero_add, Nat.add_zero, Nat.sub_zero, both_self', bytesV_length, bytesV_flat, bytesV_isU8, k1, d1, d2, psO_snoc' _ _ (pubLeaf_length _ _), hw, ih, leavesF]
    rfl
theorem c274 (seed : List UInt8) (h : seed.length ≤ 1000) : runE C 274 [.sl seed.length (bytesV seed)] = some (.tup [.osl 4 (psO (leaves seed))]) := by
  refine E274 _ _ ?_
  unfold T274
  have k := l274 seed h 4 0 [] rfl rfl
  rw [List.nil_append, leavesF_length] at k
  exact k
end Go.Proofs.Ytehpmolckdmibaa.Tree
