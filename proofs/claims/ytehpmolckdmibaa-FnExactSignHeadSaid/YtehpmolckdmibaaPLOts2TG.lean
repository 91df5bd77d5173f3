/-
  One-time signatures: digits and signatures, both sides.
-/
import Derived.Test.YtehpmolckdmibaaPLOtsTG
namespace Go.Proofs.Ytehpmolckdmibaa.Tree
open Go Go.PI Go.PI.Sha Go.PI.Rel Go.PI.Nest Go.PI.Tru Go.PI.Set Go.PI.Tree Go.Proofs.Ytehpmolckdmibaa.Sha Go.Proofs.Ytehpmolckdmibaa.By Go.Proofs.Ytehpmolckdmibaa.Nest Go.Proofs.Ytehpmolckdmibaa.Set EqG
set_option maxHeartbeats 1000000
set_option linter.unusedVariables false
set_option linter.unusedSimpArgs false
def fin3 (ds : List Nat) : List Nat := ds ++ [digsum ds / 16, digsum ds / 4 % 4, digsum ds % 4]
theorem digits_fin (m : List UInt8) : digits m = fin3 (topDigits m) := rfl
theorem fin_cells (ds : List Nat) (h : ds.length ≤ 1000) : gV ds ++ [V.int .i64 (IntKind.i64.wrap ((digsum ds : Int).tdiv 16)), V.int .i64 ((IntKind.i64.wrap ((digsum ds : Int).tdiv 4)).tmod 4), V.int .i64 ((digsum ds : Int).tmod 4)] = gV (fin3 ds) := by
  have hs := digsum_le ds
  have e1 : IntKind.i64.wrap ((digsum ds : Int).tdiv 16) = ((digsum ds / 16 : Nat) : Int) := by
    rw [Int.tdiv_eq_ediv_of_nonneg (by omega), w64 (by omega) (by omega)]; omega
  have e2 : (IntKind.i64.wrap ((digsum ds : Int).tdiv 4)).tmod 4 = ((digsum ds / 4 % 4 : Nat) : Int) := by
    rw [Int.tdiv_eq_ediv_of_nonneg (by omega), w64 (by omega) (by omega), Int.tmod_eq_emod_of_nonneg (by omega)]; omega
  have e3 : ((digsum ds : Int)).tmod 4 = ((digsum ds % 4 : Nat) : Int) := by
    rw [Int.tmod_eq_emod_of_nonneg (by omega)]; omega
  rw [e1, e2, e3, fin3, gV_append]; rfl
theorem fin_length (ds : List Nat) : (fin3 ds).length = ds.length + 3 := by simp [fin3]
theorem gV_snoc (d : List Nat) (v : Nat) : gV d ++ [V.int .i64 (v : Int)] = gV (d ++ [v]) := by rw [gV_append]; rfl
theorem dig_add (b : UInt8) (j c : Nat) (hc : c ≤ 1000) : IntKind.i64.wrap (IntKind.i64.wrap ((c : Int) + 3) - (dig b j : Int)) = ((c + (3 - dig b j) : Nat) : Int) := by
  have := dig_lt b j
  rw [w64 (n := (c : Int) + 3) (by omega) (by omega), w64 (by omega) (by omega)]; omega
theorem byte_at {i : Nat} {d : List UInt8} (hi : i = d.length) (v : UInt8) (r : List UInt8) : (bytesV (d ++ v :: r))[i]? = some (.int .u8 (v.toNat : Int)) := by
  subst hi
  rw [bytesV_append, List.getElem?_append_right (by rw [bytesV_length]; exact Nat.le_refl _), bytesV_length, Nat.sub_self]; rfl
theorem s213 (b : UInt8) (i : Nat) (L : List V) (j c : Nat) (ds : List Nat) (hj : j < 4) (hc : c ≤ 1000) (hd : ds.length ≤ 1000) {v : V}
    (next : loopE C 213 2 [true, true, false, true, false, true, true, false, false, true, true] [0] [(3, V.ref 0), (4, V.int .i64 ((c + (3 - dig b (2 * j)) : Nat) : Int)), (6, V.int .u8 (b.toNat : Int)), (7, V.int .i64 (IntKind.i64.wrap (((2 * j : Nat) : Int) - 2))), (13, V.sl 4 L), (14, V.int .i64 4), (15, V.int .i64 (i : Int))] [Ob.row 2 (ds ++ [dig b (2 * j)]).length (gV (ds ++ [dig b (2 * j)])) false] = some v) :
    loopE C 213 2 [true, true, false, true, false, true, true, false, false, true, true] [0] [(3, V.ref 0), (4, V.int .i64 (c : Int)), (6, V.int .u8 (b.toNat : Int)), (7, V.int .i64 ((2 * j : Nat) : Int)), (13, V.sl 4 L), (14, V.int .i64 4), (15, V.int .i64 (i : Int))] [Ob.row 2 (ds).length (gV (ds)) false] = some v := by
  refine E213l2 _ _ _ _ _ _ _ _ _ ?_
  unfold T213l2
  have h0 : ((2 * j : Nat) : Int) ≥ 0 := by omega
  have h1 : 0 ≤ ((2 * j : Nat) : Int) := by omega
  have d1 : ds.length + 1 ≤ 140737488355328 := by omega
  have d2 : (ds.length + 1) * 8 ≤ 140737488355328 := by omega
  rw [List.length_append, List.length_singleton] at next
  simp only [decide_eq_true h0, decide_eq_true h1, Int.ofNat_lt, decide_true, decide_false, cond_true, cond_false, inB_nat, inB_zero, must_true, Int.toNat_natCast, asInt_int, asBool_bool, asSl_sl, asOsl_osl, asStr_str, orcE_R, orcE_W, orcE_L, orcE_X, need_some', asTup_tup, List.getElem?_cons_zero, List.getElem?_cons_succ, Bool.not_true, Bool.not_false, Bool.true_and, Bool.and_true, Bool.false_or, ble_dec, beq_dec, List.length_cons, List.length_nil, Nat.mul_one, Nat.zero_add, Nat.add_zero, Nat.sub_zero, both_self', bytesV_length, bytesV_flat, bytesV_isU8, d1, d2, dig_bits b j hj, dig_add b (2 * j) c hc, gV_snoc, next]
theorem i213 (b : UInt8) (i : Nat) (L : List V) (c : Nat) (ds : List Nat) (hc : c ≤ 900) (hd : ds.length ≤ 900) {v : V}
    (next : loopE C 213 0 [true, true, false, true] [] [(3, V.ref 0), (4, V.int .i64 ((c + digsum (dig4 b) : Nat) : Int)), (13, V.sl 4 L), (14, V.int .i64 4), (15, V.int .i64 (IntKind.i64.wrap ((i : Int) + 1)))] [Ob.row 2 (ds ++ dig4 b).length (gV (ds ++ dig4 b)) false] = some v) :
    loopE C 213 2 [true, true, false, true, false, true, true, false, false, true, true] [0] [(3, V.ref 0), (4, V.int .i64 (c : Int)), (6, V.int .u8 (b.toNat : Int)), (7, V.int .i64 6), (13, V.sl 4 L), (14, V.int .i64 4), (15, V.int .i64 (i : Int))] [Ob.row 2 (ds).length (gV (ds)) false] = some v := by
  have l0 := dig_lt b 0
  have l2 := dig_lt b 2
  have l4 := dig_lt b 4
  have l6 := dig_lt b 6
  refine s213 b i L 3 c ds (by decide) (by omega) (by omega) ?_
  refine s213 b i L 2 _ _ (by decide) (by omega) (by simp; omega) ?_
  refine s213 b i L 1 _ _ (by decide) (by omega) (by simp; omega) ?_
  refine s213 b i L 0 _ _ (by decide) (by omega) (by simp; omega) ?_
  refine E213l2 _ _ _ _ _ _ _ _ _ ?_
  unfold T213l2
  have t0 : decide (IntKind.i64.wrap (((2 * 0 : Nat) : Int) - 2) ≥ 0) = false := rfl
  have es : c + (3 - dig b (2 * 3)) + (3 - dig b (2 * 2)) + (3 - dig b (2 * 1)) + (3 - dig b (2 * 0)) = c + digsum (dig4 b) := by simp only [dig4, digsum, Nat.reduceMul]; omega
  have ed : ds ++ [dig b (2 * 3)] ++ [dig b (2 * 2)] ++ [dig b (2 * 1)] ++ [dig b (2 * 0)] = ds ++ dig4 b := by simp [dig4]
  rw [es, ed]
  simp only [t0, Int.ofNat_lt, decide_true, decide_false, cond_true, cond_false, inB_nat, inB_zero, must_true, Int.toNat_natCast, asInt_int, asBool_bool, asSl_sl, asOsl_osl, asStr_str, orcE_R, orcE_W, orcE_L, orcE_X, need_some', asTup_tup, List.getElem?_cons_zero, List.getElem?_cons_succ, Bool.not_true, Bool.not_false, Bool.true_and, Bool.and_true, Bool.false_or, ble_dec, beq_dec, List.length_cons, List.length_nil, Nat.mul_one, Nat.zero_add, Nat.add_zero, Nat.sub_zero, both_self', bytesV_length, bytesV_flat, bytesV_isU8, next]
theorem l213 : ∀ (r d : List UInt8) (i : Nat) (ds : List Nat), d.length + r.length = 4 → i = d.length → ds.length = 4 * i →
    loopE C 213 0 [true, true, false, true] [] [(3, V.ref 0), (4, V.int .i64 (digsum ds : Int)), (13, V.sl 4 (bytesV (d ++ r))), (14, V.int .i64 4), (15, V.int .i64 (i : Int))] [Ob.row 2 (ds).length (gV (ds)) false] = some (.tup [.osl (fin3 (ds ++ r.flatMap dig4)).length (gV (fin3 (ds ++ r.flatMap dig4)))])
  | [], d, i, ds, hd, hi, hs => by
    refine E213l1 _ _ _ _ _ _ _ ?_
    unfold T213l1
    have : ¬ ((i : Int) < 4) := by simp at hd; omega
    have d1 : ds.length + 3 ≤ 140737488355328 := by simp at hd; omega
    have d2 : (ds.length + 3) * 8 ≤ 140737488355328 := by simp at hd; omega
    simp only [decide_eq_false this, Int.ofNat_lt, decide_true, decide_false, cond_true, cond_false, inB_nat, inB_zero, must_true, Int.toNat_natCast, asInt_int, asBool_bool, asSl_sl, asOsl_osl, asStr_str, orcE_R, orcE_W, orcE_L, orcE_X, need_some', asTup_tup, List.getElem?_cons_zero, List.getElem?_cons_succ, Bool.not_true, Bool.not_false, Bool.true_and, Bool.and_true, Bool.false_or, ble_dec, beq_dec, List.length_cons, List.length_nil, Nat.mul_one, Nat.zero_add, Nat.add_zero, Nat.sub_zero, both_self', bytesV_length, bytesV_flat, bytesV_isU8, d1, d2, fin_cells ds (by simp at hd; omega), gV_flat, List.flatMap_nil, List.append_nil, fin_length]
  | b :: r, d, i, ds, hd, hi, hs => by
    simp only [List.length_cons] at hd
    have hlt : ((i : Int) < 4) := by omega
    have hlt' : i < 4 := by omega
    have hw := w64_succ (n := i) (by omega)
    have hb := byte_at hi b r
    have hm := digsum_le ds
    have ih := l213 r (d ++ [b]) (i + 1) (ds ++ dig4 b) (by simp; omega) (by simp; omega) (by simp [dig4]; omega)
    rw [digsum_append] at ih
    simp only [List.append_assoc, List.singleton_append] at ih
    refine E213l1 _ _ _ _ _ _ _ ?_
    unfold T213l1
    simp only [decide_eq_true hlt, Int.ofNat_lt, decide_true, decide_false, cond_true, cond_false, inB_nat, inB_zero, must_true, Int.toNat_natCast, asInt_int, asBool_bool, asSl_sl, asOsl_osl, asStr_str, orcE_R, orcE_W, orcE_L, orcE_X, need_some', asTup_tup, List.getElem?_cons_zero, List.getElem?_cons_succ, Bool.not_true, Bool.not_false, Bool.true_and, Bool.and_true, Bool.false_or, ble_dec, beq_dec, List.length_cons, List.length_nil, Nat.mul_one, Nat.zero_add, Nat.add_zero, Nat.sub_zero, both_self', bytesV_length, bytesV_flat, bytesV_isU8, hlt', hb]
    refine i213 b i _ _ _ (by omega) (by omega) ?_
    rw [hw, ih, List.flatMap_cons]
theorem c213 (m : List UInt8) (h : m.length ≤ 1000000) : runE C 213 [.sl m.length (bytesV m)] = some (.tup [.osl 19 (gV (digits m))]) := by
  refine E213 _ _ ?_
  unfold T213
  have k := g216 msgTag [m] (by decide) (by simp) (by simp; omega)
  rw [show [m].flatten = m by simp] at k
  have k : runE C 216 [V.str { data := #[(109 : UInt8), (101 : UInt8), (115 : UInt8), (115 : UInt8), (97 : UInt8), (103 : UInt8), (101 : UInt8)] }, V.sl 1 [V.sl m.length (bytesV m)]] = some (.tup [.osl 32 (bytesV (dg msgTag (m)))]) := k
  have ll := l213 ((dg msgTag m).take 4) [] 0 [] (by rw [List.length_take, dg_length]; rfl) rfl rfl
  have e4 : (4 : Int) ≤ ((32 : Nat) : Int) := by decide
  have et : (bytesV (dg msgTag m)).take 4 = bytesV ((dg msgTag m).take 4) := by simp [bytesV]
  rw [List.nil_append, List.nil_append] at ll
  have ed : fin3 (((dg msgTag m).take 4).flatMap dig4) = digits m := rfl
  rw [ed, digits_length] at ll
  simp only [Int.ofNat_lt, decide_true, decide_false, cond_true, cond_false, inB_nat, inB_zero, must_true, Int.toNat_natCast, asInt_int, asBool_bool, asSl_sl, asOsl_osl, asStr_str, orcE_R, orcE_W, orcE_L, orcE_X, need_some', asTup_tup, List.getElem?_cons_zero, List.getElem?_cons_succ, Bool.not_true, Bool.not_false, Bool.true_and, Bool.and_true, Bool.false_or, ble_dec, beq_dec, List.length_cons, List.length_nil, Nat.mul_one, Nat.zero_add, Nat.add_zero, Nat.sub_zero, both_self', bytesV_length, bytesV_flat, bytesV_isU8, k, decide_eq_true e4, List.drop_zero, et]
  exact ll
theorem s275 (b : UInt8) (d r : List UInt8) (i : Nat) (j c : Nat) (ds : List Nat) (hi : i = d.length) (hi4 : i < 32) (hj : j < 4) (hc : c ≤ 1000) (hd : ds.length ≤ 1000) {v : V}
    (next : loopE C 275 2 [true, true, true, true, false, true, false, true, false, false, true] [0] [(3, V.ref 0), (4, V.ref 1), (5, V.int .i64 ((c + (3 - dig b (2 * j)) : Nat) : Int)), (6, V.int .i64 (i : Int)), (7, V.int .i64 (IntKind.i64.wrap ((j : Int) - 1)))] [Ob.row 5 32 (bytesV (d ++ b :: r)) false, Ob.row 2 (ds ++ [dig b (2 * j)]).length (gV (ds ++ [dig b (2 * j)])) false] = some v) :
    loopE C 275 2 [true, true, true, true, false, true, false, true, false, false, true] [0] [(3, V.ref 0), (4, V.ref 1), (5, V.int .i64 (c : Int)), (6, V.int .i64 (i : Int)), (7, V.int .i64 (j : Int))] [Ob.row 5 32 (bytesV (d ++ b :: r)) false, Ob.row 2 (ds).length (gV (ds)) false] = some v := by
  refine E275l2 _ _ _ _ _ _ _ ?_
  unfold T275l2
  have h0 : (j : Int) ≥ 0 := by omega
  have w2 : IntKind.i64.wrap (2 * (j : Int)) = ((2 * j : Nat) : Int) := by rw [show 2 * (j : Int) = ((2 * j : Nat) : Int) by omega]; exact w64_nat (by omega)
  have w3 : IntKind.u64.wrap ((2 * j : Nat) : Int) = ((2 * j : Nat) : Int) := u64n (by omega)
  have h1 : 0 ≤ ((2 * j : Nat) : Int) := by omega
  have hb := byte_at hi b r
  have d1 : ds.length + 1 ≤ 140737488355328 := by omega
  have d2 : (ds.length + 1) * 8 ≤ 140737488355328 := by omega
  rw [List.length_append, List.length_singleton] at next
  simp only [decide_eq_true h0, Int.ofNat_lt, decide_true, decide_false, cond_true, cond_false, inB_nat, inB_zero, must_true, Int.toNat_natCast, asInt_int, asBool_bool, asSl_sl, asOsl_osl, asStr_str, orcE_R, orcE_W, orcE_L, orcE_X, need_some', asTup_tup, List.getElem?_cons_zero, List.getElem?_cons_succ, Bool.not_true, Bool.not_false, Bool.true_and, Bool.and_true, Bool.false_or, ble_dec, beq_dec, List.length_cons, List.length_nil, Nat.mul_one, Nat.zero_add, Nat.add_zero, Nat.sub_zero, both_self', bytesV_length, bytesV_flat, bytesV_isU8, hi4, hb, w2, w3, decide_eq_true h1, d1, d2, dig_bits b j hj, dig_add b (2 * j) c hc, gV_snoc, next]
theorem i275 (b : UInt8) (d r : List UInt8) (i : Nat) (c : Nat) (ds : List Nat) (hi : i = d.length) (hi4 : i < 32) (hc : c ≤ 900) (hd : ds.length ≤ 900) {v : V}
    (next : loopE C 275 0 [true, true, true, true, false, true] [] [(3, V.ref 0), (4, V.ref 1), (5, V.int .i64 ((c + digsum (dig4 b) : Nat) : Int)), (6, V.int .i64 (IntKind.i64.wrap ((i : Int) + 1)))] [Ob.row 5 32 (bytesV (d ++ b :: r)) false, Ob.row 2 (ds ++ dig4 b).length (gV (ds ++ dig4 b)) false] = some v) :
    loopE C 275 2 [true, true, true, true, false, true, false, true, false, false, true] [0] [(3, V.ref 0), (4, V.ref 1), (5, V.int .i64 (c : Int)), (6, V.int .i64 (i : Int)), (7, V.int .i64 3)] [Ob.row 5 32 (bytesV (d ++ b :: r)) false, Ob.row 2 (ds).length (gV (ds)) false] = some v := by
  have l0 := dig_lt b 0
  have l2 := dig_lt b 2
  have l4 := dig_lt b 4
  have l6 := dig_lt b 6
  refine s275 b d r i 3 c ds hi hi4 (by decide) (by omega) (by omega) ?_
  refine s275 b d r i 2 _ _ hi hi4 (by decide) (by omega) (by simp; omega) ?_
  refine s275 b d r i 1 _ _ hi hi4 (by decide) (by omega) (by simp; omega) ?_
  refine s275 b d r i 0 _ _ hi hi4 (by decide) (by omega) (by simp; omega) ?_
  refine E275l2 _ _ _ _ _ _ _ ?_
  unfold T275l2
  have t0 : decide (IntKind.i64.wrap (((0 : Nat) : Int) - 1) ≥ 0) = false := rfl
  have es : c + (3 - dig b (2 * 3)) + (3 - dig b (2 * 2)) + (3 - dig b (2 * 1)) + (3 - dig b (2 * 0)) = c + digsum (dig4 b) := by simp only [dig4, digsum, Nat.reduceMul]; omega
  have ed : ds ++ [dig b (2 * 3)] ++ [dig b (2 * 2)] ++ [dig b (2 * 1)] ++ [dig b (2 * 0)] = ds ++ dig4 b := by simp [dig4]
  rw [es, ed]
  simp only [t0, Int.ofNat_lt, decide_true, decide_false, cond_true, cond_false, inB_nat, inB_zero, must_true, Int.toNat_natCast, asInt_int, asBool_bool, asSl_sl, asOsl_osl, asStr_str, orcE_R, orcE_W, orcE_L, orcE_X, need_some', asTup_tup, List.getElem?_cons_zero, List.getElem?_cons_succ, Bool.not_true, Bool.not_false, Bool.true_and, Bool.and_true, Bool.false_or, ble_dec, beq_dec, List.length_cons, List.length_nil, Nat.mul_one, Nat.zero_add, Nat.add_zero, Nat.sub_zero, both_self', bytesV_length, bytesV_flat, bytesV_isU8, next]
theorem l275 (q : List UInt8) : ∀ (r d : List UInt8) (i : Nat) (ds : List Nat), d.length + r.length = 4 → i = d.length → ds.length = 4 * i →
    loopE C 275 0 [true, true, true, true, false, true] [] [(3, V.ref 0), (4, V.ref 1), (5, V.int .i64 (digsum ds : Int)), (6, V.int .i64 (i : Int))] [Ob.row 5 32 (bytesV (d ++ (r ++ q))) false, Ob.row 2 (ds).length (gV (ds)) false] = some (.tup [.osl (fin3 (ds ++ r.flatMap dig4)).length (gV (fin3 (ds ++ r.flatMap dig4)))])
  | [], d, i, ds, hd, hi, hs => by
    refine E275l1 _ _ _ _ _ _ ?_
    unfold T275l1
    have : ¬ ((i : Int) < 4) := by simp at hd; omega
    have d1 : ds.length + 3 ≤ 140737488355328 := by simp at hd; omega
    have d2 : (ds.length + 3) * 8 ≤ 140737488355328 := by simp at hd; omega
    simp only [decide_eq_false this, Int.ofNat_lt, decide_true, decide_false, cond_true, cond_false, inB_nat, inB_zero, must_true, Int.toNat_natCast, asInt_int, asBool_bool, asSl_sl, asOsl_osl, asStr_str, orcE_R, orcE_W, orcE_L, orcE_X, need_some', asTup_tup, List.getElem?_cons_zero, List.getElem?_cons_succ, Bool.not_true, Bool.not_false, Bool.true_and, Bool.and_true, Bool.false_or, ble_dec, beq_dec, List.length_cons, List.length_nil, Nat.mul_one, Nat.zero_add, Nat.add_zero, Nat.sub_zero, both_self', bytesV_length, bytesV_flat, bytesV_isU8, d1, d2, fin_cells ds (by simp at hd; omega), gV_flat, List.flatMap_nil, List.append_nil, fin_length]
  | b :: r, d, i, ds, hd, hi, hs => by
    simp only [List.length_cons] at hd
    have hlt : ((i : Int) < 4) := by omega
    have hw := w64_succ (n := i) (by omega)
    have hm := digsum_le ds
    have ih := l275 q r (d ++ [b]) (i + 1) (ds ++ dig4 b) (by simp; omega) (by simp; omega) (by simp [dig4]; omega)
    rw [digsum_append] at ih
    simp only [List.append_assoc, List.singleton_append] at ih
    refine E275l1 _ _ _ _ _ _ ?_
    unfold T275l1
    simp only [decide_eq_true hlt, Int.ofNat_lt, decide_true, decide_false, cond_true, cond_false, inB_nat, inB_zero, must_true, Int.toNat_natCast, asInt_int, asBool_bool, asSl_sl, asOsl_osl, asStr_str, orcE_R, orcE_W, orcE_L, orcE_X, need_some', asTup_tup, List.getElem?_cons_zero, List.getElem?_cons_succ, Bool.not_true, Bool.not_false, Bool.true_and, Bool.and_true, Bool.false_or, ble_dec, beq_dec, List.length_cons, List.length_nil, Nat.mul_one, Nat.zero_add, Nat.add_zero, Nat.sub_zero, both_self', bytesV_length, bytesV_flat, bytesV_isU8, List.cons_append]
    refine i275 b d (r ++ q) i _ _ hi (by omega) (by omega) (by omega) ?_
    rw [hw, ih, List.flatMap_cons]
theorem c275 (m : List UInt8) (h : m.length ≤ 1000000) : runE C 275 [.sl m.length (bytesV m)] = some (.tup [.osl 19 (gV (digits m))]) := by
  refine E275 _ _ ?_
  unfold T275
  have k := c244 msgTag (m) (by decide) (by (try simp); omega)
  have k : runE C 244 [V.str { data := #[(109 : UInt8), (101 : UInt8), (115 : UInt8), (115 : UInt8), (97 : UInt8), (103 : UInt8), (101 : UInt8)] }, V.sl (m).length (bytesV (m))] = some (.tup [.osl 32 (bytesV (dg msgTag (m)))]) := k
  have ll := l275 ((dg msgTag m).drop 4) ((dg msgTag m).take 4) [] 0 [] (by rw [List.length_take, dg_length]; rfl) rfl rfl
  rw [List.nil_append, List.nil_append, List.take_append_drop] at ll
  have ed : fin3 (((dg msgTag m).take 4).flatMap dig4) = digits m := rfl
  rw [ed, digits_length] at ll
  simp only [Int.ofNat_lt, decide_true, decide_false, cond_true, cond_false, inB_nat, inB_zero, must_true, Int.toNat_natCast, asInt_int, asBool_bool, asSl_sl, asOsl_osl, asStr_str, orcE_R, orcE_W, orcE_L, orcE_X, need_some', asTup_tup, List.getElem?_cons_zero, List.getElem?_cons_succ, Bool.not_true, Bool.not_false, Bool.true_and, Bool.and_true, Bool.false_or, ble_dec, beq_dec, List.length_cons, List.length_nil, Nat.mul_one, Nat.zero_add, Nat.add_zero, Nat.sub_zero, both_self', bytesV_length, bytesV_flat, bytesV_isU8, k]
  exact ll
theorem l141 (seed : List UInt8) (leaf : Nat) (plc cnt : Int) (P : List (List UInt8)) (h : seed.length ≤ 1000) : ∀ (r d : List Nat) (c : Nat) (K : List (List UInt8)), d.length + r.length = 19 → c = d.length → K.length = c → (∀ x ∈ r, x < 4) →
    loopE C 141 0 [true, true, false, true] [] [(0, V.sl seed.length (bytesV seed)), (1, V.int .i64 (leaf : Int)), (6, V.ptr 0 0), (7, V.ptr 3 0), (17, V.ref 6), (18, V.int .i64 19), (19, V.int .i64 (c : Int))] [Ob.box 192 [V.int .i64 0, V.ref 1, V.int .i64 0, V.int .i64 0, V.ref 2] false, Ob.nrow [] 22 0 [], Ob.nrow [] 22 0 [], Ob.box 192 [V.int .i64 (leaf : Int), V.ref 4, V.int .i64 plc, V.int .i64 cnt, V.ref 5] false, Ob.nrow [] 22 K.length (psO K), Ob.nrow [] 22 P.length (psO P), Ob.row 2 19 (gV (d ++ r)) false] = some (.tup [.int .i64 (leaf : Int), .osl (K ++ partsF seed leaf r c).length (psO (K ++ partsF seed leaf r c)), .int .i64 plc, .int .i64 cnt, .osl P.length (psO P)])
  | [], d, c, K, hn, hc, hK, hr => by
    refine E141l1 _ _ _ _ _ _ _ _ _ _ _ _ _ _ _ _ _ _ _ _ _ ?_
    unfold T141l1
    have : ¬ ((c : Int) < 19) := by simp at hn; omega
    simp only [decide_eq_false this, Int.ofNat_lt, decide_true, decide_false, cond_true, cond_false, inB_nat, inB_zero, must_true, Int.toNat_natCast, asInt_int, asBool_bool, asSl_sl, asOsl_osl, asStr_str, orcE_R, orcE_W, orcE_L, orcE_X, need_some', asTup_tup, List.getElem?_cons_zero, List.getElem?_cons_succ, Bool.not_true, Bool.not_false, Bool.true_and, Bool.and_true, Bool.false_or, ble_dec, beq_dec, List.length_cons, List.length_nil, Nat.mul_one, Nat.zero_add, Nat.add_zero, Nat.sub_zero, both_self', bytesV_length, bytesV_flat, bytesV_isU8, partsF, List.append_nil]
  | x :: r, d, c, K, hn, hc, hK, hr => by
    simp only [List.length_cons] at hn
    have hlt : ((c : Int) < 19) := by omega
    have hlt' : c < 19 := by omega
    have hw := w64_succ (n := c) (by omega)
    have hx := hr x (by simp)
    have hg := gV_at hc x r
    have k1 := c215 seed leaf c h
    have k2 := c214 (secr seed leaf c) x (by omega) (by rw [secr_length]; decide)
    rw [secr_length, climb_length (secr_length _ _ _)] at k2
    have ih := l141 seed leaf plc cnt P h r (d ++ [x]) (c + 1) (K ++ [climb (secr seed leaf c) x]) (by simp; omega) (by simp; omega) (by simp; omega) (fun y hy => hr y (by simp [hy]))
    rw [List.length_append, List.length_singleton] at ih
    simp only [List.append_assoc, List.singleton_append] at ih
    have d1 : K.length + 1 ≤ 140737488355328 := by omega
    have d2 : (K.length + 1) * 24 ≤ 140737488355328 := by omega
    have es := psO_snoc' K _ (climb_length (secr_length seed leaf c) x)
    refine E141l1 _ _ _ _ _ _ _ _ _ _ _ _ _ _ _ _ _ _ _ _ _ ?_
    unfold T141l1
    simp only [decide_eq_true hlt, Int.ofNat_lt, decide_true, decide_false, cond_true, cond_false, inB_nat, inB_zero, must_true, Int.toNat_natCast, asInt_int, asBool_bool, asSl_sl, asOsl_osl, asStr_str, orcE_R, orcE_W, orcE_L, orcE_X, need_some', asTup_tup, List.getElem?_cons_zero, List.getElem?_cons_succ, Bool.not_true, Bool.not_false, Bool.true_and, Bool.and_true, Bool.false_or, ble_dec, beq_dec, List.length_cons, List.length_nil, Nat.mul_one, Nat.zero_add, Nat.add_zero, Nat.sub_zero, both_self', bytesV_length, bytesV_flat, bytesV_isU8, hlt', hg, k1, k2, d1, d2, es, hw, ih, partsF]
theorem c141 (seed : List UInt8) (leaf : Nat) (m : List UInt8) (h : seed.length ≤ 1000) (hl : leaf < 4) (hm : m.length ≤ 1000000) : runE C 141 [.sl seed.length (bytesV seed), .int .i64 (leaf : Int), .sl m.length (bytesV m)] =
    some (.tup [.int .i64 (leaf : Int), .osl (partsF seed leaf (digits m) 0).length (psO (partsF seed leaf (digits m) 0)), .int .i64 (leaf : Int), .int .i64 4, .osl (path (leaves seed) leaf).length (psO (path (leaves seed) leaf))]) := by
  refine E141 _ _ _ _ _ ?_
  unfold T141
  have k1 := c146 seed h
  have k2 := c212 (leaves seed) leaf (by rw [leaves_length]; exact hl) (by rw [leaves_length]; decide) (fun w hw => by have := leavesF_words seed 4 0 w hw; omega)
  rw [leaves_length] at k2
  have k2 : runE C 212 [.sl 4 (psS (leaves seed)), .int .i64 (leaf : Int)] = some (.tup [.int .i64 (leaf : Int), .int .i64 4, .osl (path (leaves seed) leaf).length (psO (path (leaves seed) leaf))]) := k2
  have k3 := c213 m hm
  have kk := l141 seed leaf (leaf : Int) 4 (path (leaves seed) leaf) h (digits m) [] 0 [] (by rw [digits_length]; rfl) rfl rfl (digits_lt m)
  rw [List.nil_append, List.nil_append] at kk
  simp only [Int.ofNat_lt, decide_true, decide_false, cond_true, cond_false, inB_nat, inB_zero, must_true, Int.toNat_natCast, asInt_int, asBool_bool, asSl_sl, asOsl_osl, asStr_str, orcE_R, orcE_W, orcE_L, orcE_X, need_some', asTup_tup, List.getElem?_cons_zero, List.getElem?_cons_succ, Bool.not_true, Bool.not_false, Bool.true_and, Bool.and_true, Bool.false_or, ble_dec, beq_dec, List.length_cons, List.length_nil, Nat.mul_one, Nat.zero_add, Nat.add_zero, Nat.sub_zero, both_self', bytesV_length, bytesV_flat, bytesV_isU8, k1, ps_bare, k2, k3]
  exact kk
theorem l218 (seed : List UInt8) (leaf : Nat) (plc cnt : Int) (P : List (List UInt8)) (h : seed.length ≤ 1000) : ∀ (r d : List Nat) (c : Nat) (K : List (List UInt8)), d.length + r.length = 19 → c = d.length → K.length = c → (∀ x ∈ r, x < 4) →
    loopE C 218 0 [true, true, true, false, true] [] [(0, V.sl seed.length (bytesV seed)), (1, V.int .i64 (leaf : Int)), (6, V.ptr 0 0), (7, V.ptr 3 0), (8, V.ref 6), (9, V.int .i64 (c : Int))] [Ob.box 192 [V.int .i64 0, V.ref 1, V.int .i64 0, V.int .i64 0, V.ref 2] false, Ob.nrow [] 22 0 [], Ob.nrow [] 22 0 [], Ob.box 192 [V.int .i64 (leaf : Int), V.ref 4, V.int .i64 plc, V.int .i64 cnt, V.ref 5] false, Ob.nrow [] 22 K.length (psO K), Ob.nrow [] 22 P.length (psO P), Ob.row 2 19 (gV (d ++ r)) false] = some (.tup [.int .i64 (leaf : Int), .osl (K ++ partsF seed leaf r c).length (psO (K ++ partsF seed leaf r c)), .int .i64 plc, .int .i64 cnt, .osl P.length (psO P)])
  | [], d, c, K, hn, hc, hK, hr => by
    refine E218l1 _ _ _ _ _ _ _ _ _ _ _ _ _ _ _ _ _ _ _ _ ?_
    unfold T218l1
    have : ¬ ((c : Int) < 19) := by simp at hn; omega
    simp only [decide_eq_false this, Int.ofNat_lt, decide_true, decide_false, cond_true, cond_false, inB_nat, inB_zero, must_true, Int.toNat_natCast, asInt_int, asBool_bool, asSl_sl, asOsl_osl, asStr_str, orcE_R, orcE_W, orcE_L, orcE_X, need_some', asTup_tup, List.getElem?_cons_zero, List.getElem?_cons_succ, Bool.not_true, Bool.not_false, Bool.true_and, Bool.and_true, Bool.false_or, ble_dec, beq_dec, List.length_cons, List.length_nil, Nat.mul_one, Nat.zero_add, Nat.add_zero, Nat.sub_zero, both_self', bytesV_length, bytesV_flat, bytesV_isU8, partsF, List.append_nil]
  | x :: r, d, c, K, hn, hc, hK, hr => by
    simp only [List.length_cons] at hn
    have hlt : ((c : Int) < 19) := by omega
    have hlt' : c < 19 := by omega
    have hw := w64_succ (n := c) (by omega)
    have hx := hr x (by simp)
    have hg := gV_at hc x r
    have k1 := c277 seed leaf c h
    have k2 := c276 (secr seed leaf c) x (by omega) (by rw [secr_length]; decide)
    rw [secr_length, climb_length (secr_length _ _ _)] at k2
    have ih := l218 seed leaf plc cnt P h r (d ++ [x]) (c + 1) (K ++ [climb (secr seed leaf c) x]) (by simp; omega) (by simp; omega) (by simp; omega) (fun y hy => hr y (by simp [hy]))
    rw [List.length_append, List.length_singleton] at ih
    simp only [List.append_assoc, List.singleton_append] at ih
    have d1 : K.length + 1 ≤ 140737488355328 := by omega
    have d2 : (K.length + 1) * 24 ≤ 140737488355328 := by omega
    have es := psO_snoc' K _ (climb_length (secr_length seed leaf c) x)
    refine E218l1 _ _ _ _ _ _ _ _ _ _ _ _ _ _ _ _ _ _ _ _ ?_
    unfold T218l1
    simp only [decide_eq_true hlt, Int.ofNat_lt, decide_true, decide_false, cond_true, cond_false, inB_nat, inB_zero, must_true, Int.toNat_natCast, asInt_int, asBool_bool, asSl_sl, asOsl_osl, asStr_str, orcE_R, orcE_W, orcE_L, orcE_X, need_some', asTup_tup, List.getElem?_cons_zero, List.getElem?_cons_succ, Bool.not_true, Bool.not_false, Bool.true_and, Bool.and_true, Bool.false_or, ble_dec, beq_dec, List.length_cons, List.length_nil, Nat.mul_one, Nat.zero_add, Nat.add_zero, Nat.sub_zero, both_self', bytesV_length, bytesV_flat, bytesV_isU8, hlt', hg, k1, k2, d1, d2, es, hw, ih, partsF]
theorem c218 (seed : List UInt8) (leaf : Nat) (m : List UInt8) (h : seed.length ≤ 1000) (hl : leaf < 4) (hm : m.length ≤ 1000000) : runE C 218 [.sl seed.length (bytesV seed), .int .i64 (leaf : Int), .sl m.length (bytesV m)] =
    some (.tup [.int .i64 (leaf : Int), .osl (partsF seed leaf (digits m) 0).length (psO (partsF seed leaf (digits m) 0)), .int .i64 (leaf : Int), .int .i64 4, .osl (path (leaves seed) leaf).length (psO (path (leaves seed) leaf))]) := by
  refine E218 _ _ _ _ _ ?_
  unfold T218
  have k1 := c274 seed h
  have k2 := c273 (leaves seed) leaf (by rw [leaves_length]; exact hl) (by rw [leaves_length]; decide) (fun w hw => by have := leavesF_words seed 4 0 w hw; omega)
  rw [leaves_length] at k2
  have k2 : runE C 273 [.sl 4 (psS (leaves seed)), .int .i64 (leaf : Int)] = some (.tup [.int .i64 (leaf : Int), .int .i64 4, .osl (path (leaves seed) leaf).length (psO (path (leaves seed) leaf))]) := k2
  have k3 := c275 m hm
  have kk := l218 seed leaf (leaf : Int) 4 (path (leaves seed) leaf) h (digits m) [] 0 [] (by rw [digits_length]; rfl) rfl rfl (digits_lt m)
  rw [List.nil_append, List.nil_append] at kk
  simp only [Int.ofNat_lt, decide_true, decide_false, cond_true, cond_false, inB_nat, inB_zero, must_true, Int.toNat_natCast, asInt_int, asBool_bool, asSl_sl, asOsl_osl, asStr_str, orcE_R, orcE_W, orcE_L, orcE_X, need_some', asTup_tup, List.getElem?_cons_zero, List.getElem?_cons_succ, Bool.not_true, Bool.not_false, Bool.true_and, Bool.and_true, Bool.false_or, ble_dec, beq_dec, List.length_cons, List.length_nil, Nat.mul_one, Nat.zero_add, Nat.add_zero, Nat.sub_zero, both_self', bytesV_length, bytesV_flat, bytesV_isU8, k1, ps_bare, k2, k3]
  exact kk
end Go.Proofs.Ytehpmolckdmibaa.Tree
