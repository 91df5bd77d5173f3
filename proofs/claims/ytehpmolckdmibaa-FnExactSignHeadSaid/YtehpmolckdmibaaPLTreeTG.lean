/-
  Trees of digests: splits, roots, paths, both sides.
-/
import Derived.Test.YtehpmolckdmibaaPLSetTG
import Derived.Test.YtehpmolckdmibaaPMTree
namespace Go.Proofs.Ytehpmolckdmibaa.Tree
open Go Go.PI Go.PI.Sha Go.PI.Rel Go.PI.Nest Go.PI.Tru Go.PI.Set Go.PI.Tree Go.Proofs.Ytehpmolckdmibaa.Sha Go.Proofs.Ytehpmolckdmibaa.By Go.Proofs.Ytehpmolckdmibaa.Nest Go.Proofs.Ytehpmolckdmibaa.Set EqG
set_option maxHeartbeats 1000000
set_option linter.unusedVariables false
set_option linter.unusedSimpArgs false
/-! ### impl -/
theorem c219 (b : List UInt8) (h : b.length ≤ 1000000) : runE C 219 [.sl b.length (bytesV b)] = some (.tup [.osl 32 (bytesV (dg leafTag b))]) := by
  refine E219 _ _ ?_
  unfold T219
  have k := g216 leafTag [b] (by decide) (by simp) (by simp; omega)
  rw [show [b].flatten = b by simp] at k
  have k : runE C 216 [V.str { data := #[(108 : UInt8), (101 : UInt8), (97 : UInt8), (102 : UInt8)] }, V.sl 1 [V.sl b.length (bytesV b)]] = some (.tup [.osl 32 (bytesV (dg leafTag (b)))]) := k
  simp only [Int.ofNat_lt, decide_true, decide_false, cond_true, cond_false, inB_nat, inB_zero, must_true, Int.toNat_natCast, asInt_int, asBool_bool, asSl_sl, asOsl_osl, asStr_str, orcE_R, orcE_W, orcE_L, orcE_X, need_some', asTup_tup, List.getElem?_cons_zero, List.getElem?_cons_succ, Bool.not_true, Bool.not_false, Bool.true_and, Bool.and_true, Bool.false_or, ble_dec, beq_dec, List.length_cons, List.length_nil, Nat.mul_one, Nat.zero_add, Nat.add_zero, Nat.sub_zero, both_self', bytesV_length, bytesV_flat, bytesV_isU8, k]
theorem c221 (a b : List UInt8) (h : a.length + b.length ≤ 1000000) : runE C 221 [.sl a.length (bytesV a), .sl b.length (bytesV b)] = some (.tup [.osl 32 (bytesV (dg nodeTag (a ++ b)))]) := by
  refine E221 _ _ _ _ ?_
  unfold T221
  have k := g216 nodeTag [a, b] (by decide) (by simp) (by simp; omega)
  rw [show [a, b].flatten = a ++ b by simp] at k
  have k : runE C 216 [V.str { data := #[(110 : UInt8), (111 : UInt8), (100 : UInt8), (101 : UInt8)] }, V.sl 2 [V.sl a.length (bytesV a), V.sl b.length (bytesV b)]] = some (.tup [.osl 32 (bytesV (dg nodeTag (a ++ b)))]) := k
  simp only [Int.ofNat_lt, decide_true, decide_false, cond_true, cond_false, inB_nat, inB_zero, must_true, Int.toNat_natCast, asInt_int, asBool_bool, asSl_sl, asOsl_osl, asStr_str, orcE_R, orcE_W, orcE_L, orcE_X, need_some', asTup_tup, List.getElem?_cons_zero, List.getElem?_cons_succ, Bool.not_true, Bool.not_false, Bool.true_and, Bool.and_true, Bool.false_or, ble_dec, beq_dec, List.length_cons, List.length_nil, Nat.mul_one, Nat.zero_add, Nat.add_zero, Nat.sub_zero, both_self', bytesV_length, bytesV_flat, bytesV_isU8, k]
theorem l220 : ∀ (f m n : Nat), 0 < m → n ≤ m + f → n ≤ 1000000000 → m ≤ 1000000000 →
    loopE C 220 0 [true, true, false] [] [(0, V.int .i64 (n : Int)), (3, V.int .i64 (m : Int))] [] = some (.tup [.int .i64 (spl f m n : Int)])
  | 0, m, n, h0, h1, hq, hm => by
    refine E220l1 _ _ ?_
    unfold T220l1
    have w1 : IntKind.i64.wrap (2 * (m : Int)) = ((2 * m : Nat) : Int) := by rw [show 2 * (m : Int) = ((2 * m : Nat) : Int) by omega]; exact w64_nat (by omega)
    have hn : ¬ 2 * m < n := by omega
    simp only [w1, Int.ofNat_lt, decide_true, decide_false, cond_true, cond_false, inB_nat, inB_zero, must_true, Int.toNat_natCast, asInt_int, asBool_bool, asSl_sl, asOsl_osl, asStr_str, orcE_R, orcE_W, orcE_L, orcE_X, need_some', asTup_tup, List.getElem?_cons_zero, List.getElem?_cons_succ, Bool.not_true, Bool.not_false, Bool.true_and, Bool.and_true, Bool.false_or, ble_dec, beq_dec, List.length_cons, List.length_nil, Nat.mul_one, Nat.zero_add, Nat.add_zero, Nat.sub_zero, both_self', bytesV_length, bytesV_flat, bytesV_isU8, hn, spl]
  | f + 1, m, n, h0, h1, hq, hm => by
    refine E220l1 _ _ ?_
    unfold T220l1
    have w1 : IntKind.i64.wrap (2 * (m : Int)) = ((2 * m : Nat) : Int) := by rw [show 2 * (m : Int) = ((2 * m : Nat) : Int) by omega]; exact w64_nat (by omega)
    have w2 : IntKind.i64.wrap ((m : Int) * 2) = ((2 * m : Nat) : Int) := by rw [show (m : Int) * 2 = ((2 * m : Nat) : Int) by omega]; exact w64_nat (by omega)
    simp only [spl]
    by_cases hn : 2 * m < n
    · rw [if_pos hn]
      have ih := l220 f (2 * m) n (by omega) (by omega) hq (by omega)
      simp only [w1, w2, Int.ofNat_lt, decide_true, decide_false, cond_true, cond_false, inB_nat, inB_zero, must_true, Int.toNat_natCast, asInt_int, asBool_bool, asSl_sl, asOsl_osl, asStr_str, orcE_R, orcE_W, orcE_L, orcE_X, need_some', asTup_tup, List.getElem?_cons_zero, List.getElem?_cons_succ, Bool.not_true, Bool.not_false, Bool.true_and, Bool.and_true, Bool.false_or, ble_dec, beq_dec, List.length_cons, List.length_nil, Nat.mul_one, Nat.zero_add, Nat.add_zero, Nat.sub_zero, both_self', bytesV_length, bytesV_flat, bytesV_isU8, hn, ih]
    · rw [if_neg hn]
      simp only [w1, Int.ofNat_lt, decide_true, decide_false, cond_true, cond_false, inB_nat, inB_zero, must_true, Int.toNat_natCast, asInt_int, asBool_bool, asSl_sl, asOsl_osl, asStr_str, orcE_R, orcE_W, orcE_L, orcE_X, need_some', asTup_tup, List.getElem?_cons_zero, List.getElem?_cons_succ, Bool.not_true, Bool.not_false, Bool.true_and, Bool.and_true, Bool.false_or, ble_dec, beq_dec, List.length_cons, List.length_nil, Nat.mul_one, Nat.zero_add, Nat.add_zero, Nat.sub_zero, both_self', bytesV_length, bytesV_flat, bytesV_isU8, hn]
theorem c220 (n : Nat) (h : n ≤ 1000000000) : runE C 220 [.int .i64 (n : Int)] = some (.tup [.int .i64 (split n : Int)]) := by
  refine E220 _ ?_
  unfold T220
  exact l220 n 1 n (by decide) (by omega) h (by decide)
theorem c145 : ∀ (n : Nat) (l : List (List UInt8)), l.length = n → n ≤ 1000000 → (∀ w ∈ l, w.length ≤ 100000) → runE C 145 [.sl l.length (psS l)] = some (.tup [.osl 32 (bytesV (root l))]) := by
  intro n
  induction n using Nat.strongRecOn with
  | ind n ih =>
    intro l hl hq hw
    refine E145 _ _ ?_
    unfold T145
    rw [root_eq]
    by_cases c0 : l.length = 0
    · rw [if_pos c0]
      have c0' : ((l.length : Int) == 0) = true := by rw [c0]; rfl
      have k := g216 noneTag [] (by decide) (by simp) (by simp)
      rw [show ([] : List (List UInt8)).flatten = [] from rfl] at k
      have k : runE C 216 [V.str { data := #[(110 : UInt8), (111 : UInt8), (110 : UInt8), (101 : UInt8)] }, V.sl 0 []] = some (.tup [.osl 32 (bytesV (dg noneTag ([])))]) := k
      simp only [c0', Int.ofNat_lt, decide_true, decide_false, cond_true, cond_false, inB_nat, inB_zero, must_true, Int.toNat_natCast, asInt_int, asBool_bool, asSl_sl, asOsl_osl, asStr_str, orcE_R, orcE_W, orcE_L, orcE_X, need_some', asTup_tup, List.getElem?_cons_zero, List.getElem?_cons_succ, Bool.not_true, Bool.not_false, Bool.true_and, Bool.and_true, Bool.false_or, ble_dec, beq_dec, List.length_cons, List.length_nil, Nat.mul_one, Nat.zero_add, Nat.add_zero, Nat.sub_zero, both_self', bytesV_length, bytesV_flat, bytesV_isU8, k]
    have c0' : ((l.length : Int) == 0) = false := beq_f (by omega)
    rw [if_neg c0]
    by_cases c1 : l.length = 1
    · rw [if_pos c1]
      obtain ⟨b, hb⟩ : ∃ b, l = [b] := by
        match l, c1 with
        | [b], _ => exact ⟨b, rfl⟩
      subst hb
      have k := c219 b (by have := hw b (by simp); omega)
      have hg : (psS [b])[0]? = some (V.sl b.length (bytesV b)) := rfl
      have hl1 : (psS [b]).length = 1 := rfl
      have e1 : (([b] : List (List UInt8)).length : Int) = 1 := rfl
      have e2 : ([b] : List (List UInt8)).getD 0 [] = b := rfl
      have t1 : ((1 : Int) == 0) = false := rfl
      rw [e2]
      simp only [e1, t1, beq_self_eq_true, Int.ofNat_lt, decide_true, decide_false, cond_true, cond_false, inB_nat, inB_zero, must_true, Int.toNat_natCast, asInt_int, asBool_bool, asSl_sl, asOsl_osl, asStr_str, orcE_R, orcE_W, orcE_L, orcE_X, need_some', asTup_tup, List.getElem?_cons_zero, List.getElem?_cons_succ, Bool.not_true, Bool.not_false, Bool.true_and, Bool.and_true, Bool.false_or, ble_dec, beq_dec, List.length_cons, List.length_nil, Nat.mul_one, Nat.zero_add, Nat.add_zero, Nat.sub_zero, both_self', bytesV_length, bytesV_flat, bytesV_isU8, hl1, hg, k]
      simp
    have c1' : ((l.length : Int) == 1) = false := beq_f (by omega)
    rw [if_neg c1]
    have hs := split_lt (n := l.length) (by omega)
    have hp := split_pos (n := l.length) (by omega)
    have k1 := c220 l.length (by omega)
    have tl : (l.take (split l.length)).length = split l.length := by rw [List.length_take]; omega
    have dl : (l.drop (split l.length)).length = l.length - split l.length := List.length_drop
    have k2 := ih (split l.length) (by omega) (l.take (split l.length)) tl (by omega) (fun w h => hw w (List.mem_of_mem_take h))
    have k3 := ih (l.length - split l.length) (by omega) (l.drop (split l.length)) dl (by omega) (fun w h => hw w (List.mem_of_mem_drop h))
    rw [tl] at k2
    rw [dl] at k3
    have k4 := c221 (root (l.take (split l.length))) (root (l.drop (split l.length))) (by rw [root_length, root_length]; decide)
    rw [root_length, root_length] at k4
    have b0 : (0 : Int) ≤ ((split l.length : Nat) : Int) := by omega
    have b1 : ((split l.length : Nat) : Int) ≤ (l.length : Int) := by omega
    simp only [c0', c1', k1, Int.ofNat_lt, decide_true, decide_false, cond_true, cond_false, inB_nat, inB_zero, must_true, Int.toNat_natCast, asInt_int, asBool_bool, asSl_sl, asOsl_osl, asStr_str, orcE_R, orcE_W, orcE_L, orcE_X, need_some', asTup_tup, List.getElem?_cons_zero, List.getElem?_cons_succ, Bool.not_true, Bool.not_false, Bool.true_and, Bool.and_true, Bool.false_or, ble_dec, beq_dec, List.length_cons, List.length_nil, Nat.mul_one, Nat.zero_add, Nat.add_zero, Nat.sub_zero, both_self', bytesV_length, bytesV_flat, bytesV_isU8, b0, b1, List.drop_zero, psS_tk, psS_dp, k2, k3, k4]
theorem c271 : ∀ (n : Nat) (l : List (List UInt8)) (k : Nat), l.length = n → k < n → n ≤ 1000000 → (∀ w ∈ l, w.length ≤ 100000) → runE C 271 [.sl l.length (psS l), .int .i64 (k : Int)] = some (.tup [.osl (path l k).length (psO (path l k))]) := by
  intro n
  induction n using Nat.strongRecOn with
  | ind n ih =>
    intro l k hl hk hq hw
    refine E271 _ _ _ ?_
    unfold T271
    rw [path_eq k (by omega)]
    by_cases c1 : l.length = 1
    · rw [if_pos c1]
      have c1' : ((l.length : Int) == 1) = true := by rw [c1]; rfl
      simp only [c1', Int.ofNat_lt, decide_true, decide_false, cond_true, cond_false, inB_nat, inB_zero, must_true, Int.toNat_natCast, asInt_int, asBool_bool, asSl_sl, asOsl_osl, asStr_str, orcE_R, orcE_W, orcE_L, orcE_X, need_some', asTup_tup, List.getElem?_cons_zero, List.getElem?_cons_succ, Bool.not_true, Bool.not_false, Bool.true_and, Bool.and_true, Bool.false_or, ble_dec, beq_dec, List.length_cons, List.length_nil, Nat.mul_one, Nat.zero_add, Nat.add_zero, Nat.sub_zero, both_self', bytesV_length, bytesV_flat, bytesV_isU8]
      rfl
    have c1' : ((l.length : Int) == 1) = false := beq_f (by omega)
    rw [if_neg c1]
    have hs := split_lt (n := l.length) (by omega)
    have hp := split_pos (n := l.length) (by omega)
    have k1 := c220 l.length (by omega)
    have tl : (l.take (split l.length)).length = split l.length := by rw [List.length_take]; omega
    have dl : (l.drop (split l.length)).length = l.length - split l.length := List.length_drop
    have b0 : (0 : Int) ≤ ((split l.length : Nat) : Int) := by omega
    have b1 : ((split l.length : Nat) : Int) ≤ (l.length : Int) := by omega
    have pl := (pathF_words (l.take (split l.length)).length (l.take (split l.length)) k).1
    have pl : (path (l.take (split l.length)) k).length ≤ (l.take (split l.length)).length := pl
    have pr : (path (l.drop (split l.length)) (k - split l.length)).length ≤ (l.drop (split l.length)).length := (pathF_words (l.drop (split l.length)).length (l.drop (split l.length)) (k - split l.length)).1
    by_cases c2 : k < split l.length
    · rw [if_pos c2]
      have k2 := ih (split l.length) (by omega) (l.take (split l.length)) k tl c2 (by omega) (fun w h => hw w (List.mem_of_mem_take h))
      have k3 := c145 _ (l.drop (split l.length)) rfl (by omega) (fun w h => hw w (List.mem_of_mem_drop h))
      rw [tl] at k2
      rw [dl] at k3
      have d1 : (path (l.take (split l.length)) k).length + 1 ≤ 140737488355328 := by omega
      have d2 : ((path (l.take (split l.length)) k).length + 1) * 24 ≤ 140737488355328 := by omega
      simp only [c1', k1, Int.ofNat_lt, decide_true, decide_false, cond_true, cond_false, inB_nat, inB_zero, must_true, Int.toNat_natCast, asInt_int, asBool_bool, asSl_sl, asOsl_osl, asStr_str, orcE_R, orcE_W, orcE_L, orcE_X, need_some', asTup_tup, List.getElem?_cons_zero, List.getElem?_cons_succ, Bool.not_true, Bool.not_false, Bool.true_and, Bool.and_true, Bool.false_or, ble_dec, beq_dec, List.length_cons, List.length_nil, Nat.mul_one, Nat.zero_add, Nat.add_zero, Nat.sub_zero, both_self', bytesV_length, bytesV_flat, bytesV_isU8, c2, b0, b1, List.drop_zero, psS_tk, psS_dp, k2, k3, d1, d2, psO_snoc' _ _ (root_length _)]
      rw [List.length_append, List.length_singleton]
    · rw [if_neg c2]
      have k2 := ih (l.length - split l.length) (by omega) (l.drop (split l.length)) (k - split l.length) dl (by omega) (by omega) (fun w h => hw w (List.mem_of_mem_drop h))
      have k3 := c145 _ (l.take (split l.length)) rfl (by omega) (fun w h => hw w (List.mem_of_mem_take h))
      rw [dl] at k2
      rw [tl] at k3
      have w1 : IntKind.i64.wrap ((k : Int) - ((split l.length : Nat) : Int)) = ((k - split l.length : Nat) : Int) := by rw [w64 (by omega) (by omega)]; omega
      have d1 : (path (l.drop (split l.length)) (k - split l.length)).length + 1 ≤ 140737488355328 := by omega
      have d2 : ((path (l.drop (split l.length)) (k - split l.length)).length + 1) * 24 ≤ 140737488355328 := by omega
      simp only [c1', k1, Int.ofNat_lt, decide_true, decide_false, cond_true, cond_false, inB_nat, inB_zero, must_true, Int.toNat_natCast, asInt_int, asBool_bool, asSl_sl, asOsl_osl, asStr_str, orcE_R, orcE_W, orcE_L, orcE_X, need_some', asTup_tup, List.getElem?_cons_zero, List.getElem?_cons_succ, Bool.not_true, Bool.not_false, Bool.true_and, Bool.and_true, Bool.false_or, ble_dec, beq_dec, List.length_cons, List.length_nil, Nat.mul_one, Nat.zero_add, Nat.add_zero, Nat.sub_zero, both_self', bytesV_length, bytesV_flat, bytesV_isU8, c2, b0, b1, List.drop_zero, psS_tk, psS_dp, w1, k2, k3, d1, d2, psO_snoc' _ _ (root_length _)]
      rw [List.length_append, List.length_singleton]
theorem c212 (l : List (List UInt8)) (k : Nat) (hk : k < l.length) (hq : l.length ≤ 1000000) (hw : ∀ w ∈ l, w.length ≤ 100000) : runE C 212 [.sl l.length (psS l), .int .i64 (k : Int)] = some (.tup [.int .i64 (k : Int), .int .i64 (l.length : Int), .osl (path l k).length (psO (path l k))]) := by
  refine E212 _ _ _ ?_
  unfold T212
  simp only [Int.ofNat_lt, decide_true, decide_false, cond_true, cond_false, inB_nat, inB_zero, must_true, Int.toNat_natCast, asInt_int, asBool_bool, asSl_sl, asOsl_osl, asStr_str, orcE_R, orcE_W, orcE_L, orcE_X, need_some', asTup_tup, List.getElem?_cons_zero, List.getElem?_cons_succ, Bool.not_true, Bool.not_false, Bool.true_and, Bool.and_true, Bool.false_or, ble_dec, beq_dec, List.length_cons, List.length_nil, Nat.mul_one, Nat.zero_add, Nat.add_zero, Nat.sub_zero, both_self', bytesV_length, bytesV_flat, bytesV_isU8, c271 _ l k rfl hk hq hw]
/-! ### spec -/
theorem c268 (b : List UInt8) (h : b.length ≤ 1000000) : runE C 268 [.sl b.length (bytesV b)] = some (.tup [.osl 32 (bytesV (dg leafTag b))]) := by
  refine E268 _ _ ?_
  unfold T268
  have k := c244 leafTag (b) (by decide) (by (try simp); omega)
  have k : runE C 244 [V.str { data := #[(108 : UInt8), (101 : UInt8), (97 : UInt8), (102 : UInt8)] }, V.sl (b).length (bytesV (b))] = some (.tup [.osl 32 (bytesV (dg leafTag (b)))]) := k
  simp only [Int.ofNat_lt, decide_true, decide_false, cond_true, cond_false, inB_nat, inB_zero, must_true, Int.toNat_natCast, asInt_int, asBool_bool, asSl_sl, asOsl_osl, asStr_str, orcE_R, orcE_W, orcE_L, orcE_X, need_some', asTup_tup, List.getElem?_cons_zero, List.getElem?_cons_succ, Bool.not_true, Bool.not_false, Bool.true_and, Bool.and_true, Bool.false_or, ble_dec, beq_dec, List.length_cons, List.length_nil, Nat.mul_one, Nat.zero_add, Nat.add_zero, Nat.sub_zero, both_self', bytesV_length, bytesV_flat, bytesV_isU8, k]
theorem c270 (a b : List UInt8) (h : a.length + b.length ≤ 1000000) : runE C 270 [.sl a.length (bytesV a), .sl b.length (bytesV b)] = some (.tup [.osl 32 (bytesV (dg nodeTag (a ++ b)))]) := by
  refine E270 _ _ _ _ ?_
  unfold T270
  have k := c244 nodeTag (a ++ b) (by decide) (by (try simp); omega)
  have k : runE C 244 [V.str { data := #[(110 : UInt8), (111 : UInt8), (100 : UInt8), (101 : UInt8)] }, V.sl (a ++ b).length (bytesV (a ++ b))] = some (.tup [.osl 32 (bytesV (dg nodeTag (a ++ b)))]) := k
  rw [List.length_append, bytesV_append] at k
  have d1 : a.length ≤ 140737488355328 := by omega
  have d2 : a.length + b.length ≤ 140737488355328 := by omega
  simp only [Int.ofNat_lt, decide_true, decide_false, cond_true, cond_false, inB_nat, inB_zero, must_true, Int.toNat_natCast, asInt_int, asBool_bool, asSl_sl, asOsl_osl, asStr_str, orcE_R, orcE_W, orcE_L, orcE_X, need_some', asTup_tup, List.getElem?_cons_zero, List.getElem?_cons_succ, Bool.not_true, Bool.not_false, Bool.true_and, Bool.and_true, Bool.false_or, ble_dec, beq_dec, List.length_cons, List.length_nil, Nat.mul_one, Nat.zero_add, Nat.add_zero, Nat.sub_zero, both_self', bytesV_length, bytesV_flat, bytesV_isU8, d1, d2, k]
theorem l269 : ∀ (f m n : Nat), 0 < m → n ≤ m + f → n ≤ 1000000000 → m ≤ 1000000000 →
    loopE C 269 0 [true, true, false] [] [(0, V.int .i64 (n : Int)), (3, V.int .i64 (m : Int))] [] = some (.tup [.int .i64 (spl f m n : Int)])
  | 0, m, n, h0, h1, hq, hm => by
    refine E269l1 _ _ ?_
    unfold T269l1
    have w1 : IntKind.i64.wrap (2 * (m : Int)) = ((2 * m : Nat) : Int) := by rw [show 2 * (m : Int) = ((2 * m : Nat) : Int) by omega]; exact w64_nat (by omega)
    have hn : ¬ 2 * m < n := by omega
    simp only [w1, Int.ofNat_lt, decide_true, decide_false, cond_true, cond_false, inB_nat, inB_zero, must_true, Int.toNat_natCast, asInt_int, asBool_bool, asSl_sl, asOsl_osl, asStr_str, orcE_R, orcE_W, orcE_L, orcE_X, need_some', asTup_tup, List.getElem?_cons_zero, List.getElem?_cons_succ, Bool.not_true, Bool.not_false, Bool.true_and, Bool.and_true, Bool.false_or, ble_dec, beq_dec, List.length_cons, List.length_nil, Nat.mul_one, Nat.zero_add, Nat.add_zero, Nat.sub_zero, both_self', bytesV_length, bytesV_flat, bytesV_isU8, hn, spl]
  | f + 1, m, n, h0, h1, hq, hm => by
    refine E269l1 _ _ ?_
    unfold T269l1
    have w1 : IntKind.i64.wrap (2 * (m : Int)) = ((2 * m : Nat) : Int) := by rw [show 2 * (m : Int) = ((2 * m : Nat) : Int) by omega]; exact w64_nat (by omega)
    have w2 : IntKind.i64.wrap ((m : Int) * 2) = ((2 * m : Nat) : Int) := by rw [show (m : Int) * 2 = ((2 * m : Nat) : Int) by omega]; exact w64_nat (by omega)
    simp only [spl]
    by_cases hn : 2 * m < n
    · rw [if_pos hn]
      have ih := l269 f (2 * m) n (by omega) (by omega) hq (by omega)
      simp only [w1, w2, Int.ofNat_lt, decide_true, decide_false, cond_true, cond_false, inB_nat, inB_zero, must_true, Int.toNat_natCast, asInt_int, asBool_bool, asSl_sl, asOsl_osl, asStr_str, orcE_R, orcE_W, orcE_L, orcE_X, need_some', asTup_tup, List.getElem?_cons_zero, List.getElem?_cons_succ, Bool.not_true, Bool.not_false, Bool.true_and, Bool.and_true, Bool.false_or, ble_dec, beq_dec, List.length_cons, List.length_nil, Nat.mul_one, Nat.zero_add, Nat.add_zero, Nat.sub_zero, both_self', bytesV_length, bytesV_flat, bytesV_isU8, hn, ih]
    · rw [if_neg hn]
      simp only [w1, Int.ofNat_lt, decide_true, decide_false, cond_true, cond_false, inB_nat, inB_zero, must_true, Int.toNat_natCast, asInt_int, asBool_bool, asSl_sl, asOsl_osl, asStr_str, orcE_R, orcE_W, orcE_L, orcE_X, need_some', asTup_tup, List.getElem?_cons_zero, List.getElem?_cons_succ, Bool.not_true, Bool.not_false, Bool.true_and, Bool.and_true, Bool.false_or, ble_dec, beq_dec, List.length_cons, List.length_nil, Nat.mul_one, Nat.zero_add, Nat.add_zero, Nat.sub_zero, both_self', bytesV_length, bytesV_flat, bytesV_isU8, hn]
theorem c269 (n : Nat) (h : n ≤ 1000000000) : runE C 269 [.int .i64 (n : Int)] = some (.tup [.int .i64 (split n : Int)]) := by
  refine E269 _ ?_
  unfold T269
  exact l269 n 1 n (by decide) (by omega) h (by decide)
theorem c210 : ∀ (n : Nat) (l : List (List UInt8)), l.length = n → n ≤ 1000000 → (∀ w ∈ l, w.length ≤ 100000) → runE C 210 [.sl l.length (psS l)] = some (.tup [.osl 32 (bytesV (root l))]) := by
  intro n
  induction n using Nat.strongRecOn with
  | ind n ih =>
    intro l hl hq hw
    refine E210 _ _ ?_
    unfold T210
    rw [root_eq]
    by_cases c0 : l.length = 0
    · rw [if_pos c0]
      have c0' : ((l.length : Int) == 0) = true := by rw [c0]; rfl
      have k := c244 noneTag [] (by decide) (by decide)
      have k : runE C 244 [V.str { data := #[(110 : UInt8), (111 : UInt8), (110 : UInt8), (101 : UInt8)] }, V.sl 0 []] = some (.tup [.osl 32 (bytesV (dg noneTag []))]) := k
      simp only [c0', Int.ofNat_lt, decide_true, decide_false, cond_true, cond_false, inB_nat, inB_zero, must_true, Int.toNat_natCast, asInt_int, asBool_bool, asSl_sl, asOsl_osl, asStr_str, orcE_R, orcE_W, orcE_L, orcE_X, need_some', asTup_tup, List.getElem?_cons_zero, List.getElem?_cons_succ, Bool.not_true, Bool.not_false, Bool.true_and, Bool.and_true, Bool.false_or, ble_dec, beq_dec, List.length_cons, List.length_nil, Nat.mul_one, Nat.zero_add, Nat.add_zero, Nat.sub_zero, both_self', bytesV_length, bytesV_flat, bytesV_isU8, k]
    have c0' : ((l.length : Int) == 0) = false := beq_f (by omega)
    rw [if_neg c0]
    by_cases c1 : l.length = 1
    · rw [if_pos c1]
      obtain ⟨b, hb⟩ : ∃ b, l = [b] := by
        match l, c1 with
        | [b], _ => exact ⟨b, rfl⟩
      subst hb
      have k := c268 b (by have := hw b (by simp); omega)
      have hg : (psS [b])[0]? = some (V.sl b.length (bytesV b)) := rfl
      have hl1 : (psS [b]).length = 1 := rfl
      have e1 : (([b] : List (List UInt8)).length : Int) = 1 := rfl
      have e2 : ([b] : List (List UInt8)).getD 0 [] = b := rfl
      have t1 : ((1 : Int) == 0) = false := rfl
      rw [e2]
      simp only [e1, t1, beq_self_eq_true, Int.ofNat_lt, decide_true, decide_false, cond_true, cond_false, inB_nat, inB_zero, must_true, Int.toNat_natCast, asInt_int, asBool_bool, asSl_sl, asOsl_osl, asStr_str, orcE_R, orcE_W, orcE_L, orcE_X, need_some', asTup_tup, List.getElem?_cons_zero, List.getElem?_cons_succ, Bool.not_true, Bool.not_false, Bool.true_and, Bool.and_true, Bool.false_or, ble_dec, beq_dec, List.length_cons, List.length_nil, Nat.mul_one, Nat.zero_add, Nat.add_zero, Nat.sub_zero, both_self', bytesV_length, bytesV_flat, bytesV_isU8, hl1, hg, k]
      simp
    have c1' : ((l.length : Int) == 1) = false := beq_f (by omega)
    rw [if_neg c1]
    have hs := split_lt (n := l.length) (by omega)
    have hp := split_pos (n := l.length) (by omega)
    have k1 := c269 l.length (by omega)
    have tl : (l.take (split l.length)).length = split l.length := by rw [List.length_take]; omega
    have dl : (l.drop (split l.length)).length = l.length - split l.length := List.length_drop
    have k2 := ih (split l.length) (by omega) (l.take (split l.length)) tl (by omega) (fun w h => hw w (List.mem_of_mem_take h))
    have k3 := ih (l.length - split l.length) (by omega) (l.drop (split l.length)) dl (by omega) (fun w h => hw w (List.mem_of_mem_drop h))
    rw [tl] at k2
    rw [dl] at k3
    have k4 := c270 (root (l.take (split l.length))) (root (l.drop (split l.length))) (by rw [root_length, root_length]; decide)
    rw [root_length, root_length] at k4
    have b0 : (0 : Int) ≤ ((split l.length : Nat) : Int) := by omega
    have b1 : ((split l.length : Nat) : Int) ≤ (l.length : Int) := by omega
    simp only [c0', c1', k1, Int.ofNat_lt, decide_true, decide_false, cond_true, cond_false, inB_nat, inB_zero, must_true, Int.toNat_natCast, asInt_int, asBool_bool, asSl_sl, asOsl_osl, asStr_str, orcE_R, orcE_W, orcE_L, orcE_X, need_some', asTup_tup, List.getElem?_cons_zero, List.getElem?_cons_succ, Bool.not_true, Bool.not_false, Bool.true_and, Bool.and_true, Bool.false_or, ble_dec, beq_dec, List.length_cons, List.length_nil, Nat.mul_one, Nat.zero_add, Nat.add_zero, Nat.sub_zero, both_self', bytesV_length, bytesV_flat, bytesV_isU8, b0, b1, List.drop_zero, psS_tk, psS_dp, k2, k3, k4]
theorem c298 : ∀ (n : Nat) (l : List (List UInt8)) (k : Nat), l.length = n → k < n → n ≤ 1000000 → (∀ w ∈ l, w.length ≤ 100000) → runE C 298 [.sl l.length (psS l), .int .i64 (k : Int)] = some (.tup [.osl (path l k).length (psO (path l k))]) := by
  intro n
  induction n using Nat.strongRecOn with
  | ind n ih =>
    intro l k hl hk hq hw
    refine E298 _ _ _ ?_
    unfold T298
    rw [path_eq k (by omega)]
    by_cases c1 : l.length = 1
    · rw [if_pos c1]
      have c1' : ((l.length : Int) == 1) = true := by rw [c1]; rfl
      simp only [c1', Int.ofNat_lt, decide_true, decide_false, cond_true, cond_false, inB_nat, inB_zero, must_true, Int.toNat_natCast, asInt_int, asBool_bool, asSl_sl, asOsl_osl, asStr_str, orcE_R, orcE_W, orcE_L, orcE_X, need_some', asTup_tup, List.getElem?_cons_zero, List.getElem?_cons_succ, Bool.not_true, Bool.not_false, Bool.true_and, Bool.and_true, Bool.false_or, ble_dec, beq_dec, List.length_cons, List.length_nil, Nat.mul_one, Nat.zero_add, Nat.add_zero, Nat.sub_zero, both_self', bytesV_length, bytesV_flat, bytesV_isU8]
      rfl
    have c1' : ((l.length : Int) == 1) = false := beq_f (by omega)
    rw [if_neg c1]
    have hs := split_lt (n := l.length) (by omega)
    have hp := split_pos (n := l.length) (by omega)
    have k1 := c269 l.length (by omega)
    have tl : (l.take (split l.length)).length = split l.length := by rw [List.length_take]; omega
    have dl : (l.drop (split l.length)).length = l.length - split l.length := List.length_drop
    have b0 : (0 : Int) ≤ ((split l.length : Nat) : Int) := by omega
    have b1 : ((split l.length : Nat) : Int) ≤ (l.length : Int) := by omega
    have pl := (pathF_words (l.take (split l.length)).length (l.take (split l.length)) k).1
    have pl : (path (l.take (split l.length)) k).length ≤ (l.take (split l.length)).length := pl
    have pr : (path (l.drop (split l.length)) (k - split l.length)).length ≤ (l.drop (split l.length)).length := (pathF_words (l.drop (split l.length)).length (l.drop (split l.length)) (k - split l.length)).1
    by_cases c2 : k < split l.length
    · rw [if_pos c2]
      have k2 := ih (split l.length) (by omega) (l.take (split l.length)) k tl c2 (by omega) (fun w h => hw w (List.mem_of_mem_take h))
      have k3 := c210 _ (l.drop (split l.length)) rfl (by omega) (fun w h => hw w (List.mem_of_mem_drop h))
      rw [tl] at k2
      rw [dl] at k3
      have d1 : (path (l.take (split l.length)) k).length + 1 ≤ 140737488355328 := by omega
      have d2 : ((path (l.take (split l.length)) k).length + 1) * 24 ≤ 140737488355328 := by omega
      simp only [c1', k1, Int.ofNat_lt, decide_true, decide_false, cond_true, cond_false, inB_nat, inB_zero, must_true, Int.toNat_natCast, asInt_int, asBool_bool, asSl_sl, asOsl_osl, asStr_str, orcE_R, orcE_W, orcE_L, orcE_X, need_some', asTup_tup, List.getElem?_cons_zero, List.getElem?_cons_succ, Bool.not_true, Bool.not_false, Bool.true_and, Bool.and_true, Bool.false_or, ble_dec, beq_dec, List.length_cons, List.length_nil, Nat.mul_one, Nat.zero_add, Nat.add_zero, Nat.sub_zero, both_self', bytesV_length, bytesV_flat, bytesV_isU8, c2, b0, b1, List.drop_zero, psS_tk, psS_dp, k2, k3, d1, d2, psO_snoc' _ _ (root_length _)]
      rw [List.length_append, List.length_singleton]
    · rw [if_neg c2]
      have k2 := ih (l.length - split l.length) (by omega) (l.drop (split l.length)) (k - split l.length) dl (by omega) (by omega) (fun w h => hw w (List.mem_of_mem_drop h))
      have k3 := c210 _ (l.take (split l.length)) rfl (by omega) (fun w h => hw w (List.mem_of_mem_take h))
      rw [dl] at k2
      rw [tl] at k3
      have w1 : IntKind.i64.wrap ((k : Int) - ((split l.length : Nat) : Int)) = ((k - split l.length : Nat) : Int) := by rw [w64 (by omega) (by omega)]; omega
      have d1 : (path (l.drop (split l.length)) (k - split l.length)).length + 1 ≤ 140737488355328 := by omega
      have d2 : ((path (l.drop (split l.length)) (k - split l.length)).length + 1) * 24 ≤ 140737488355328 := by omega
      simp only [c1', k1, Int.ofNat_lt, decide_true, decide_false, cond_true, cond_false, inB_nat, inB_zero, must_true, Int.toNat_natCast, asInt_int, asBool_bool, asSl_sl, asOsl_osl, asStr_str, orcE_R, orcE_W, orcE_L, orcE_X, need_some', asTup_tup, List.getElem?_cons_zero, List.getElem?_cons_succ, Bool.not_true, Bool.not_false, Bool.true_and, Bool.and_true, Bool.false_or, ble_dec, beq_dec, List.length_cons, List.length_nil, Nat.mul_one, Nat.zero_add, Nat.add_zero, Nat.sub_zero, both_self', bytesV_length, bytesV_flat, bytesV_isU8, c2, b0, b1, List.drop_zero, psS_tk, psS_dp, w1, k2, k3, d1, d2, psO_snoc' _ _ (root_length _)]
      rw [List.length_append, List.length_singleton]
theorem c273 (l : List (List UInt8)) (k : Nat) (hk : k < l.length) (hq : l.length ≤ 1000000) (hw : ∀ w ∈ l, w.length ≤ 100000) : runE C 273 [.sl l.length (psS l), .int .i64 (k : Int)] = some (.tup [.int .i64 (k : Int), .int .i64 (l.length : Int), .osl (path l k).length (psO (path l k))]) := by
  refine E273 _ _ _ ?_
  unfold T273
  simp only [Int.ofNat_lt, decide_true, decide_false, cond_true, cond_false, inB_nat, inB_zero, must_true, Int.toNat_natCast, asInt_int, asBool_bool, asSl_sl, asOsl_osl, asStr_str, orcE_R, orcE_W, orcE_L, orcE_X, need_some', asTup_tup, List.getElem?_cons_zero, List.getElem?_cons_succ, Bool.not_true, Bool.not_false, Bool.true_and, Bool.and_true, Bool.false_or, ble_dec, beq_dec, List.length_cons, List.length_nil, Nat.mul_one, Nat.zero_add, Nat.add_zero, Nat.sub_zero, both_self', bytesV_length, bytesV_flat, bytesV_isU8, c298 _ l k rfl hk hq hw]
end Go.Proofs.Ytehpmolckdmibaa.Tree
