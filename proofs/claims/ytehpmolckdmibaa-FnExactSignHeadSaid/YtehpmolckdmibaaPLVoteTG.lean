/-
  Votes and signed heads: sameness, marks; numbers and words in rows.
-/
import Derived.Test.YtehpmolckdmibaaPLOts2TG
import Derived.Test.YtehpmolckdmibaaPMVote
namespace Go.PI.Vote
open Go Go.PI Go.PI.Sha Go.PI.Rel Go.PI.Nest Go.PI.Tru
theorem ps_part (d : List (List UInt8)) (b : List UInt8) (r : Nat) : splice (prt (fun b => [bO b]) [.nilsl] d (r + 1)) d.length [.own false 5 1 b.length (bytesV b)] = prt (fun b => [bO b]) [.nilsl] (d ++ [b]) r := by
  have := prt_step (fun b => [bO b]) (sz := 1) (fun _ => rfl) (z := [.nilsl]) rfl d b r
  rw [Nat.mul_one] at this
  exact this
end Go.PI.Vote
namespace Go.Proofs.Ytehpmolckdmibaa.Vote
open Go Go.PI Go.PI.Sha Go.PI.Rel Go.PI.Nest Go.PI.Tru Go.PI.Set Go.PI.Tree Go.PI.Vote Go.Proofs.Ytehpmolckdmibaa.Sha Go.Proofs.Ytehpmolckdmibaa.By Go.Proofs.Ytehpmolckdmibaa.Nest Go.Proofs.Ytehpmolckdmibaa.Tru Go.Proofs.Ytehpmolckdmibaa.Set Go.Proofs.Ytehpmolckdmibaa.Tree EqG
set_option maxHeartbeats 1000000
set_option linter.unusedVariables false
set_option linter.unusedSimpArgs false
theorem l66 : ∀ (r d : List (List UInt8)) (left : Int) (n i : Nat), n = d.length + r.length → i = d.length → n ≤ 4611686018427387904 → (∀ v ∈ r, v.length ≤ 9223372036854775807) → 0 ≤ left → left ≤ 4611686018427387904 →
    loopE C 66 0 [true, true, true, false, true] [] [(0, V.sl n (psS (d ++ r))), (1, V.int .i64 left), (5, V.int .i64 (i : Int))] [] = some (.tup [.int .i64 (less left (tot List.length r))])
  | [], d, left, n, i, hn, hi, hq, hv, h1, h2 => by
    refine E66l1 _ _ _ _ ?_
    unfold T66l1
    have : ¬ i < n := by simp at hn; omega
    rw [less_ge (by simp [tot]; omega)]
    simp [this, tot]
  | v :: r, d, left, n, i, hn, hi, hq, hv, h1, h2 => by
    simp only [List.length_cons] at hn
    have hlt : i < n := by omega
    have hw := w64_succ (n := i) (by omega)
    have hg : (psS (d ++ v :: r))[i]? = some (bS v) := by subst hi; exact psS_at d v r
    have hl : (psS (d ++ v :: r)).length = n := by rw [psS_length]; simp; omega
    have k := c115 v.length (bytesV v) left (hv v (by simp)) h1 h2
    have et : tot List.length (v :: r) = v.length + tot List.length r := rfl
    rw [et]
    refine E66l1 _ _ _ _ ?_
    unfold T66l1
    by_cases g : left < v.length
    · rw [if_pos g] at k
      rw [less_lt (by omega)]
      simp only [Int.ofNat_lt, decide_true, decide_false, cond_true, cond_false, inB_nat, inB_zero, must_true, Int.toNat_natCast, asInt_int, asBool_bool, asSl_sl, asOsl_osl, asStr_str, orcE_R, orcE_W, orcE_L, orcE_X, need_some', asTup_tup, List.getElem?_cons_zero, List.getElem?_cons_succ, Bool.not_true, Bool.not_false, Bool.true_and, Bool.and_true, Bool.false_or, ble_dec, beq_dec, List.length_cons, List.length_nil, Nat.mul_one, Nat.zero_add, Nat.add_zero, Nat.sub_zero, both_self', bytesV_length, bytesV_flat, bytesV_isU8, hlt, hl, hg, bS, k]
      rfl
    · rw [if_neg g] at k
      have n1 : ¬ (left - (v.length : Int) < 0) := by omega
      have ih := l66 r (d ++ [v]) (left - v.length) n (i + 1) (by simp; omega) (by simp; omega) hq (fun u hu => hv u (by simp [hu])) (by omega) (by omega)
      rw [less_less g] at ih
      simp only [List.append_assoc, List.singleton_append] at ih
      simp only [Int.ofNat_lt, decide_true, decide_false, cond_true, cond_false, inB_nat, inB_zero, must_true, Int.toNat_natCast, asInt_int, asBool_bool, asSl_sl, asOsl_osl, asStr_str, orcE_R, orcE_W, orcE_L, orcE_X, need_some', asTup_tup, List.getElem?_cons_zero, List.getElem?_cons_succ, Bool.not_true, Bool.not_false, Bool.true_and, Bool.and_true, Bool.false_or, ble_dec, beq_dec, List.length_cons, List.length_nil, Nat.mul_one, Nat.zero_add, Nat.add_zero, Nat.sub_zero, both_self', bytesV_length, bytesV_flat, bytesV_isU8, hlt, hl, hg, bS, k, n1, hw, ih]
theorem c66 (l : List (List UInt8)) (left : Int) (h : l.length ≤ 9223372036854775807) (hv : ∀ v ∈ l, v.length ≤ 9223372036854775807) (h1 : 0 ≤ left) (h2 : left ≤ 4611686018427387904) :
    runE C 66 [.sl l.length (psS l), .int .i64 left] = some (.tup [.int .i64 (less left (l.length + tot List.length l))]) := by
  refine E66 _ _ _ ?_
  unfold T66
  rw [w64 (by omega) (by omega)]
  by_cases g : left < (l.length : Int)
  · rw [less_lt (by omega), decide_eq_true (by omega)]
    rfl
  · have k := l66 l [] (left - l.length) l.length 0 (by simp) rfl (by omega) hv (by omega) (by omega)
    rw [less_less g] at k
    rw [decide_eq_false (by omega)]
    exact k
theorem l67 : ∀ (r d : List (List UInt8)) (n i : Nat), n = d.length + r.length → i = d.length → n < 1000000000 → tot List.length r ≤ 100000000 →
    loopE C 67 0 [true, true, false, true] [] [(0, V.sl n (psS (d ++ r))), (3, V.ref 0), (4, V.int .i64 (i : Int))] [Ob.nrow [] 22 n (prt (fun b => [bO b]) [.nilsl] d r.length)] = some (.tup [.osl n (psO (d ++ r))])
  | [], d, n, i, hn, hi, hq, ht => by
    refine E67l1 _ _ _ _ _ ?_
    unfold T67l1
    have : ¬ i < n := by simp at hn; omega
    rw [List.length_nil, prt_full]
    simp [this, psO]
  | v :: r, d, n, i, hn, hi, hq, ht => by
    simp only [List.length_cons] at hn ⊢
    simp only [tot] at ht
    have ih := l67 r (d ++ [v]) n (i + 1) (by simp; omega) (by simp; omega) hq (by omega)
    refine E67l1 _ _ _ _ _ ?_
    unfold T67l1
    have hlt : i < n := by omega
    have hw := w64_succ (n := i) (by omega)
    have hg : (psS (d ++ v :: r))[i]? = some (bS v) := by subst hi; exact psS_at d v r
    have hl : (psS (d ++ v :: r)).length = n := by rw [psS_length]; simp; omega
    have hs : splice (prt (fun b => [bO b]) [.nilsl] d (r.length + 1)) i [V.own false 5 1 v.length (bytesV v)] = prt (fun b => [bO b]) [.nilsl] (d ++ [v]) r.length := by subst hi; exact ps_part d v r.length
    have hl2 : (prt (fun b => [bO b]) [.nilsl] d (r.length + 1)).length = n := by rw [prt_length (fun b => [bO b]) (sz := 1) (fun _ => rfl) (z := [.nilsl]) rfl]; omega
    have hb : i + (0 + 1) ≤ n := by omega
    simp only [List.append_assoc, List.singleton_append] at ih
    simp only [Int.ofNat_lt, decide_true, decide_false, cond_true, cond_false, inB_nat, inB_zero, must_true, Int.toNat_natCast, asInt_int, asBool_bool, asSl_sl, asOsl_osl, asStr_str, orcE_R, orcE_W, orcE_L, orcE_X, need_some', asTup_tup, List.getElem?_cons_zero, List.getElem?_cons_succ, Bool.not_true, Bool.not_false, Bool.true_and, Bool.and_true, Bool.false_or, ble_dec, beq_dec, List.length_cons, List.length_nil, Nat.mul_one, Nat.zero_add, Nat.add_zero, Nat.sub_zero, both_self', bytesV_length, bytesV_flat, bytesV_isU8, hlt, hl, hg, bS, c119 v (by omega), hl2, hs, hw, ih]
    simp only [hb, Int.ofNat_lt, decide_true, decide_false, cond_true, cond_false, inB_nat, inB_zero, must_true, Int.toNat_natCast, asInt_int, asBool_bool, asSl_sl, asOsl_osl, asStr_str, orcE_R, orcE_W, orcE_L, orcE_X, need_some', asTup_tup, List.getElem?_cons_zero, List.getElem?_cons_succ, Bool.not_true, Bool.not_false, Bool.true_and, Bool.and_true, Bool.false_or, ble_dec, beq_dec, List.length_cons, List.length_nil, Nat.mul_one, Nat.zero_add, Nat.add_zero, Nat.sub_zero, both_self', bytesV_length, bytesV_flat, bytesV_isU8]
theorem c67 (l : List (List UInt8)) (hf : fitP l) : runE C 67 [.sl l.length (psS l)] = some (.tup [.osl l.length (psO l)]) := by
  refine E67 _ _ ?_
  unfold T67
  have := l67 l [] l.length 0 (by simp) rfl (by have := hf.1; omega) hf.2
  rw [prt_zero] at this
  rw [must_of (by have := hf.1; simp; omega)]
  simpa using this
theorem c68 (l : List Int) (hq : l.length ≤ 1000000000) : runE C 68 [.sl l.length (ints l)] = some (.tup [.osl l.length (ints l)]) := by
  have loop : ∀ n i (o : List Int), l.length - i = n → i ≤ l.length → o.length = l.length → (∀ j, j < i → o.getD j 0 = l.getD j 0) →
      loopE C 68 0 [true, true, false, true] [] [(0, V.sl l.length (ints l)), (3, V.ref 0), (4, V.int .i64 (i : Int))] [Ob.row 2 l.length (ints o) false] = some (.tup [.osl l.length (ints l)]) := by
    intro n
    induction n with
    | zero =>
      intro i o h hi ho he
      have : i = l.length := by omega
      subst this
      refine E68l1 _ _ _ _ _ ?_
      unfold T68l1
      have : o = l := List.ext_getElem ho fun j h1 h2 => by
        have := he j (by omega)
        simpa [List.getD, h1, h2] using this
      subst this
      simp [ints_flat]
    | succ n ih =>
      intro i o h hi ho he
      have hlt : i < l.length := by omega
      have hio : i < o.length := by omega
      have hw := w64_succ (n := i) (by omega)
      have ih := ih (i + 1) (o.set i l[i]) (by omega) (by omega) (by simpa using ho) (fun j hj => by
        by_cases e : j = i
        · subst e; simp [List.getD, hio, hlt]
        · have := he j (by omega)
          simpa [List.getD, List.getElem?_set, Ne.symm e] using this)
      refine E68l1 _ _ _ _ _ ?_
      unfold T68l1
      simp only [Int.ofNat_lt, decide_true, decide_false, cond_true, cond_false, inB_nat, inB_zero, must_true, Int.toNat_natCast, asInt_int, asBool_bool, asSl_sl, asOsl_osl, asStr_str, orcE_R, orcE_W, orcE_L, orcE_X, need_some', asTup_tup, List.getElem?_cons_zero, List.getElem?_cons_succ, Bool.not_true, Bool.not_false, Bool.true_and, Bool.and_true, Bool.false_or, ble_dec, beq_dec, List.length_cons, List.length_nil, Nat.mul_one, Nat.zero_add, Nat.add_zero, Nat.sub_zero, both_self', bytesV_length, bytesV_flat, bytesV_isU8, hlt, ints_get hlt, ints_set hio, hw, ints_length, ho, ih]
      simp only [show i + (0 + 1) ≤ l.length by omega, Int.ofNat_lt, decide_true, decide_false, cond_true, cond_false, inB_nat, inB_zero, must_true, Int.toNat_natCast, asInt_int, asBool_bool, asSl_sl, asOsl_osl, asStr_str, orcE_R, orcE_W, orcE_L, orcE_X, need_some', asTup_tup, List.getElem?_cons_zero, List.getElem?_cons_succ, Bool.not_true, Bool.not_false, Bool.true_and, Bool.and_true, Bool.false_or, ble_dec, beq_dec, List.length_cons, List.length_nil, Nat.mul_one, Nat.zero_add, Nat.add_zero, Nat.sub_zero, both_self', bytesV_length, bytesV_flat, bytesV_isU8]
  refine E68 _ _ ?_
  unfold T68
  have := loop l.length 0 (List.replicate l.length 0) (by omega) (by omega) (by simp) (fun j hj => by omega)
  have e1 : ((l.length : Int) ≤ 140737488355328) := by omega
  have e2 : ((l.length : Int) * 8 ≤ 140737488355328) := by omega
  simp only [Int.ofNat_lt, decide_true, decide_false, cond_true, cond_false, inB_nat, inB_zero, must_true, Int.toNat_natCast, asInt_int, asBool_bool, asSl_sl, asOsl_osl, asStr_str, orcE_R, orcE_W, orcE_L, orcE_X, need_some', asTup_tup, List.getElem?_cons_zero, List.getElem?_cons_succ, Bool.not_true, Bool.not_false, Bool.true_and, Bool.and_true, Bool.false_or, ble_dec, beq_dec, List.length_cons, List.length_nil, Nat.mul_one, Nat.zero_add, Nat.add_zero, Nat.sub_zero, both_self', bytesV_length, bytesV_flat, bytesV_isU8, e1, e2, ints_reps, Int.natCast_nonneg]
  exact this
theorem c71 (l : List Int) (hq : l.length ≤ 1000000000) : runE C 71 [.sl l.length (ints l), .sl l.length (ints l)] = some (.tup [.bool true]) := by
  have loop : ∀ n i, l.length - i = n → i ≤ l.length →
      loopE C 71 0 [true, true, false, true] [] [(0, V.sl l.length (ints l)), (1, V.sl l.length (ints l)), (5, V.int .i64 (i : Int))] [] = some (.tup [.bool true]) := by
    intro n
    induction n with
    | zero =>
      intro i h hi
      refine E71l1 _ _ _ _ _ ?_
      unfold T71l1
      have : ¬ i < l.length := by omega
      simp only [Int.ofNat_lt, decide_true, decide_false, cond_true, cond_false, inB_nat, inB_zero, must_true, Int.toNat_natCast, asInt_int, asBool_bool, asSl_sl, asOsl_osl, asStr_str, orcE_R, orcE_W, orcE_L, orcE_X, need_some', asTup_tup, List.getElem?_cons_zero, List.getElem?_cons_succ, Bool.not_true, Bool.not_false, Bool.true_and, Bool.and_true, Bool.false_or, ble_dec, beq_dec, List.length_cons, List.length_nil, Nat.mul_one, Nat.zero_add, Nat.add_zero, Nat.sub_zero, both_self', bytesV_length, bytesV_flat, bytesV_isU8, this]
    | succ n ih =>
      intro i h hi
      have hlt : i < l.length := by omega
      have hw := w64_succ (n := i) (by omega)
      refine E71l1 _ _ _ _ _ ?_
      unfold T71l1
      simp only [Int.ofNat_lt, decide_true, decide_false, cond_true, cond_false, inB_nat, inB_zero, must_true, Int.toNat_natCast, asInt_int, asBool_bool, asSl_sl, asOsl_osl, asStr_str, orcE_R, orcE_W, orcE_L, orcE_X, need_some', asTup_tup, List.getElem?_cons_zero, List.getElem?_cons_succ, Bool.not_true, Bool.not_false, Bool.true_and, Bool.and_true, Bool.false_or, ble_dec, beq_dec, List.length_cons, List.length_nil, Nat.mul_one, Nat.zero_add, Nat.add_zero, Nat.sub_zero, both_self', bytesV_length, bytesV_flat, bytesV_isU8, hlt, ints_get hlt, bne_f, hw, ih (i + 1) (by omega) (by omega)]
  refine E71 _ _ _ _ ?_
  unfold T71
  simp only [bne_f, cond_false]
  exact loop l.length 0 (by omega) (by omega)
theorem c73 (l : List Int) (k : Int) (hk : 0 ≤ k) (hq : l.length < 1000000000) (hk2 : k < 4611686018427387904) :
    runWE C 73 [0] [.ref 0, .int .i64 k] [.row 2 l.length (ints l) false] = some (.tup [.int .i64 (k + l.length), .osl l.length (ints (mkN k l))]) := by
  have loop : ∀ n i, l.length - i = n → i ≤ l.length →
      loopWE C 73 [0] [Ob.row 2 0 [] false] 0 [true, false, true] [] [(0, V.ref 0), (1, V.int .i64 (k + i)), (5, V.int .i64 (i : Int))] [Ob.row 2 l.length (ints ((mkN k l).take i ++ l.drop i)) false] = some (.tup [.int .i64 (k + l.length), .osl l.length (ints (mkN k l))]) := by
    intro n
    induction n with
    | zero =>
      intro i h hi
      have : i = l.length := by omega
      subst this
      refine E73l1 _ _ _ _ ?_
      unfold T73l1
      have : (mkN k l).take l.length = mkN k l := List.take_of_length_le (by simp)
      simp [this]
    | succ n ih =>
      intro i h hi
      have hlt : i < l.length := by omega
      have hw := w64_succ (n := i) (by omega)
      have ih := ih (i + 1) (by omega) (by omega)
      refine E73l1 _ _ _ _ ?_
      unfold T73l1
      have k1 : IntKind.i64.wrap (k + i + 1) = k + ((i + 1 : Nat) : Int) := by rw [w64 (by omega) (by omega)]; omega
      obtain ⟨L, hL⟩ : ∃ L, L = (mkN k l).take i ++ l.drop i := ⟨_, rfl⟩
      have hlen : L.length = l.length := by rw [hL]; simp; omega
      have hi0 : i < L.length := by omega
      have hset : L.set i (k + i) = (mkN k l).take (i + 1) ++ l.drop (i + 1) := by
        rw [hL, ← take_drop_set (a := mkN k l) (b := l) (by simp) (by simpa using hlt), mkN_get]
      rw [← hL]
      simp only [Int.ofNat_lt, decide_true, decide_false, cond_true, cond_false, inB_nat, inB_zero, must_true, Int.toNat_natCast, asInt_int, asBool_bool, asSl_sl, asOsl_osl, asStr_str, orcE_R, orcE_W, orcE_L, orcE_X, need_some', asTup_tup, List.getElem?_cons_zero, List.getElem?_cons_succ, Bool.not_true, Bool.not_false, Bool.true_and, Bool.and_true, Bool.false_or, ble_dec, beq_dec, List.length_cons, List.length_nil, Nat.mul_one, Nat.zero_add, Nat.add_zero, Nat.sub_zero, both_self', bytesV_length, bytesV_flat, bytesV_isU8, hlt, k1, ints_set hi0, hw, ints_length, hlen, hset, ih]
      simp only [show i + (0 + 1) ≤ l.length by omega, Int.ofNat_lt, decide_true, decide_false, cond_true, cond_false, inB_nat, inB_zero, must_true, Int.toNat_natCast, asInt_int, asBool_bool, asSl_sl, asOsl_osl, asStr_str, orcE_R, orcE_W, orcE_L, orcE_X, need_some', asTup_tup, List.getElem?_cons_zero, List.getElem?_cons_succ, Bool.not_true, Bool.not_false, Bool.true_and, Bool.and_true, Bool.false_or, ble_dec, beq_dec, List.length_cons, List.length_nil, Nat.mul_one, Nat.zero_add, Nat.add_zero, Nat.sub_zero, both_self', bytesV_length, bytesV_flat, bytesV_isU8]
  have h := loop l.length 0 (by simp) (by simp)
  refine E73 _ _ _ ?_
  unfold T73
  simpa using h
theorem c196 (b : List UInt8) : runE C 196 [.sl b.length (bytesV b)] = some (.tup [.bool (decide (b.length = 32))]) := by
  refine E196 _ _ ?_
  unfold T196
  have : (((b.length : Nat) : Int) == 32) = decide (b.length = 32) := by rw [Bool.eq_iff_iff]; simp; omega
  rw [this]
def notD (b : List UInt8) : Bool := !decide (b.length = 32)
theorem c247 (b : List UInt8) : runE C 247 [.sl b.length (bytesV b)] = some (.tup [.bool (notD b)]) := by
  refine E247 _ _ ?_
  unfold T247
  simp only [Int.ofNat_lt, decide_true, decide_false, cond_true, cond_false, inB_nat, inB_zero, must_true, Int.toNat_natCast, asInt_int, asBool_bool, asSl_sl, asOsl_osl, asStr_str, orcE_R, orcE_W, orcE_L, orcE_X, need_some', asTup_tup, List.getElem?_cons_zero, List.getElem?_cons_succ, Bool.not_true, Bool.not_false, Bool.true_and, Bool.and_true, Bool.false_or, ble_dec, beq_dec, List.length_cons, List.length_nil, Nat.mul_one, Nat.zero_add, Nat.add_zero, Nat.sub_zero, both_self', bytesV_length, bytesV_flat, bytesV_isU8, c196]
  rfl
theorem lD : ∀ (r d : List (List UInt8)) (n i : Nat), n = d.length + r.length → i = d.length → n < 1000000000 →
    ∃ x : Int, (decide (x ≥ 0) = r.any notD) ∧ loopE C 211 0 [true, false, true] [] [(0, V.sl n (psS (d ++ r))), (1, V.fn 247 []), (7, V.int .i64 (n : Int)), (8, V.int .i64 (i : Int))] [] = some (.tup [.int .i64 x])
  | [], d, n, i, hn, hi, hq => by
    refine ⟨-1, by simp, E211l2 _ _ _ _ ?_⟩
    unfold T211l2
    have : ¬ i < n := by simp at hn; omega
    simp [this]
  | b :: r, d, n, i, hn, hi, hq => by
    simp only [List.length_cons] at hn
    have hlt : i < n := by omega
    have hw := w64_succ (n := i) (by omega)
    have hg : (psS (d ++ b :: r))[i]? = some (bS b) := by subst hi; exact psS_at d b r
    have hl : (psS (d ++ b :: r)).length = n := by rw [psS_length]; simp; omega
    by_cases e : notD b = true
    · refine ⟨i, by simp [e], E211l2 _ _ _ _ ?_⟩
      unfold T211l2
      simp only [Int.ofNat_lt, decide_true, decide_false, cond_true, cond_false, inB_nat, inB_zero, must_true, Int.toNat_natCast, asInt_int, asBool_bool, asSl_sl, asOsl_osl, asStr_str, orcE_R, orcE_W, orcE_L, orcE_X, need_some', asTup_tup, List.getElem?_cons_zero, List.getElem?_cons_succ, Bool.not_true, Bool.not_false, Bool.true_and, Bool.and_true, Bool.false_or, ble_dec, beq_dec, List.length_cons, List.length_nil, Nat.mul_one, Nat.zero_add, Nat.add_zero, Nat.sub_zero, both_self', bytesV_length, bytesV_flat, bytesV_isU8, hlt, hg, hl, bS, c247, e]
    · obtain ⟨x, h1, ih⟩ := lD r (d ++ [b]) n (i + 1) (by simp; omega) (by simp; omega) hq
      refine ⟨x, by rw [h1]; simp [e], E211l2 _ _ _ _ ?_⟩
      unfold T211l2
      have e : notD b = false := by simpa using e
      simp only [List.append_assoc, List.singleton_append] at ih
      simp only [Int.ofNat_lt, decide_true, decide_false, cond_true, cond_false, inB_nat, inB_zero, must_true, Int.toNat_natCast, asInt_int, asBool_bool, asSl_sl, asOsl_osl, asStr_str, orcE_R, orcE_W, orcE_L, orcE_X, need_some', asTup_tup, List.getElem?_cons_zero, List.getElem?_cons_succ, Bool.not_true, Bool.not_false, Bool.true_and, Bool.and_true, Bool.false_or, ble_dec, beq_dec, List.length_cons, List.length_nil, Nat.mul_one, Nat.zero_add, Nat.add_zero, Nat.sub_zero, both_self', bytesV_length, bytesV_flat, bytesV_isU8, hlt, hg, hl, bS, c247, e, hw, ih]
theorem iD (l : List (List UInt8)) (h : l.length < 1000000000) : ∃ x : Int, (decide (x ≥ 0) = l.any notD) ∧ runE C 211 [.sl l.length (psS l), .fn 247 []] = some (.tup [.int .i64 x]) := by
  obtain ⟨x, h1, h2⟩ := lD l [] l.length 0 (by simp) rfl h
  refine ⟨x, h1, E211s2 _ _ ?_⟩
  unfold T211s2
  exact h2
theorem cDG (l : List (List UInt8)) (h : l.length < 1000000000) : runE C 137 [.sl l.length (psS l), .fn 247 []] = some (.tup [.bool (l.any notD)]) := by
  obtain ⟨x, h1, h2⟩ := iD l h
  refine E137s2 _ _ ?_
  unfold T137s2
  simp only [Int.ofNat_lt, decide_true, decide_false, cond_true, cond_false, inB_nat, inB_zero, must_true, Int.toNat_natCast, asInt_int, asBool_bool, asSl_sl, asOsl_osl, asStr_str, orcE_R, orcE_W, orcE_L, orcE_X, need_some', asTup_tup, List.getElem?_cons_zero, List.getElem?_cons_succ, Bool.not_true, Bool.not_false, Bool.true_and, Bool.and_true, Bool.false_or, ble_dec, beq_dec, List.length_cons, List.length_nil, Nat.mul_one, Nat.zero_add, Nat.add_zero, Nat.sub_zero, both_self', bytesV_length, bytesV_flat, bytesV_isU8, h2, h1]
theorem c180 (l : List (List UInt8)) (h : l.length < 1000000000) : runE C 180 [.sl l.length (psS l)] = some (.tup [.bool (!l.any notD)]) := by
  obtain ⟨x, h1, h2⟩ := iD l h
  refine E180 _ _ ?_
  unfold T180
  first
    | (simp only [Int.ofNat_lt, decide_true, decide_false, cond_true, cond_false, inB_nat, inB_zero, must_true, Int.toNat_natCast, asInt_int, asBool_bool, asSl_sl, asOsl_osl, asStr_str, orcE_R, orcE_W, orcE_L, orcE_X, need_some', asTup_tup, List.getElem?_cons_zero, List.getElem?_cons_succ, Bool.not_true, Bool.not_false, Bool.true_and, Bool.and_true, Bool.false_or, ble_dec, beq_dec, List.length_cons, List.length_nil, Nat.mul_one, Nat.zero_add, Nat.add_zero, Nat.sub_zero, both_self', bytesV_length, bytesV_flat, bytesV_isU8, h2, h1]; done)
    | simp only [Int.ofNat_lt, decide_true, decide_false, cond_true, cond_false, inB_nat, inB_zero, must_true, Int.toNat_natCast, asInt_int, asBool_bool, asSl_sl, asOsl_osl, asStr_str, orcE_R, orcE_W, orcE_L, orcE_X, need_some', asTup_tup, List.getElem?_cons_zero, List.getElem?_cons_succ, Bool.not_true, Bool.not_false, Bool.true_and, Bool.and_true, Bool.false_or, ble_dec, beq_dec, List.length_cons, List.length_nil, Nat.mul_one, Nat.zero_add, Nat.add_zero, Nat.sub_zero, both_self', bytesV_length, bytesV_flat, bytesV_isU8, cDG l h]
theorem c136 (x : HB) : runE C 136 [.agg [.int .i64 x.hgt, .int .i64 x.tim, .sl x.root.length (bytesV x.root), .sl x.set.length (bytesV x.set), .sl x.nxt.length (bytesV x.nxt)]] = some (.tup [.int .i64 (hbFault x)]) := by
  refine E136 _ _ _ _ _ _ _ _ ?_
  unfold T136
  have k := c180 [x.root, x.set, x.nxt] (by simp)
  have k : runE C 180 [.sl 3 [.sl x.root.length (bytesV x.root), .sl x.set.length (bytesV x.set), .sl x.nxt.length (bytesV x.nxt)]] = _ := k
  unfold hbFault
  by_cases g1 : x.root.length = 32 ∧ x.set.length = 32 ∧ x.nxt.length = 32
  · have e : (!([x.root, x.set, x.nxt] : List (List UInt8)).any notD) = true := by simp [notD, g1]
    rw [e] at k
    simp only [Int.ofNat_lt, decide_true, decide_false, cond_true, cond_false, inB_nat, inB_zero, must_true, Int.toNat_natCast, asInt_int, asBool_bool, asSl_sl, asOsl_osl, asStr_str, orcE_R, orcE_W, orcE_L, orcE_X, need_some', asTup_tup, List.getElem?_cons_zero, List.getElem?_cons_succ, Bool.not_true, Bool.not_false, Bool.true_and, Bool.and_true, Bool.false_or, ble_dec, beq_dec, List.length_cons, List.length_nil, Nat.mul_one, Nat.zero_add, Nat.add_zero, Nat.sub_zero, both_self', bytesV_length, bytesV_flat, bytesV_isU8, k, c92]
    by_cases g2 : 1 ≤ x.hgt ∧ x.hgt ≤ 1000000 <;> by_cases g3 : 0 ≤ x.tim ∧ x.tim ≤ 1099511627776 <;> simp [g1, g2, g3]
  · have e : (!([x.root, x.set, x.nxt] : List (List UInt8)).any notD) = false := by
      simp only [notD, List.any_cons, List.any_nil, Bool.or_false, Bool.not_eq_false', Bool.or_eq_true, Bool.not_eq_true', decide_eq_false_iff_not]
      omega
    rw [e] at k
    simp only [Int.ofNat_lt, decide_true, decide_false, cond_true, cond_false, inB_nat, inB_zero, must_true, Int.toNat_natCast, asInt_int, asBool_bool, asSl_sl, asOsl_osl, asStr_str, orcE_R, orcE_W, orcE_L, orcE_X, need_some', asTup_tup, List.getElem?_cons_zero, List.getElem?_cons_succ, Bool.not_true, Bool.not_false, Bool.true_and, Bool.and_true, Bool.false_or, ble_dec, beq_dec, List.length_cons, List.length_nil, Nat.mul_one, Nat.zero_add, Nat.add_zero, Nat.sub_zero, both_self', bytesV_length, bytesV_flat, bytesV_isU8, k]
    simp [g1]
theorem c143 (x : HB) : runE C 143 [.agg [.int .i64 x.hgt, .int .i64 x.tim, .sl x.root.length (bytesV x.root), .sl x.set.length (bytesV x.set), .sl x.nxt.length (bytesV x.nxt)]] = some (.tup [.int .i64 (hbFault x)]) := by
  refine E143 _ _ _ _ _ _ _ _ ?_
  unfold T143
  unfold hbFault
  have z : ∀ n : Nat, ((n : Int) != 32) = !decide (n = 32) := fun n => by rw [Bool.eq_iff_iff]; simp; omega
  simp only [z, c103, Int.ofNat_lt, decide_true, decide_false, cond_true, cond_false, inB_nat, inB_zero, must_true, Int.toNat_natCast, asInt_int, asBool_bool, asSl_sl, asOsl_osl, asStr_str, orcE_R, orcE_W, orcE_L, orcE_X, need_some', asTup_tup, List.getElem?_cons_zero, List.getElem?_cons_succ, Bool.not_true, Bool.not_false, Bool.true_and, Bool.and_true, Bool.false_or, ble_dec, beq_dec, List.length_cons, List.length_nil, Nat.mul_one, Nat.zero_add, Nat.add_zero, Nat.sub_zero, both_self', bytesV_length, bytesV_flat, bytesV_isU8]
  by_cases g1 : x.root.length = 32 <;> by_cases g1' : x.set.length = 32 <;> by_cases g1'' : x.nxt.length = 32 <;> by_cases g2 : 1 ≤ x.hgt ∧ x.hgt ≤ 1000000 <;> by_cases g3 : 0 ≤ x.tim ∧ x.tim ≤ 1099511627776 <;> simp [g1, g1', g1'', g2, g3]

/-! ### sameness -/
theorem bb (p : Bool) : (bif !p then some (V.tup [V.bool false]) else some (V.tup [V.bool true])) = some (V.tup [V.bool p]) := by cases p <;> rfl
theorem ba (a b : Int) (q : Prop) [Decidable q] : (bif a != b then some (V.tup [V.bool false]) else some (V.tup [V.bool (decide q)])) = some (V.tup [V.bool (decide (a = b ∧ q))]) := by
  by_cases e : a = b <;> simp [e, bne_t]
theorem bp (p q : Prop) [Decidable p] [Decidable q] : (bif !decide p then some (V.tup [V.bool false]) else some (V.tup [V.bool (decide q)])) = some (V.tup [V.bool (decide (p ∧ q))]) := by
  by_cases e : p <;> simp [e]
theorem c303 (x y : Vt) (h : vtfit x) : runE C 303 [.agg [.int .i64 x.spl, .int .i64 x.cnt, .sl x.path.length (psS x.path)], .agg [.int .i64 y.spl, .int .i64 y.cnt, .sl y.path.length (psS y.path)]] = some (.tup [.bool (decide (x.spl = y.spl ∧ x.cnt = y.cnt ∧ x.path = y.path))]) := by
  refine E303 _ _ _ _ _ _ _ _ ?_
  unfold T303
  have k := c70 x.path y.path (by have := h.2; unfold vtN at this; omega) (by have := h.1; unfold vtZ at this; omega)
  simp only [Int.ofNat_lt, decide_true, decide_false, cond_true, cond_false, inB_nat, inB_zero, must_true, Int.toNat_natCast, asInt_int, asBool_bool, asSl_sl, asOsl_osl, asStr_str, orcE_R, orcE_W, orcE_L, orcE_X, need_some', asTup_tup, List.getElem?_cons_zero, List.getElem?_cons_succ, Bool.not_true, Bool.not_false, Bool.true_and, Bool.and_true, Bool.false_or, ble_dec, beq_dec, List.length_cons, List.length_nil, Nat.mul_one, Nat.zero_add, Nat.add_zero, Nat.sub_zero, both_self', bytesV_length, bytesV_flat, bytesV_isU8, k]
  by_cases e1 : x.spl = y.spl <;> by_cases e2 : x.cnt = y.cnt <;> by_cases e3 : x.path = y.path <;> simp [e1, e2, e3, bne_t]
theorem c301 (x y : Vt) (h : vtfit x) : runE C 301 [.agg [.int .i64 x.leaf, .sl x.parts.length (psS x.parts), .int .i64 x.spl, .int .i64 x.cnt, .sl x.path.length (psS x.path)], .agg [.int .i64 y.leaf, .sl y.parts.length (psS y.parts), .int .i64 y.spl, .int .i64 y.cnt, .sl y.path.length (psS y.path)]] = some (.tup [.bool (decide (x.leaf = y.leaf ∧ x.parts = y.parts ∧ x.spl = y.spl ∧ x.cnt = y.cnt ∧ x.path = y.path))]) := by
  refine E301 _ _ _ _ _ _ _ _ _ _ _ _ _ _ ?_
  unfold T301
  have k := c70 x.parts y.parts (by have := h.2; unfold vtN at this; omega) (by have := h.1; unfold vtZ at this; omega)
  simp only [Int.ofNat_lt, decide_true, decide_false, cond_true, cond_false, inB_nat, inB_zero, must_true, Int.toNat_natCast, asInt_int, asBool_bool, asSl_sl, asOsl_osl, asStr_str, orcE_R, orcE_W, orcE_L, orcE_X, need_some', asTup_tup, List.getElem?_cons_zero, List.getElem?_cons_succ, Bool.not_true, Bool.not_false, Bool.true_and, Bool.and_true, Bool.false_or, ble_dec, beq_dec, List.length_cons, List.length_nil, Nat.mul_one, Nat.zero_add, Nat.add_zero, Nat.sub_zero, both_self', bytesV_length, bytesV_flat, bytesV_isU8, k, c303 x y h, bb, bp, ba]
theorem c282 (x y : Vt) (h : vtfit x) : runE C 282 [.agg [.int .i64 x.plc, .int .i64 x.leaf, .sl x.parts.length (psS x.parts), .int .i64 x.spl, .int .i64 x.cnt, .sl x.path.length (psS x.path)], .agg [.int .i64 y.plc, .int .i64 y.leaf, .sl y.parts.length (psS y.parts), .int .i64 y.spl, .int .i64 y.cnt, .sl y.path.length (psS y.path)]] = some (.tup [.bool (decide (x = y))]) := by
  refine E282 _ _ _ _ _ _ _ _ _ _ _ _ _ _ _ _ ?_
  unfold T282
  simp only [Int.ofNat_lt, decide_true, decide_false, cond_true, cond_false, inB_nat, inB_zero, must_true, Int.toNat_natCast, asInt_int, asBool_bool, asSl_sl, asOsl_osl, asStr_str, orcE_R, orcE_W, orcE_L, orcE_X, need_some', asTup_tup, List.getElem?_cons_zero, List.getElem?_cons_succ, Bool.not_true, Bool.not_false, Bool.true_and, Bool.and_true, Bool.false_or, ble_dec, beq_dec, List.length_cons, List.length_nil, Nat.mul_one, Nat.zero_add, Nat.add_zero, Nat.sub_zero, both_self', bytesV_length, bytesV_flat, bytesV_isU8, c301 x y h, bb, ba]
  obtain ⟨a0, a1, a2, a3, a4, a5⟩ := x
  obtain ⟨b0, b1, b2, b3, b4, b5⟩ := y
  simp only [Vt.mk.injEq]
theorem l226 : ∀ (r r' d d' : List Vt) (n i : Nat), n = d.length + r.length → r.length = r'.length → d'.length = d.length → i = d.length → n < 1000000000 → (∀ v ∈ r, vtfit v) →
    loopE C 226 0 [true, true, false, true] [] [(0, V.sl n (vtsS (d ++ r))), (1, V.sl n (vtsS (d' ++ r'))), (5, V.int .i64 (i : Int))] [] = some (.tup [.bool (decide (r = r'))])
  | [], [], d, d', n, i, hn, hr, hd, hi, hq, ht => by
    refine E226l1 _ _ _ _ _ ?_
    unfold T226l1
    have : ¬ i < n := by simp at hn; omega
    simp [this]
  | [], _ :: _, d, d', n, i, hn, hr, hd, hi, hq, ht => by simp at hr
  | _ :: _, [], d, d', n, i, hn, hr, hd, hi, hq, ht => by simp at hr
  | b :: r, b' :: r', d, d', n, i, hn, hr, hd, hi, hq, ht => by
    simp only [List.length_cons] at hn hr
    have ih := l226 r r' (d ++ [b]) (d' ++ [b']) n (i + 1) (by simp; omega) (by omega) (by simp [hd]) (by simp; omega) hq (fun v h => ht v (by simp [h]))
    refine E226l1 _ _ _ _ _ ?_
    unfold T226l1
    have hlt : i < n := by omega
    have hw := w64_succ (n := i) (by omega)
    have g0 : (vtsS (d ++ b :: r))[i * 6]? = _ := vtsS_at0 hi b r
    have g1 : (vtsS (d ++ b :: r))[i * 6 + 1]? = _ := vtsS_at1 hi b r
    have g2 : (vtsS (d ++ b :: r))[i * 6 + 1 + 1]? = _ := vtsS_at2 hi b r
    have g3 : (vtsS (d ++ b :: r))[i * 6 + 1 + 1 + 1]? = _ := vtsS_at3 hi b r
    have g4 : (vtsS (d ++ b :: r))[i * 6 + 1 + 1 + 1 + 1]? = _ := vtsS_at4 hi b r
    have g5 : (vtsS (d ++ b :: r))[i * 6 + 1 + 1 + 1 + 1 + 1]? = _ := vtsS_at5 hi b r
    have j0 : (vtsS (d' ++ b' :: r'))[i * 6]? = _ := vtsS_at0 (hi.trans hd.symm) b' r'
    have j1 : (vtsS (d' ++ b' :: r'))[i * 6 + 1]? = _ := vtsS_at1 (hi.trans hd.symm) b' r'
    have j2 : (vtsS (d' ++ b' :: r'))[i * 6 + 1 + 1]? = _ := vtsS_at2 (hi.trans hd.symm) b' r'
    have j3 : (vtsS (d' ++ b' :: r'))[i * 6 + 1 + 1 + 1]? = _ := vtsS_at3 (hi.trans hd.symm) b' r'
    have j4 : (vtsS (d' ++ b' :: r'))[i * 6 + 1 + 1 + 1 + 1]? = _ := vtsS_at4 (hi.trans hd.symm) b' r'
    have j5 : (vtsS (d' ++ b' :: r'))[i * 6 + 1 + 1 + 1 + 1 + 1]? = _ := vtsS_at5 (hi.trans hd.symm) b' r'
    simp only [List.append_assoc, List.singleton_append] at ih
    rw [dec_cons]
    simp only [Int.ofNat_lt, decide_true, decide_false, cond_true, cond_false, inB_nat, inB_zero, must_true, Int.toNat_natCast, asInt_int, asBool_bool, asSl_sl, asOsl_osl, asStr_str, orcE_R, orcE_W, orcE_L, orcE_X, need_some', asTup_tup, List.getElem?_cons_zero, List.getElem?_cons_succ, Bool.not_true, Bool.not_false, Bool.true_and, Bool.and_true, Bool.false_or, ble_dec, beq_dec, List.length_cons, List.length_nil, Nat.mul_one, Nat.zero_add, Nat.add_zero, Nat.sub_zero, both_self', bytesV_length, bytesV_flat, bytesV_isU8, hlt, g0, g1, g2, g3, g4, g5, j0, j1, j2, j3, j4, j5, c282 b b' (ht b (by simp)), hw, ih]
    by_cases e : b = b' <;> simp [e]
theorem c226 (a b : List Vt) (hf : vtsfit a) : runE C 226 [.sl a.length (vtsS a), .sl b.length (vtsS b)] = some (.tup [.bool (decide (a = b))]) := by
  refine E226 _ _ _ _ ?_
  unfold T226
  by_cases e : a.length = b.length
  · have := l226 a b [] [] a.length 0 (by simp) e rfl rfl (by have := hf.1; omega) (fun v h => vtsfit_of hf h)
    simp only [List.nil_append] at this
    rw [← e]
    simpa using this
  · have h1 : a ≠ b := fun h => e (by rw [h])
    have h2 : ((a.length : Int) != (b.length : Int)) = true := by simp; omega
    simp [h1, h2]
theorem c153 (x y : HB) (a b : List Vt) (h : fitH x) (hf : vtsfit a) : runE C 153 [.agg [.int .i64 x.hgt, .int .i64 x.tim, .sl x.root.length (bytesV x.root), .sl x.set.length (bytesV x.set), .sl x.nxt.length (bytesV x.nxt), .sl a.length (vtsS a)], .agg [.int .i64 y.hgt, .int .i64 y.tim, .sl y.root.length (bytesV y.root), .sl y.set.length (bytesV y.set), .sl y.nxt.length (bytesV y.nxt), .sl b.length (vtsS b)]] = some (.tup [.bool (decide (x = y ∧ a = b))]) := by
  refine E153 _ _ _ _ _ _ _ _ _ _ _ _ _ _ _ _ _ _ _ _ ?_
  unfold T153
  simp only [Int.ofNat_lt, decide_true, decide_false, cond_true, cond_false, inB_nat, inB_zero, must_true, Int.toNat_natCast, asInt_int, asBool_bool, asSl_sl, asOsl_osl, asStr_str, orcE_R, orcE_W, orcE_L, orcE_X, need_some', asTup_tup, List.getElem?_cons_zero, List.getElem?_cons_succ, Bool.not_true, Bool.not_false, Bool.true_and, Bool.and_true, Bool.false_or, ble_dec, beq_dec, List.length_cons, List.length_nil, Nat.mul_one, Nat.zero_add, Nat.add_zero, Nat.sub_zero, both_self', bytesV_length, bytesV_flat, bytesV_isU8, c35 x y h, c226 a b hf, bb, bp]
theorem c69 (c e : Int) (x y : HB) (a b : List Vt) (h : fitH x) (hf : vtsfit a) : runE C 69 [.agg [.int .i64 c, .int .i64 x.hgt, .int .i64 x.tim, .sl x.root.length (bytesV x.root), .sl x.set.length (bytesV x.set), .sl x.nxt.length (bytesV x.nxt), .sl a.length (vtsS a)], .agg [.int .i64 e, .int .i64 y.hgt, .int .i64 y.tim, .sl y.root.length (bytesV y.root), .sl y.set.length (bytesV y.set), .sl y.nxt.length (bytesV y.nxt), .sl b.length (vtsS b)]] = some (.tup [.bool (decide (c = e ∧ x = y ∧ a = b))]) := by
  refine E69 _ _ _ _ _ _ _ _ _ _ _ _ _ _ _ _ _ _ _ _ _ _ ?_
  unfold T69
  simp only [Int.ofNat_lt, decide_true, decide_false, cond_true, cond_false, inB_nat, inB_zero, must_true, Int.toNat_natCast, asInt_int, asBool_bool, asSl_sl, asOsl_osl, asStr_str, orcE_R, orcE_W, orcE_L, orcE_X, need_some', asTup_tup, List.getElem?_cons_zero, List.getElem?_cons_succ, Bool.not_true, Bool.not_false, Bool.true_and, Bool.and_true, Bool.false_or, ble_dec, beq_dec, List.length_cons, List.length_nil, Nat.mul_one, Nat.zero_add, Nat.add_zero, Nat.sub_zero, both_self', bytesV_length, bytesV_flat, bytesV_isU8, c153 x y a b h hf, bb, ba]
/-! ### marks -/
theorem l227 : ∀ (r d : List Vt) (k : Int) (n i : Nat), n = d.length + r.length → i = d.length → 0 ≤ k → k + vtsC r < 4611686010427387904 → n < 1000000000 → (∀ v ∈ r, vtfit v) →
    loopWE C 227 [0] [Ob.nrow [] 195 0 []] 0 [true, false, true] [] [(0, V.ref 0), (1, V.int .i64 k), (5, V.int .i64 (i : Int))] [Ob.nrow [] 195 n (vtsO (d ++ r))] = some (.tup [.int .i64 (k + vtsC r), .osl n (vtsO (d ++ vtsM k r))])
  | [], d, k, n, i, hn, hi, hk, hk2, hq, ht => by
    refine E227l1 _ _ _ _ ?_
    unfold T227l1
    have : ¬ i < n := by simp at hn; omega
    simp [this, vtsM, vtsC, tot]
  | v :: r, d, k, n, i, hn, hi, hk, hk2, hq, ht => by
    simp only [List.length_cons] at hn
    have ec : vtsC (v :: r) = vtC v + vtsC r := rfl
    rw [ec] at hk2 ⊢
    have hv := ht v (by simp)
    unfold vtfit vtZ vtN at hv
    have ec2 : vtC v = tot List.length v.parts + tot List.length v.path + 4 := rfl
    have ih := l227 r (d ++ [vtR k v]) (k + vtC v) n (i + 1) (by simp; omega) (by simp; omega) (by omega) (by omega) hq (fun u hu => ht u (by simp [hu]))
    refine E227l1 _ _ _ _ ?_
    unfold T227l1
    have hlt : i < n := by omega
    have hw := w64_succ (n := i) (by omega)
    have w1 : IntKind.i64.wrap (k + 1) = k + 1 := w64 (by omega) (by omega)
    have w2 : IntKind.i64.wrap (k + 1 + 1) = k + 2 := by rw [w64 (by omega) (by omega)]; omega
    have w3 : IntKind.i64.wrap (k + 2 + (tot List.length v.parts : Int) + 1) = k + 3 + (tot List.length v.parts : Int) := by rw [w64 (by omega) (by omega)]; omega
    have w4 : IntKind.i64.wrap (k + 3 + (tot List.length v.parts : Int) + 1) = k + 4 + (tot List.length v.parts : Int) := by rw [w64 (by omega) (by omega)]; omega
    have s0 : splice (vtsO (d ++ v :: r)) (i * 6) [.int .i64 k] = _ := vtsO_set0 hi v r k
    have s1 : splice (vtsO (d ++ (⟨k, v.leaf, v.parts, v.spl, v.cnt, v.path⟩ : Vt) :: r)) (i * 6 + 1) [.int .i64 (k + 1)] = _ := vtsO_set1 hi _ r (k + 1)
    have q2 : (vtsO (d ++ (⟨k, k + 1, v.parts, v.spl, v.cnt, v.path⟩ : Vt) :: r))[i * 6 + 1 + 1]? = _ := vtsO_at2 hi _ r
    have m2 := c72 v.parts (k + 2) (by omega) (by omega) (by omega) (by omega)
    have s2 : (vtsO (d ++ (⟨k, k + 1, v.parts, v.spl, v.cnt, v.path⟩ : Vt) :: r)).set (i * 6 + 1 + 1) (.own true 22 1 v.parts.length (psO (mkPs (k + 2) v.parts))) = _ := vtsO_set2 hi _ r (mkPs (k + 2) v.parts) (mkPs_length _ _).symm
    have s3 : splice (vtsO (d ++ (⟨k, k + 1, mkPs (k + 2) v.parts, v.spl, v.cnt, v.path⟩ : Vt) :: r)) (i * 6 + 1 + 2) [.int .i64 (k + 2 + (tot List.length v.parts : Int))] = _ := vtsO_set3 hi _ r _
    have s4 : splice (vtsO (d ++ (⟨k, k + 1, mkPs (k + 2) v.parts, k + 2 + (tot List.length v.parts : Int), v.cnt, v.path⟩ : Vt) :: r)) (i * 6 + 1 + 2 + 1) [.int .i64 (k + 3 + (tot List.length v.parts : Int))] = _ := vtsO_set4 hi _ r _
    have q5 : (vtsO (d ++ (⟨k, k + 1, mkPs (k + 2) v.parts, k + 2 + (tot List.length v.parts : Int), k + 3 + (tot List.length v.parts : Int), v.path⟩ : Vt) :: r))[i * 6 + 1 + 2 + 2]? = _ := vtsO_at5 hi _ r
    have m5 := c72 v.path (k + 4 + (tot List.length v.parts : Int)) (by omega) (by omega) (by omega) (by omega)
    have s5 : (vtsO (d ++ (⟨k, k + 1, mkPs (k + 2) v.parts, k + 2 + (tot List.length v.parts : Int), k + 3 + (tot List.length v.parts : Int), v.path⟩ : Vt) :: r)).set (i * 6 + 1 + 2 + 2) (.own true 22 1 v.path.length (psO (mkPs (k + 4 + (tot List.length v.parts : Int)) v.path))) = _ := vtsO_set5 hi _ r (mkPs (k + 4 + (tot List.length v.parts : Int)) v.path) (mkPs_length _ _).symm
    have hl : ∀ u : Vt, (vtsO (d ++ u :: r)).length = n * 6 := fun u => by rw [vtsO_length]; simp; omega
    have b0 : i * 6 + (0 + 1) ≤ n * 6 := by omega
    have b1 : i * 6 + 1 + (0 + 1) ≤ n * 6 := by omega
    have b3 : i * 6 + 1 + 2 + (0 + 1) ≤ n * 6 := by omega
    have b4 : i * 6 + 1 + 2 + 1 + (0 + 1) ≤ n * 6 := by omega
    have e1 : k + (vtC v : Int) = k + 4 + (tot List.length v.parts : Int) + (tot List.length v.path : Int) := by rw [ec2]; omega
    have e2 : d ++ [vtR k v] ++ vtsM (k + vtC v) r = d ++ vtsM k (v :: r) := by simp [vtsM]
    have e3 : k + (vtC v : Int) + (vtsC r : Int) = k + ((vtC v + vtsC r : Nat) : Int) := by omega
    rw [e2, e3, e1] at ih
    simp only [List.append_assoc, List.singleton_append, vtR] at ih
    simp only [Int.ofNat_lt, decide_true, decide_false, cond_true, cond_false, inB_nat, inB_zero, must_true, Int.toNat_natCast, asInt_int, asBool_bool, asSl_sl, asOsl_osl, asStr_str, orcE_R, orcE_W, orcE_L, orcE_X, need_some', asTup_tup, List.getElem?_cons_zero, List.getElem?_cons_succ, Bool.not_true, Bool.not_false, Bool.true_and, Bool.and_true, Bool.false_or, ble_dec, beq_dec, List.length_cons, List.length_nil, Nat.mul_one, Nat.zero_add, Nat.add_zero, Nat.sub_zero, both_self', bytesV_length, bytesV_flat, bytesV_isU8, hlt, w1, w2, s0, s1, hl, q2, asOwn_own, m2, s2, w3, s3, s4, w4, q5, m5, s5, hw, ih]
    simp only [b0, b1, b3, b4, asOwn_own, Int.ofNat_lt, decide_true, decide_false, cond_true, cond_false, inB_nat, inB_zero, must_true, Int.toNat_natCast, asInt_int, asBool_bool, asSl_sl, asOsl_osl, asStr_str, orcE_R, orcE_W, orcE_L, orcE_X, need_some', asTup_tup, List.getElem?_cons_zero, List.getElem?_cons_succ, Bool.not_true, Bool.not_false, Bool.true_and, Bool.and_true, Bool.false_or, ble_dec, beq_dec, List.length_cons, List.length_nil, Nat.mul_one, Nat.zero_add, Nat.add_zero, Nat.sub_zero, both_self', bytesV_length, bytesV_flat, bytesV_isU8, m2, m5, w3, w4, hl, s2, s3, s4, s5, q5, hw, ih]
theorem c227 (l : List Vt) (k : Int) (hk : 0 ≤ k) (hk2 : k < 4611686009427387904) (hf : vtsfit l) :
    runWE C 227 [0] [.ref 0, .int .i64 k] [.nrow [] 195 l.length (vtsO l)] = some (.tup [.int .i64 (k + vtsC l), .osl l.length (vtsO (vtsM k l))]) := by
  refine E227 _ _ _ ?_
  unfold T227
  have := vtsC_bound hf
  exact l227 l [] k l.length 0 (by simp) rfl hk (by omega) (by have := hf.1; omega) (fun v h => vtsfit_of hf h)
theorem l228 : ∀ (r d : List Vt) (k : Int) (n i : Nat), n = d.length + r.length → i = d.length → 0 ≤ k → k + vtsC r < 4611686010427387904 → n < 1000000000 → (∀ v ∈ r, vtfit v) →
    loopE C 228 0 [true, false, true] [] [(0, V.sl n (vtsS (d ++ vtsM k r))), (1, V.int .i64 k), (5, V.int .i64 (i : Int))] [] = some (.tup [.int .i64 (k + vtsC r)])
  | [], d, k, n, i, hn, hi, hk, hk2, hq, ht => by
    refine E228l1 _ _ _ _ ?_
    unfold T228l1
    have : ¬ i < n := by simp at hn; omega
    simp [this, vtsM, vtsC, tot]
  | v :: r, d, k, n, i, hn, hi, hk, hk2, hq, ht => by
    simp only [List.length_cons] at hn
    have ec : vtsC (v :: r) = vtC v + vtsC r := rfl
    rw [ec] at hk2 ⊢
    have hv := ht v (by simp)
    unfold vtfit vtZ vtN at hv
    have ec2 : vtC v = tot List.length v.parts + tot List.length v.path + 4 := rfl
    have ih := l228 r (d ++ [vtR k v]) (k + vtC v) n (i + 1) (by simp; omega) (by simp; omega) (by omega) (by omega) hq (fun u hu => ht u (by simp [hu]))
    refine E228l1 _ _ _ _ ?_
    unfold T228l1
    have hlt : i < n := by omega
    have hw := w64_succ (n := i) (by omega)
    have w1 : IntKind.i64.wrap (k + 1) = k + 1 := w64 (by omega) (by omega)
    have w2 : IntKind.i64.wrap (k + 1 + 1) = k + 2 := by rw [w64 (by omega) (by omega)]; omega
    have w3 : IntKind.i64.wrap (k + 2 + (tot List.length v.parts : Int) + 1) = k + 3 + (tot List.length v.parts : Int) := by rw [w64 (by omega) (by omega)]; omega
    have w4 : IntKind.i64.wrap (k + 3 + (tot List.length v.parts : Int) + 1) = k + 4 + (tot List.length v.parts : Int) := by rw [w64 (by omega) (by omega)]; omega
    have em : vtsM k (v :: r) = vtR k v :: vtsM (k + vtC v) r := rfl
    rw [em]
    have g0 : (vtsS (d ++ vtR k v :: vtsM (k + vtC v) r))[i * 6]? = some (.int .i64 k) := vtsS_at0 hi _ _
    have g1 : (vtsS (d ++ vtR k v :: vtsM (k + vtC v) r))[i * 6 + 1]? = some (.int .i64 (k + 1)) := vtsS_at1 hi _ _
    have g2 : (vtsS (d ++ vtR k v :: vtsM (k + vtC v) r))[i * 6 + 1 + 1]? = some (.sl v.parts.length (psS (mkPs (k + 2) v.parts))) := by
      have := vtsS_at2 hi (vtR k v) (vtsM (k + vtC v) r)
      rw [show (vtR k v).parts = mkPs (k + 2) v.parts from rfl, mkPs_length] at this
      exact this
    have g3 : (vtsS (d ++ vtR k v :: vtsM (k + vtC v) r))[i * 6 + 1 + 2]? = some (.int .i64 (k + 2 + (tot List.length v.parts : Int))) := vtsS_at3 hi _ _
    have g4 : (vtsS (d ++ vtR k v :: vtsM (k + vtC v) r))[i * 6 + 1 + 2 + 1]? = some (.int .i64 (k + 3 + (tot List.length v.parts : Int))) := vtsS_at4 hi _ _
    have g5 : (vtsS (d ++ vtR k v :: vtsM (k + vtC v) r))[i * 6 + 1 + 2 + 2]? = some (.sl v.path.length (psS (mkPs (k + 4 + (tot List.length v.parts : Int)) v.path))) := by
      have := vtsS_at5 hi (vtR k v) (vtsM (k + vtC v) r)
      rw [show (vtR k v).path = mkPs (k + 4 + (tot List.length v.parts : Int)) v.path from rfl, mkPs_length] at this
      exact this
    have hl : (vtsS (d ++ vtR k v :: vtsM (k + vtC v) r)).length = n * 6 := by rw [vtsS_length]; simp [vtsM_length]; omega
    have c2 : i * 6 + 1 + 1 < n * 6 := by omega
    have c5 : i * 6 + 1 + 2 + 2 < n * 6 := by omega
    have m2 := c201 v.parts (k + 2) (by omega) (by omega) (by omega) (by omega)
    have m5 := c201 v.path (k + 4 + (tot List.length v.parts : Int)) (by omega) (by omega) (by omega) (by omega)
    have n2 : ¬ (k + 2 + (tot List.length v.parts : Int) < 0) := by omega
    have n5 : ¬ (k + 4 + (tot List.length v.parts : Int) + (tot List.length v.path : Int) < 0) := by omega
    have e1 : k + (vtC v : Int) = k + 4 + (tot List.length v.parts : Int) + (tot List.length v.path : Int) := by rw [ec2]; omega
    have e3 : k + (vtC v : Int) + (vtsC r : Int) = k + ((vtC v + vtsC r : Nat) : Int) := by omega
    rw [e3] at ih
    simp only [List.append_assoc, List.singleton_append] at ih
    rw [e1] at ih g0 g1 g2 g3 g4 g5 hl ⊢
    simp only [Int.ofNat_lt, decide_true, decide_false, cond_true, cond_false, inB_nat, inB_zero, must_true, Int.toNat_natCast, asInt_int, asBool_bool, asSl_sl, asOsl_osl, asStr_str, orcE_R, orcE_W, orcE_L, orcE_X, need_some', asTup_tup, List.getElem?_cons_zero, List.getElem?_cons_succ, Bool.not_true, Bool.not_false, Bool.true_and, Bool.and_true, Bool.false_or, ble_dec, beq_dec, List.length_cons, List.length_nil, Nat.mul_one, Nat.zero_add, Nat.add_zero, Nat.sub_zero, both_self', bytesV_length, bytesV_flat, bytesV_isU8, hlt, g0, g1, g2, g3, g4, g5, hl, c2, c5, bne_f, w1, w2, m2, n2, w3, w4, m5, n5, hw, ih]
theorem c228 (l : List Vt) (k : Int) (hk : 0 ≤ k) (hk2 : k < 4611686009427387904) (hf : vtsfit l) :
    runE C 228 [.sl l.length (vtsS (vtsM k l)), .int .i64 k] = some (.tup [.int .i64 (k + vtsC l)]) := by
  refine E228 _ _ _ ?_
  unfold T228
  have := vtsC_bound hf
  exact l228 l [] k l.length 0 (by simp) rfl hk (by omega) (by have := hf.1; omega) (fun v h => vtsfit_of hf h)
theorem c154 (x : HB) (l : List Vt) (k : Int) (hk : 0 ≤ k) (hk2 : k < 4611686000427387904) (h : fitH x) (hf : vtsfit l) :
    runWE C 154 [0, 1, 2, 3] [.agg [.int .i64 x.hgt, .int .i64 x.tim, .ref 0, .ref 1, .ref 2, .ref 3], .int .i64 k] [Ob.row 5 x.root.length (bytesV x.root) false, Ob.row 5 x.set.length (bytesV x.set) false, Ob.row 5 x.nxt.length (bytesV x.nxt) false, Ob.nrow [] 195 l.length (vtsO l)] =
      some (.tup [.int .i64 (k + szH x + vtsC l), .osl x.root.length (bytesV (mkH k x).root), .osl x.set.length (bytesV (mkH k x).set), .osl x.nxt.length (bytesV (mkH k x).nxt), .osl l.length (vtsO (vtsM (k + szH x) l))]) := by
  refine E154 _ _ _ _ _ _ _ _ _ _ _ ?_
  unfold T154
  have hs : szH x ≤ 100000000 := h
  simp only [Int.ofNat_lt, decide_true, decide_false, cond_true, cond_false, inB_nat, inB_zero, must_true, Int.toNat_natCast, asInt_int, asBool_bool, asSl_sl, asOsl_osl, asStr_str, orcE_R, orcE_W, orcE_L, orcE_X, need_some', asTup_tup, List.getElem?_cons_zero, List.getElem?_cons_succ, Bool.not_true, Bool.not_false, Bool.true_and, Bool.and_true, Bool.false_or, ble_dec, beq_dec, List.length_cons, List.length_nil, Nat.mul_one, Nat.zero_add, Nat.add_zero, Nat.sub_zero, both_self', bytesV_length, bytesV_flat, bytesV_isU8, c37 x k hk (by omega) h, c227 l (k + szH x) (by omega) (by omega) hf]
theorem c74 (c : Int) (x : HB) (l : List Vt) (k : Int) (hk : 0 ≤ k) (hk2 : k < 4611686000427387904) (h : fitH x) (hf : vtsfit l) :
    runWE C 74 [0, 1, 2, 3] [.agg [.int .i64 c, .int .i64 x.hgt, .int .i64 x.tim, .ref 0, .ref 1, .ref 2, .ref 3], .int .i64 k] [Ob.row 5 x.root.length (bytesV x.root) false, Ob.row 5 x.set.length (bytesV x.set) false, Ob.row 5 x.nxt.length (bytesV x.nxt) false, Ob.nrow [] 195 l.length (vtsO l)] =
      some (.tup [.int .i64 (k + szH x + vtsC l), .osl x.root.length (bytesV (mkH k x).root), .osl x.set.length (bytesV (mkH k x).set), .osl x.nxt.length (bytesV (mkH k x).nxt), .osl l.length (vtsO (vtsM (k + szH x) l))]) := by
  refine E74 _ _ _ _ _ _ _ _ _ _ _ _ ?_
  unfold T74
  simp only [Int.ofNat_lt, decide_true, decide_false, cond_true, cond_false, inB_nat, inB_zero, must_true, Int.toNat_natCast, asInt_int, asBool_bool, asSl_sl, asOsl_osl, asStr_str, orcE_R, orcE_W, orcE_L, orcE_X, need_some', asTup_tup, List.getElem?_cons_zero, List.getElem?_cons_succ, Bool.not_true, Bool.not_false, Bool.true_and, Bool.and_true, Bool.false_or, ble_dec, beq_dec, List.length_cons, List.length_nil, Nat.mul_one, Nat.zero_add, Nat.add_zero, Nat.sub_zero, both_self', bytesV_length, bytesV_flat, bytesV_isU8, c154 x l k hk hk2 h hf]
theorem c155 (x : HB) (l : List Vt) (k : Int) (hk : 0 ≤ k) (hk2 : k < 4611686000427387904) (h : fitH x) (hf : vtsfit l) :
    runE C 155 [.agg [.int .i64 x.hgt, .int .i64 x.tim, .sl x.root.length (bytesV (mkH k x).root), .sl x.set.length (bytesV (mkH k x).set), .sl x.nxt.length (bytesV (mkH k x).nxt), .sl l.length (vtsS (vtsM (k + szH x) l))], .int .i64 k] = some (.tup [.int .i64 (k + szH x + vtsC l)]) := by
  refine E155 _ _ _ _ _ _ _ _ _ _ _ ?_
  unfold T155
  have hs : szH x ≤ 100000000 := h
  have n1 : ¬ (k + (szH x : Int) < 0) := by omega
  have n2 : ¬ (k + (szH x : Int) + (vtsC l : Int) < 0) := by omega
  simp only [Int.ofNat_lt, decide_true, decide_false, cond_true, cond_false, inB_nat, inB_zero, must_true, Int.toNat_natCast, asInt_int, asBool_bool, asSl_sl, asOsl_osl, asStr_str, orcE_R, orcE_W, orcE_L, orcE_X, need_some', asTup_tup, List.getElem?_cons_zero, List.getElem?_cons_succ, Bool.not_true, Bool.not_false, Bool.true_and, Bool.and_true, Bool.false_or, ble_dec, beq_dec, List.length_cons, List.length_nil, Nat.mul_one, Nat.zero_add, Nat.add_zero, Nat.sub_zero, both_self', bytesV_length, bytesV_flat, bytesV_isU8, c199 x k hk (by omega) h, n1, c228 l (k + szH x) (by omega) (by omega) hf, n2]
theorem c75 (c : Int) (x : HB) (l : List Vt) (k : Int) (hk : 0 ≤ k) (hk2 : k < 4611686000427387904) (h : fitH x) (hf : vtsfit l) :
    runE C 75 [.agg [.int .i64 c, .int .i64 x.hgt, .int .i64 x.tim, .sl x.root.length (bytesV (mkH k x).root), .sl x.set.length (bytesV (mkH k x).set), .sl x.nxt.length (bytesV (mkH k x).nxt), .sl l.length (vtsS (vtsM (k + szH x) l))], .int .i64 k] = some (.tup [.int .i64 (k + szH x + vtsC l)]) := by
  refine E75 _ _ _ _ _ _ _ _ _ _ _ _ ?_
  unfold T75
  have n2 : ¬ (k + (szH x : Int) + (vtsC l : Int) < 0) := by omega
  simp only [Int.ofNat_lt, decide_true, decide_false, cond_true, cond_false, inB_nat, inB_zero, must_true, Int.toNat_natCast, asInt_int, asBool_bool, asSl_sl, asOsl_osl, asStr_str, orcE_R, orcE_W, orcE_L, orcE_X, need_some', asTup_tup, List.getElem?_cons_zero, List.getElem?_cons_succ, Bool.not_true, Bool.not_false, Bool.true_and, Bool.and_true, Bool.false_or, ble_dec, beq_dec, List.length_cons, List.length_nil, Nat.mul_one, Nat.zero_add, Nat.add_zero, Nat.sub_zero, both_self', bytesV_length, bytesV_flat, bytesV_isU8, c155 x l k hk hk2 h hf, n2]
end Go.Proofs.Ytehpmolckdmibaa.Vote
