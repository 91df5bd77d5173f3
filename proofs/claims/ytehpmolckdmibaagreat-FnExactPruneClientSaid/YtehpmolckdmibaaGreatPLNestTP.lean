/-
  Lists of byte lists: marked, held, cloned, the same.
-/
import Derived.Test.YtehpmolckdmibaaGreatPLBytesTP
import Derived.Test.YtehpmolckdmibaaGreatPMNest
namespace Go.Proofs.YtehpmolckdmibaaGreat.Nest
open Go Go.PI Go.PI.Sha Go.PI.Rel Go.PI.Nest Go.Proofs.YtehpmolckdmibaaGreat.Sha Go.Proofs.YtehpmolckdmibaaGreat.By EqP
set_option maxHeartbeats 1000000
set_option linter.unusedVariables false
set_option linter.unusedSimpArgs false

theorem psS_parts (l : List (List UInt8)) : psS l = partsV l := by
  induction l with
  | nil => rfl
  | cons b l ih => unfold psS at ih ⊢; rw [List.flatMap_cons, ih]; rfl
theorem l127 : ∀ (r d : List UInt8) (k : Int) (n i : Nat), n = d.length + r.length → i = d.length → 0 ≤ k → k + r.length < 4611686018427387904 → n < 1000000000 →
    loopWE C 127 [0] [Ob.row 5 0 [] false] 0 [true, false, true] [] [(0, V.ref 0), (1, V.int .i64 k), (5, V.int .i64 (i : Int))] [Ob.row 5 n (bytesV (d ++ r)) false] = some (.tup [.int .i64 (k + r.length), .osl n (bytesV (d ++ mkB k r.length))])
  | [], d, k, n, i, hn, hi, hk, hk2, hq => by
    refine E127l1 _ _ _ _ ?_
    unfold T127l1
    have : ¬ i < n := by simp at hn; omega
    simp [this, mkB]
  | b :: r, d, k, n, i, hn, hi, hk, hk2, hq => by
    simp only [List.length_cons] at hn hk2 ⊢
    have ih := l127 r (d ++ [b8 k]) (k + 1) n (i + 1) (by simp; omega) (by simp; omega) (by omega) (by omega) hq
    refine E127l1 _ _ _ _ ?_
    unfold T127l1
    have hlt : i < n := by omega
    have hw := w64_succ (n := i) (by omega)
    have hs : splice (bytesV (d ++ b :: r)) i [V.int .u8 ((b8 k).toNat : Int)] = bytesV (d ++ [b8 k] ++ r) := by
      subst hi; rw [splice_bytes (by simp)]; simp
    have hk' : IntKind.i64.wrap (k + 1) = k + 1 := w64 (by omega) (by omega)
    have hln : (d ++ b :: r).length = n := by simp; omega
    have e1 : k + 1 + (r.length : Int) = k + ((r.length + 1 : Nat) : Int) := by omega
    have e2 : d ++ [b8 k] ++ mkB (k + 1) r.length = d ++ mkB k (r.length + 1) := by simp [mkB]
    rw [e1, e2] at ih
    simp only [Int.ofNat_lt, decide_true, decide_false, cond_true, cond_false, inB_nat, inB_zero, must_true, Int.toNat_natCast, asInt_int, asBool_bool, asSl_sl, asOsl_osl, asStr_str, orcE_R, orcE_W, orcE_L, orcE_X, need_some', asTup_tup, List.getElem?_cons_zero, List.getElem?_cons_succ, Bool.not_true, Bool.not_false, Bool.true_and, Bool.and_true, Bool.false_or, ble_dec, beq_dec, List.length_cons, List.length_nil, Nat.mul_one, Nat.zero_add, Nat.add_zero, Nat.sub_zero, both_self', bytesV_length, bytesV_flat, bytesV_isU8, hlt, wrap_b8, hs, hw, hk', ih, hln]
    simp only [show i + (0 + 1) ≤ n by omega, Int.ofNat_lt, decide_true, decide_false, cond_true, cond_false, inB_nat, inB_zero, must_true, Int.toNat_natCast, asInt_int, asBool_bool, asSl_sl, asOsl_osl, asStr_str, orcE_R, orcE_W, orcE_L, orcE_X, need_some', asTup_tup, List.getElem?_cons_zero, List.getElem?_cons_succ, Bool.not_true, Bool.not_false, Bool.true_and, Bool.and_true, Bool.false_or, ble_dec, beq_dec, List.length_cons, List.length_nil, Nat.mul_one, Nat.zero_add, Nat.add_zero, Nat.sub_zero, both_self', bytesV_length, bytesV_flat, bytesV_isU8]
theorem c127 (l : List UInt8) (k : Int) (hk : 0 ≤ k) (hq : l.length < 1000000000) (hk2 : k < 4611686017427387904) :
    runWE C 127 [0] [.ref 0, .int .i64 k] [.row 5 l.length (bytesV l) false] = some (.tup [.int .i64 (k + l.length), .osl l.length (bytesV (mkB k l.length))]) := by
  refine E127 _ _ _ ?_
  unfold T127
  exact l127 l [] k l.length 0 (by simp) rfl hk (by omega) hq
theorem l185 : ∀ (m : Nat) (d : List UInt8) (k : Int) (n i : Nat), n = d.length + m → i = d.length → 0 ≤ k → k + m < 4611686018427387904 → n < 1000000000 →
    loopE C 185 0 [true, false, true] [] [(0, V.sl n (bytesV (d ++ mkB k m))), (1, V.int .i64 k), (5, V.int .i64 (i : Int))] [] = some (.tup [.int .i64 (k + m)])
  | 0, d, k, n, i, hn, hi, hk, hk2, hq => by
    refine E185l1 _ _ _ _ ?_
    unfold T185l1
    have : ¬ i < n := by omega
    simp [this]
  | m + 1, d, k, n, i, hn, hi, hk, hk2, hq => by
    have ih := l185 m (d ++ [b8 k]) (k + 1) n (i + 1) (by simp; omega) (by simp; omega) (by omega) (by omega) hq
    refine E185l1 _ _ _ _ ?_
    unfold T185l1
    have hlt : i < n := by omega
    have hw := w64_succ (n := i) (by omega)
    have e0 : d ++ mkB k (m + 1) = d ++ [b8 k] ++ mkB (k + 1) m := by simp [mkB]
    have hg : (bytesV (d ++ [b8 k] ++ mkB (k + 1) m))[i]? = some (V.int .u8 ((b8 k).toNat : Int)) := by
      subst hi; simp [bytesV]
    have hk' : IntKind.i64.wrap (k + 1) = k + 1 := w64 (by omega) (by omega)
    have e1 : k + 1 + (m : Int) = k + ((m + 1 : Nat) : Int) := by omega
    rw [e1] at ih
    rw [e0]
    simp only [Int.ofNat_lt, decide_true, decide_false, cond_true, cond_false, inB_nat, inB_zero, must_true, Int.toNat_natCast, asInt_int, asBool_bool, asSl_sl, asOsl_osl, asStr_str, orcE_R, orcE_W, orcE_L, orcE_X, need_some', asTup_tup, List.getElem?_cons_zero, List.getElem?_cons_succ, Bool.not_true, Bool.not_false, Bool.true_and, Bool.and_true, Bool.false_or, ble_dec, beq_dec, List.length_cons, List.length_nil, Nat.mul_one, Nat.zero_add, Nat.add_zero, Nat.sub_zero, both_self', bytesV_length, bytesV_flat, bytesV_isU8, hlt, hg, wrap_b8, bne_f, hw, hk', ih]
theorem c185 (n : Nat) (k : Int) (hk : 0 ≤ k) (hq : n < 1000000000) (hk2 : k < 4611686017427387904) :
    runE C 185 [.sl n (bytesV (mkB k n)), .int .i64 k] = some (.tup [.int .i64 (k + n)]) := by
  refine E185 _ _ _ ?_
  unfold T185
  exact l185 n [] k n 0 (by simp) rfl hk (by omega) hq

/-! ### lists of them -/
end Go.Proofs.YtehpmolckdmibaaGreat.Nest
