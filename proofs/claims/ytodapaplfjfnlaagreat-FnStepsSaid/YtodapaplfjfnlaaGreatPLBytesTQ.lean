/-
  Functions on bytes that the laws and the program share: copies, sameness, marks, numbers, tagged digests.
-/
import Derived.Test.YtodapaplfjfnlaaGreatPLSha5TQ
import Derived.Test.YtodapaplfjfnlaaGreatPMNest
namespace Go.Proofs.YtodapaplfjfnlaaGreat.By
open Go Go.PI Go.PI.Sha Go.PI.Rel Go.Proofs.YtodapaplfjfnlaaGreat.Sha EqQ
set_option maxHeartbeats 1000000
set_option linter.unusedVariables false
set_option linter.unusedSimpArgs false
theorem c98 (a b c : Int) : runE C 98 [.int .i64 a, .int .i64 b, .int .i64 c] = some (.tup [.bool (decide (b ≤ a ∧ a ≤ c))]) := by
  refine E98 a b c ?_
  unfold T98
  by_cases h : b ≤ a <;> simp [h]
theorem c51 (a b c : Int) : runE C 51 [.int .i64 a, .int .i64 b, .int .i64 c] = some (.tup [.bool (decide (b ≤ a ∧ a ≤ c))]) := by
  refine E51 a b c ?_
  unfold T51
  by_cases h : b ≤ a <;> simp [h]
theorem c76 (a b : List UInt8) : runE C 76 [.sl a.length (bytesV a), .sl b.length (bytesV b)] = some (.tup [.bool (decide (a = b))]) := by
  refine E76 _ _ _ _ ?_
  unfold T76
  simp only [S0, packB_bytesV, strEq_mk, decide_true]
theorem c110 (a : List UInt8) (h : a.length ≤ 140737488355328) : runE C 110 [.sl a.length (bytesV a)] = some (.tup [.osl a.length (bytesV a)]) := by
  refine E110 _ _ ?_
  unfold T110
  by_cases e : a.length = 0
  · have : a = [] := List.eq_nil_of_length_eq_zero e
    subst this
    exact both_self' (some (V.tup [V.osl 0 []]))
  · simp only [S0, e, h]
theorem l154 (a b : List UInt8) (hq : a.length < 4611686018427387904) : ∀ n i, a.length - i = n → i ≤ a.length → i ≤ b.length → ∃ r : Int, (r = 0 ↔ a.drop i = b.drop i) ∧
    loopE C 154 0 [true, false, true] [] [(0, V.sl a.length (bytesV a)), (1, V.sl b.length (bytesV b)), (5, V.int .i64 (i : Int))] [] = some (.tup [.int .i64 r]) := by
  have fin : ∀ i : Nat, i ≤ a.length → i ≤ b.length → ¬ (i < a.length ∧ i < b.length) → ∃ r : Int, (r = 0 ↔ a.drop i = b.drop i) ∧
      (bif decide ((a.length : Int) < (b.length : Int)) then some (V.tup [V.int .i64 (-1)]) else bif decide ((a.length : Int) > (b.length : Int)) then some (V.tup [V.int .i64 1]) else some (V.tup [V.int .i64 0])) = some (.tup [.int .i64 r]) := by
    intro i h1 h2 h3
    by_cases h4 : a.length < b.length
    · refine ⟨-1, ⟨fun h => by simp at h, fun h => ?_⟩, by simp [h4]⟩
      have := congrArg List.length h; simp at this; omega
    · by_cases h5 : b.length < a.length
      · refine ⟨1, ⟨fun h => by simp at h, fun h => ?_⟩, by simp [h4, h5]⟩
        have := congrArg List.length h; simp at this; omega
      · refine ⟨0, ⟨fun _ => ?_, fun _ => rfl⟩, by simp [h4, h5]⟩
        rw [List.drop_eq_nil_of_le (by omega), List.drop_eq_nil_of_le (by omega)]
  intro n
  induction n with
  | zero =>
    intro i h hi hib
    have e : i = a.length := by omega
    obtain ⟨r, h1, h2⟩ := fin i hi hib (by omega)
    refine ⟨r, h1, E154l1 _ _ _ _ _ ?_⟩
    unfold T154l1
    have : ¬ ((i : Int) < (a.length : Int)) := by omega
    simpa [this] using h2
  | succ n ih =>
    intro i h hi hib
    have hlt : i < a.length := by omega
    by_cases hltb : i < b.length
    · have hw := w64_succ (n := i) (by omega)
      by_cases he : a[i] = b[i]
      · obtain ⟨r, h1, ih⟩ := ih (i + 1) (by omega) (by omega) (by omega)
        refine ⟨r, ?_, E154l1 _ _ _ _ _ ?_⟩
        · rw [h1, drop_eq_cons hlt, drop_eq_cons hltb, he]; simp only [List.cons.injEq, true_and]
        · unfold T154l1
          simp only [S0, hlt, hltb, bytesV_get hlt, bytesV_get hltb, hw, ih, he, gt_iff_lt, Int.lt_irrefl]
      · have hne : a[i].toNat ≠ b[i].toNat := fun e => he (UInt8.toNat_inj.1 e)
        rcases Nat.lt_or_gt_of_ne hne with hl | hg
        · refine ⟨-1, ⟨fun h => by simp at h, fun h => ?_⟩, E154l1 _ _ _ _ _ ?_⟩
          · rw [drop_eq_cons hlt, drop_eq_cons hltb] at h
            exact absurd (List.cons.inj h).1 he
          · unfold T154l1
            simp only [S0, hlt, hltb, bytesV_get hlt, bytesV_get hltb, hl]
        · have hn : ¬ (a[i].toNat < b[i].toNat) := by omega
          refine ⟨1, ⟨fun h => by simp at h, fun h => ?_⟩, E154l1 _ _ _ _ _ ?_⟩
          · rw [drop_eq_cons hlt, drop_eq_cons hltb] at h
            exact absurd (List.cons.inj h).1 he
          · unfold T154l1
            simp only [S0, hlt, hltb, bytesV_get hlt, bytesV_get hltb, hn, gt_iff_lt, hg]
    · obtain ⟨r, h1, h2⟩ := fin i hi hib (by omega)
      refine ⟨r, h1, E154l1 _ _ _ _ _ ?_⟩
      unfold T154l1
      have : ¬ ((i : Int) < (b.length : Int)) := by omega
      have h3 : ((i : Int) < (a.length : Int)) := by omega
      simpa [this, h3] using h2
theorem c82 (a b : List UInt8) (hq : a.length < 4611686018427387904) : runE C 82 [.sl a.length (bytesV a), .sl b.length (bytesV b)] = some (.tup [.bool (decide (a = b))]) := by
  obtain ⟨r, h1, h2⟩ := l154 a b hq a.length 0 (by simp) (by simp) (by simp)
  have h : runE C 154 [.sl a.length (bytesV a), .sl b.length (bytesV b)] = some (.tup [.int .i64 r]) := by
    refine E154 _ _ _ _ ?_
    unfold T154
    simpa using h2
  refine E82 _ _ _ _ ?_
  unfold T82
  simp only [List.drop_zero] at h1
  have : (r == 0) = decide (a = b) := by rw [Bool.eq_iff_iff]; simp [h1]
  simp only [S0, h, this]
theorem l142 (n : Int) : ∀ (k : Nat) (acc : List UInt8), k ≤ 7 → acc.length + k ≤ 7 → loopE C 142 0 [true, true, false, true] [] [(0, V.int .i64 n), (3, V.ref 0), (4, V.int .i64 ((k : Int) - 1))] [Ob.row 5 acc.length (bytesV acc) false] =
    some (.tup [.sl (acc.length + k) (bytesV (acc ++ putT n k))])
  | 0, acc, _, _ => by
    refine E142l1 _ _ _ _ ?_
    unfold T142l1
    simp [putT]
  | k + 1, acc, hk, ha => by
    have ih := l142 n k (acc ++ [b8 (n.fdiv (2 ^ (8 * k)))]) (by omega) (by simp; omega)
    refine E142l1 _ _ _ _ ?_
    unfold T142l1
    have e1 : ((k + 1 : Nat) : Int) - 1 = (k : Int) := by omega
    have e2 : IntKind.i64.wrap ((k : Int) - 1) = (k : Int) - 1 := w64 (by omega) (by omega)
    have e3 : IntKind.i64.wrap (8 * (k : Int)) = ((8 * k : Nat) : Int) := by rw [w64 (by omega) (by omega)]; omega
    have e4 : IntKind.u64.wrap ((8 * k : Nat) : Int) = ((8 * k : Nat) : Int) := IntWalk.u64_in _ (by omega)
    have e5 : decide ((k : Int) ≥ 0) = true := by simp
    have e6 : min (8 * k) 64 = 8 * k := by omega
    have e7 : decide ((0 : Int) ≤ ((8 * k : Nat) : Int)) = true := decide_eq_true (by omega)
    have e8 : acc.length + 1 ≤ 140737488355328 := by omega
    simp only [bytesV_append, bytesV_cons, bytesV_nil, List.length_append, List.length_cons, List.length_nil, Nat.zero_add, List.append_assoc, List.cons_append, List.nil_append] at ih
    simp only [e1, e2, e3, e4, e5, e6, e7, e8, S0, wrap_b8, putT, ih, bytesV_append, bytesV_cons]
    rw [show acc.length + 1 + k = acc.length + (k + 1) by omega]
theorem c142 (n : Int) : runE C 142 [.int .i64 n] = some (.tup [.sl 7 (bytesV (num7 n))]) := by
  refine E142 _ ?_
  unfold T142
  exact l142 n 7 [] (by omega) (by simp)
theorem l133 : ∀ (k : Nat) (n : Int) (suf : List UInt8), k + suf.length = 7 → loopE C 133 0 [true, true, false, true] [] [(0, V.int .i64 n), (3, V.ref 0), (4, V.int .i64 ((k : Int) - 1))] [Ob.row 5 7 (bytesV (List.replicate k 0 ++ suf)) false] =
    some (.tup [.sl 7 (bytesV (putT n k ++ suf))])
  | 0, n, suf, h => by
    refine E133l1 _ _ _ _ ?_
    unfold T133l1
    simp [putT]
  | k + 1, n, suf, h => by
    have ih := l133 k (n.fdiv 256) (b8 n :: suf) (by simp only [List.length_cons]; omega)
    refine E133l1 _ _ _ _ ?_
    unfold T133l1
    have e1 : ((k + 1 : Nat) : Int) - 1 = (k : Int) := by omega
    have e2 : IntKind.i64.wrap ((k : Int) - 1) = (k : Int) - 1 := w64 (by omega) (by omega)
    have e3 : (List.replicate (k + 1) (0 : UInt8) ++ suf).set k (b8 n) = List.replicate k 0 ++ b8 n :: suf := by
      rw [List.replicate_succ', List.append_assoc, List.set_append_right _ _ (by simp)]
      simp
    have e4 : (List.replicate (k + 1) (0 : UInt8) ++ suf).length = 7 := by simp; omega
    have hk7 : k < 7 := by omega
    have hk8 : k + 1 ≤ 7 := by omega
    have e5 : decide ((k : Int) ≥ 0) = true := by simp
    rw [putT_snoc, List.append_assoc]
    simp only [e1, e2, e5, S0, hk7, hk8, wrap_b8, splice_bytes (l := List.replicate (k + 1) (0 : UInt8) ++ suf) (i := k) (by omega), e3, e4, ih, List.singleton_append]
theorem c133 (n : Int) : runE C 133 [.int .i64 n] = some (.tup [.sl 7 (bytesV (num7 n))]) := by
  refine E133 _ ?_
  unfold T133
  have h := l133 7 n [] (by simp)
  simpa [bytesV, num7] using h
end Go.Proofs.YtodapaplfjfnlaaGreat.By
