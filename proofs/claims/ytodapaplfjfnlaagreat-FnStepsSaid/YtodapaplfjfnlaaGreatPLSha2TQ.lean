/-
  SHA-256 of the specification: the message, the output, the whole.
-/
import Derived.Test.YtodapaplfjfnlaaGreatPLShaTQ
namespace Go.Proofs.YtodapaplfjfnlaaGreat.Sha
open Go Go.PI Go.PI.Sha EqQ
set_option maxHeartbeats 1000000
set_option linter.unusedVariables false
set_option linter.unusedSimpArgs false
theorem w8k {k : Nat} (hk : k ≤ 7) : min (IntKind.u64.wrap (IntKind.i64.wrap (8 * (k : Int)))).toNat 64 = 8 * k := by
  have e : (8 * (k : Int)) = ((8 * k : Nat) : Int) := by omega
  rw [e, w64_nat (by omega), wu64 _ (by omega), Int.toNat_natCast]; omega
theorem w8p {k : Nat} (hk : k ≤ 7) : 0 ≤ IntKind.u64.wrap (IntKind.i64.wrap (8 * (k : Int))) := by
  have e : (8 * (k : Int)) = ((8 * k : Nat) : Int) := by omega
  rw [e, w64_nat (by omega), wu64 _ (by omega)]; omega
theorem tm64 (n : Nat) : ((n : Int)).tmod 64 = ((n % 64 : Nat) : Int) := (Int.ofNat_tmod n 64).symm
theorem pred_i {k : Nat} (hk : k ≤ 100) : IntKind.i64.wrap ((k : Int) - 1) = (k : Int) - 1 := w64 (by omega) (by omega)
theorem bytesV_one (b : UInt8) : [V.int .u8 (b.toNat : Int)] = bytesV [b] := rfl
section
variable (R : V)
theorem m2 (n : Int) : ∀ (k : Nat) (o : List UInt8), k ≤ 8 → o.length + k ≤ 140737488355328 →
    R = .tup [.sl (o ++ putT n k).length (bytesV (o ++ putT n k))] →
    loopE C 214 2 [true, true, true, true, false, true] [] [(3, V.ref 0), (4, V.int .i64 n), (5, V.int .i64 ((k : Int) - 1))] [Ob.row 5 o.length (bytesV o) false] = some R := by
  intro k
  induction k with
  | zero =>
    intro o hk ho hR
    refine E214l2 _ _ _ _ ?_
    unfold T214l2
    rw [hR]
    simp [putT]
  | succ k ih =>
    intro o hk ho hR
    have ih := ih (o ++ [b8 (n.fdiv (2 ^ (8 * k)))]) (by omega) (by simp; omega) (by rw [hR, putT, List.append_assoc]; rfl)
    refine E214l2 _ _ _ _ ?_
    unfold T214l2
    have e : (((k + 1 : Nat) : Int) - 1) = (k : Int) := by omega
    have d : o.length + 1 ≤ 140737488355328 := by omega
    have g : (k : Int) ≥ 0 := by omega
    rw [List.length_append, List.length_singleton, bytesV_append] at ih
    simp only [S0, e, g, w8k (k := k) (by omega), w8p (k := k) (by omega), d, wrap_b8, pred_i (k := k) (by omega), bytesV_one, ih]
theorem m1 (m : List UInt8) (hm : m.length ≤ 1099511627776) : ∀ (n : Nat) (o : List UInt8), n < 64 → (o.length + n) % 64 = 56 → o.length + n + 8 ≤ 140737488355328 →
    R = .tup [.sl (o ++ (List.replicate n 0 ++ putT ((m.length : Int) * 8) 8)).length (bytesV (o ++ (List.replicate n 0 ++ putT ((m.length : Int) * 8) 8)))] →
    loopE C 214 0 [true, true, false] [] [(0, V.sl m.length (bytesV m)), (3, V.ref 0)] [Ob.row 5 o.length (bytesV o) false] = some R := by
  intro n
  induction n with
  | zero =>
    intro o hn h ho hR
    refine E214l1 _ _ _ _ ?_
    unfold T214l1
    have e : o.length % 64 = 56 := by omega
    have w : IntKind.i64.wrap ((m.length : Int) * 8) = (m.length : Int) * 8 := w64 (by omega) (by omega)
    have := m2 R ((m.length : Int) * 8) 8 o (by omega) (by omega) (by rw [hR]; simp)
    rw [tm64, e, w]
    exact this
  | succ n ih =>
    intro o hn h ho hR
    have ih := ih (o ++ [0]) (by omega) (by rw [List.length_append, List.length_singleton]; omega) (by rw [List.length_append, List.length_singleton]; omega)
      (by rw [hR, List.replicate_succ, List.append_assoc]; rfl)
    refine E214l1 _ _ _ _ ?_
    unfold T214l1
    have e : (((o.length % 64 : Nat) : Int) != 56) = true := by rw [bne_iff_ne]; omega
    have d : o.length + 1 ≤ 140737488355328 := by omega
    rw [List.length_append, List.length_singleton, bytesV_append] at ih
    simp only [tm64, e, S0, d]
    exact ih
end
theorem c214 (m : List UInt8) (hm : m.length ≤ 1099511627776) : runE C 214 [.sl m.length (bytesV m)] = some (.tup [.sl (pad m).length (bytesV (pad m))]) := by
  refine E214 _ _ ?_
  unfold T214
  have d1 : m.length ≤ 140737488355328 := by omega
  have d2 : m.length + 1 ≤ 140737488355328 := by omega
  have := m1 (.tup [.sl (pad m).length (bytesV (pad m))]) m hm (gap m.length) (m ++ [128]) (by unfold gap; omega) (by rw [List.length_append, List.length_singleton]; unfold gap; omega)
    (by rw [List.length_append, List.length_singleton]; unfold gap; omega) (by rw [pad, List.append_assoc]; rfl)
  rw [List.length_append, List.length_singleton, bytesV_append] at this
  simp only [S0, d1, d2]
  exact this
section
variable (L : List Wd) (R : V)
theorem o2 (i : Nat) (hL : L.length = 8) (hi : i < 8) : ∀ (k : Nat) (o : List UInt8), k ≤ 4 → o.length + k ≤ 140737488355328 →
    loopE C 186 10 [true, true, true, true, true, true, false, true] [] [(4, V.ptr 0 0), (17, V.ref 1), (18, V.int .i64 ((i + 1 : Nat) : Int))] [Ob.box 219 (w64s L) false, Ob.row 5 (o ++ putT ((L.getD i 0).toNat : Int) k).length (bytesV (o ++ putT ((L.getD i 0).toNat : Int) k)) false] = some R →
    loopE C 186 12 [true, true, true, true, true, true, false, true, false, true, false, false, true] [0] [(4, V.ptr 0 0), (17, V.ref 1), (18, V.int .i64 (i : Int)), (19, V.int .i64 ((k : Int) - 1))] [Ob.box 219 (w64s L) false, Ob.row 5 o.length (bytesV o) false] = some R := by
  intro k
  induction k with
  | zero =>
    intro o hk ho hR
    refine E186l5 _ _ _ _ _ ?_
    unfold T186l5
    rw [w64_succ (n := i) (by omega)]
    simpa [putT] using hR
  | succ k ih =>
    intro o hk ho hR
    have ih := ih (o ++ [b8 (((L.getD i 0).toNat : Int).fdiv (2 ^ (8 * k)))]) (by omega) (by simp; omega) (by rw [List.append_assoc, List.singleton_append]; exact hR)
    refine E186l5 _ _ _ _ _ ?_
    unfold T186l5
    have e : (((k + 1 : Nat) : Int) - 1) = (k : Int) := by omega
    have d : o.length + 1 ≤ 140737488355328 := by omega
    have g : (k : Int) ≥ 0 := by omega
    rw [List.length_append, List.length_singleton, bytesV_append] at ih
    simp only [S0, e, g, hi, w64s_get (l := L) (i := i) (by omega), w8k (k := k) (by omega), w8p (k := k) (by omega), d, wrap_b8, pred_i (k := k) (by omega), bytesV_one, ih]
theorem o1 (hL : L.length = 8) : ∀ (n i : Nat) (o : List UInt8), 8 - i = n → i ≤ 8 → o.length = 4 * i →
    R = .tup [.osl (o ++ (L.drop i).flatMap fun x => putT (x.toNat : Int) 4).length (bytesV (o ++ (L.drop i).flatMap fun x => putT (x.toNat : Int) 4))] →
    loopE C 186 10 [true, true, true, true, true, true, false, true] [] [(4, V.ptr 0 0), (17, V.ref 1), (18, V.int .i64 (i : Int))] [Ob.box 219 (w64s L) false, Ob.row 5 o.length (bytesV o) false] = some R := by
  intro n
  induction n with
  | zero =>
    intro i o h hi ho hR
    have : i = 8 := by omega
    subst this
    refine E186l3 _ _ _ _ ?_
    unfold T186l3
    rw [hR, List.drop_eq_nil_of_le (by omega)]
    simp
  | succ n ih =>
    intro i o h hi ho hR
    have hlt : i < L.length := by omega
    have g : L.getD i 0 = L[i] := by simp [List.getD, List.getElem?_eq_getElem hlt]
    have ih := ih (i + 1) (o ++ putT ((L.getD i 0).toNat : Int) 4) (by omega) (by omega) (by rw [List.length_append, putT_length]; omega)
      (by rw [hR, drop_eq_cons hlt, List.flatMap_cons, g, List.append_assoc])
    refine E186l3 _ _ _ _ ?_
    unfold T186l3
    have hi8 : (i : Int) < 8 := by omega
    simp only [S0, hi8]
    exact o2 L R i hL (by omega) 4 o (by omega) (by omega) ih
end
theorem c212 : runE C 212 [] = some (.agg (w64s key)) := by
  refine E212 ?_
  unfold T212
  rfl
theorem c213 : runE C 213 [] = some (.tup (w64s st0.l)) := by
  refine E213 ?_
  unfold T213
  rfl
theorem keyput : splice [V.int .i64 0, V.int .i64 0, V.int .i64 0, V.int .i64 0, V.int .i64 0, V.int .i64 0, V.int .i64 0, V.int .i64 0, V.int .i64 0, V.int .i64 0, V.int .i64 0, V.int .i64 0, V.int .i64 
      0, V.int .i64 0, V.int .i64 0, V.int .i64 0, V.int .i64 0, V.int .i64 0, V.int .i64 0, V.int .i64 0, V.int .i64 0, V.int .i64 0, V.int .i64 0, V.int .i64 0, V.int .i64 0, 
      V.int .i64 0, V.int .i64 0, V.int .i64 0, V.int .i64 0, V.int .i64 0, V.int .i64 0, V.int .i64 0, V.int .i64 0, V.int .i64 0, V.int .i64 0, V.int .i64 0, V.int .i64 0, V.int 
      .i64 0, V.int .i64 0, V.int .i64 0, V.int .i64 0, V.int .i64 0, V.int .i64 0, V.int .i64 0, V.int .i64 0, V.int .i64 0, V.int .i64 0, V.int .i64 0, V.int .i64 0, V.int .i64 
      0, V.int .i64 0, V.int .i64 0, V.int .i64 0, V.int .i64 0, V.int .i64 0, V.int .i64 0, V.int .i64 0, V.int .i64 0, V.int .i64 0, V.int .i64 0, V.int .i64 0, V.int .i64 0, 
      V.int .i64 0, V.int .i64 0] 0 (w64s key) = w64s key := w64s_all (List.replicate 64 0) key rfl
theorem fl64 : flatB C 217 (w64s key) = true := rfl
theorem c186 (m : List UInt8) (hm : m.length ≤ 1099511627776) : runE C 186 [.sl m.length (bytesV m)] = some (.tup [.osl 32 (bytesV (sha m))]) := by
  refine E186 _ _ ?_
  unfold T186
  have hl : (w64s key).length = 64 := by rw [w64s_length, key_length]
  simp only [S0, c212, asAgg_agg, hl, keyput, fl64, c213, q0, q1, q2, q3, q4, q5, q6, q7, c214 m hm]
  have hp := pad_mod m
  have hpl := pad_length m
  have hg : gap m.length < 64 := by unfold gap; omega
  refine l1 (pad m) _ (by omega) ((pad m).length / 64) 0 st0 (by omega) ?_
  have := o1 (blks ((pad m).length / 64) st0 (pad m)).l (.tup [.osl 32 (bytesV (sha m))]) rfl 8 0 [] rfl (by omega) rfl (by
    show _ = V.tup [.osl (outB _).length (bytesV (outB _))]
    rw [outB_length]; rfl)
  exact this
end Go.Proofs.YtodapaplfjfnlaaGreat.Sha
