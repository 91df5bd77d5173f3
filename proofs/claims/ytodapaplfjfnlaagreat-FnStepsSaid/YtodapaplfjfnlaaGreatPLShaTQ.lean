/-
  SHA-256 of the specification, by its plain words.
-/
import Derived.Test.YtodapaplfjfnlaaGreatPIEqQ
import Derived.Test.YtodapaplfjfnlaaGreatPMSha
namespace Go.Proofs.YtodapaplfjfnlaaGreat.Sha
open Go Go.PI Go.PI.Sha EqQ
set_option maxHeartbeats 1000000
set_option linter.unusedVariables false
set_option linter.unusedSimpArgs false
section
variable (s : St)
theorem q0 : (w64s s.l)[0]? = some (.int .i64 (s.a.toNat : Int)) := rfl
theorem q1 : (w64s s.l)[1]? = some (.int .i64 (s.b.toNat : Int)) := rfl
theorem q2 : (w64s s.l)[2]? = some (.int .i64 (s.c.toNat : Int)) := rfl
theorem q3 : (w64s s.l)[3]? = some (.int .i64 (s.d.toNat : Int)) := rfl
theorem q4 : (w64s s.l)[4]? = some (.int .i64 (s.e.toNat : Int)) := rfl
theorem q5 : (w64s s.l)[5]? = some (.int .i64 (s.f.toNat : Int)) := rfl
theorem q6 : (w64s s.l)[6]? = some (.int .i64 (s.g.toNat : Int)) := rfl
theorem q7 : (w64s s.l)[7]? = some (.int .i64 (s.h.toNat : Int)) := rfl
theorem qput (l : List Wd) (h : l.length = 8) : splice (w64s l) 0 [.int .i64 (s.a.toNat : Int), .int .i64 (s.b.toNat : Int), .int .i64 (s.c.toNat : Int), .int .i64 (s.d.toNat : Int), .int .i64 (s.e.toNat : Int), .int .i64 (s.f.toNat : Int), .int .i64 (s.g.toNat : Int), .int .i64 (s.h.toNat : Int)] = w64s s.l :=
  w64s_all l s.l h
end
theorem fl1 (n : Int) : flatB C 217 [V.int .i64 n] = true := rfl
theorem fl2 (n : Int) : flatB C 219 [V.int .i64 n] = true := rfl
theorem fl8 (a b c d e f g h : Int) : flatB C 219 [V.int .i64 a, V.int .i64 b, V.int .i64 c, V.int .i64 d, V.int .i64 e, V.int .i64 f, V.int .i64 g, V.int .i64 h] = true := rfl
theorem sol (k : IntKind) (n : Int) : (V.int k n).solid = true := rfl
theorem c216 (x : Wd) {n : Nat} {z : Int} (hz : z = (n : Int)) (h0 : 0 < n) (h : n < 32) : runE C 216 [.int .i64 (x.toNat : Int), .int .u64 z] = some (.tup [.int .i64 ((rot x n).toNat : Int)]) := by
  subst hz
  refine E216 _ _ ?_
  unfold T216
  have hw : IntKind.u64.wrap (32 - (n : Int)) = ((32 - n : Nat) : Int) := by rw [show (32 : Int) - n = ((32 - n : Nat) : Int) by omega, wu64 _ (by omega)]
  simp only [hw, Int.natCast_nonneg, decide_true, must_true, Int.toNat_natCast, rot64 x h0 h]
theorem c229 (x : Wd) : runE C 229 [.int .i64 (x.toNat : Int)] = some (.tup [.int .i64 ((~~~x).toNat : Int)]) := by
  refine E229 _ ?_
  unfold T229
  rw [not64]
theorem c217 (s : St) (w k : Wd) :
    runE C 217 [.agg [.int .i64 (s.a.toNat : Int), .int .i64 (s.b.toNat : Int), .int .i64 (s.c.toNat : Int), .int .i64 (s.d.toNat : Int), .int .i64 (s.e.toNat : Int), .int .i64 (s.f.toNat : Int), .int .i64 (s.g.toNat : Int), .int .i64 (s.h.toNat : Int)], .int .i64 (w.toNat : Int), .int .i64 (k.toNat : Int)]
      = some (.tup (w64s (turn s w k).l)) := by
  refine E217 _ _ _ _ _ _ _ _ _ _ ?_
  unfold T217
  simp only [S0, c229, fun x => c216 x (n := 6) (z := 6) rfl (by decide) (by decide), fun x => c216 x (n := 11) (z := 11) rfl (by decide) (by decide), fun x => c216 x (n := 25) (z := 25) rfl (by decide) (by decide),
    fun x => c216 x (n := 2) (z := 2) rfl (by decide) (by decide), fun x => c216 x (n := 13) (z := 13) rfl (by decide) (by decide), fun x => c216 x (n := 22) (z := 22) rfl (by decide) (by decide),
    b64_xor, b64_and, s5, s2, w64s, St.l, turn, List.map_cons, List.map_nil]
theorem w64_k {a : Int} (k : Nat) {n : Nat} (h : a = (n : Int)) (hn : n < 9223372036854775808) : IntKind.i64.wrap a = (n : Int) := by rw [h]; exact w64_nat hn
section
variable (m : List UInt8) (t : Nat) (R : V)
theorem l7 (L S : List Wd) (hL : L.length = 8) (hS : S.length = 8)
    (hR : loopE C 186 0 [true, true, true, true, false, true] [] [(3, V.ptr 0 0), (4, V.ptr 1 0), (5, V.sl m.length (bytesV m)), (6, V.int .i64 (IntKind.i64.wrap ((t : Int) + 64)))] [Ob.box 217 (w64s key) false, Ob.box 219 (w64s (List.zipWith (· + ·) L S)) false] = some R) :
    ∀ (n i : Nat), 8 - i = n → i ≤ 8 →
    loopE C 186 8 [true, true, true, true, false, true, false, true, false, false, true, true, true, true, true, true] [0] [(3, V.ptr 0 0), (4, V.ptr 1 0), (5, V.sl m.length (bytesV m)), (6, V.int .i64 (t : Int)), (14, V.ptr 2 0), (16, V.int .i64 (i : Int))]
      [Ob.box 217 (w64s key) false, Ob.box 219 (w64s ((List.zipWith (· + ·) L S).take i ++ L.drop i)) false, Ob.box 219 (w64s S) false] = some R := by
  have hZ : (List.zipWith (· + ·) L S).length = 8 := by simp [hL, hS]
  intro n
  induction n with
  | zero =>
    intro i h hi
    have : i = 8 := by omega
    subst this
    refine E186l7 _ _ _ _ _ _ _ ?_
    unfold T186l7
    rw [List.take_of_length_le (by omega), List.drop_eq_nil_of_le (by omega), List.append_nil]
    exact hR
  | succ n ih =>
    intro i h hi
    have hlt : i < 8 := by omega
    have hw := w64_succ (n := i) (by omega)
    have ih := ih (i + 1) (by omega) (by omega)
    have hlen : ((List.zipWith (· + ·) L S).take i ++ L.drop i).length = 8 := by simp [hL, hZ]; omega
    have e1 : ((List.zipWith (· + ·) L S).take i ++ L.drop i).getD i 0 = L.getD i 0 := by
      rw [List.getD_eq_getElem?_getD, List.getD_eq_getElem?_getD, List.getElem?_append_right (by rw [List.length_take]; omega), List.length_take, Nat.min_eq_left (by omega), List.getElem?_drop]; simp
    have e2 : ((List.zipWith (· + ·) L S).take i ++ L.drop i).set i (L.getD i 0 + S.getD i 0) = (List.zipWith (· + ·) L S).take (i + 1) ++ L.drop (i + 1) := by
      have := take_drop_set (a := List.zipWith (· + ·) L S) (b := L) (by omega) (i := i) (by omega)
      rw [List.getElem_zipWith] at this
      rw [← this]
      have g1 : L.getD i 0 = L[i]'(by omega) := by simp [List.getD, List.getElem?_eq_getElem (show i < L.length by omega)]
      have g2 : S.getD i 0 = S[i]'(by omega) := by simp [List.getD, List.getElem?_eq_getElem (show i < S.length by omega)]
      rw [g1, g2]
    refine E186l7 _ _ _ _ _ _ _ ?_
    unfold T186l7
    have hi64 : ((i : Int) < 8) := by omega
    have d : i + 1 ≤ 8 := by omega
    simp only [S0, hi64, hlt, d, w64s_get (l := S) (i := i) (by omega), w64s_get (l := (List.zipWith (· + ·) L S).take i ++ L.drop i) (i := i) (by omega), e1, s2, sol, fl2, w64s_length, hlen,
      w64s_splice (l := (List.zipWith (· + ·) L S).take i ++ L.drop i) (i := i) (by omega), e2, hw, ih]
def Next (s : St) (R : V) (m : List UInt8) (t : Nat) : Prop :=
  loopE C 186 0 [true, true, true, true, false, true] [] [(3, V.ptr 0 0), (4, V.ptr 1 0), (5, V.sl m.length (bytesV m)), (6, V.int .i64 (IntKind.i64.wrap ((t : Int) + 64)))] [Ob.box 217 (w64s key) false, Ob.box 219 (w64s s.l) false] = some R
theorem l6 (s0 : St) (w : List Wd) (hw : w.length = 64) : ∀ (n i : Nat) (s : St), 64 - i = n → i ≤ 64 → Next (addS s0 (mix n i s w)) R m t →
    loopE C 186 6 [true, true, true, true, false, true, false, true, false, false, true, true, true, true, false, true] [0] [(3, V.ptr 0 0), (4, V.ptr 1 0), (5, V.sl m.length (bytesV m)), (6, V.int .i64 (t : Int)), (7, V.ptr 2 0), (14, V.ptr 3 0), (15, V.int .i64 (i : Int))]
      [Ob.box 217 (w64s key) false, Ob.box 219 (w64s s0.l) false, Ob.box 217 (w64s w) false, Ob.box 219 (w64s s.l) false] = some R := by
  intro n
  induction n with
  | zero =>
    intro i s h hi hR
    have : i = 64 := by omega
    subst this
    refine E186l6 _ _ _ _ _ _ _ _ ?_
    unfold T186l6
    have := l7 m t R s0.l s.l rfl rfl hR 8 0 rfl (by omega)
    simpa using this
  | succ n ih =>
    intro i s h hi hR
    have hlt : i < 64 := by omega
    have hi64 : ((i : Int) < 64) := by omega
    have hw1 := w64_succ (n := i) (by omega)
    have ih := ih (i + 1) (turn s (w.getD i 0) (key.getD i 0)) (by omega) (by omega) hR
    refine E186l6 _ _ _ _ _ _ _ _ ?_
    unfold T186l6
    have d : (8 : Nat) ≤ s.l.length := Nat.le_refl _
    simp only [S0, hi64, hlt, q0, q1, q2, q3, q4, q5, q6, q7, w64s_get (l := w) (i := i) (by omega), w64s_get (l := key) (i := i) (by rw [key_length]; omega), c217, fl8, w64s_length, d,
      qput (turn s (w.getD i 0) (key.getD i 0)) s.l rfl, hw1, ih]
theorem l4 (s0 : St) : ∀ (n i : Nat) (w : List Wd), 64 - i = n → 16 ≤ i → i ≤ 64 → w.length = 64 → Next (addS s0 (mix 64 0 s0 (fillW n i w))) R m t →
    loopE C 186 4 [true, true, true, true, false, true, false, true, false, false, true, true, false, true] [0] [(3, V.ptr 0 0), (4, V.ptr 1 0), (5, V.sl m.length (bytesV m)), (6, V.int .i64 (t : Int)), (7, V.ptr 2 0), (9, V.int .i64 (i : Int))]
      [Ob.box 217 (w64s key) false, Ob.box 219 (w64s s0.l) false, Ob.box 217 (w64s w) false] = some R := by
  intro n
  induction n with
  | zero =>
    intro i w h h16 hi hw hR
    have : i = 64 := by omega
    subst this
    refine E186l4 _ _ _ _ _ _ _ ?_
    unfold T186l4
    have := l6 m t R s0 w hw 64 0 s0 rfl (by omega) hR
    simp only [q0, q1, q2, q3, q4, q5, q6, q7, asInt_int]
    exact this
  | succ n ih =>
    intro i w h h16 hi hw hR
    have hlt : i < 64 := by omega
    have hi64 : ((i : Int) < 64) := by omega
    have hw1 := w64_succ (n := i) (by omega)
    have ih := ih (i + 1) (w.set i (nextW w i)) (by omega) (by omega) (by omega) (by rw [List.length_set]; exact hw) hR
    have j15 : IntKind.i64.wrap ((i : Int) - 15) = ((i - 15 : Nat) : Int) := w64_k (i - 15) (by omega) (by omega)
    have j2 : IntKind.i64.wrap ((i : Int) - 2) = ((i - 2 : Nat) : Int) := w64_k (i - 2) (by omega) (by omega)
    have j7 : IntKind.i64.wrap ((i : Int) - 7) = ((i - 7 : Nat) : Int) := w64_k (i - 7) (by omega) (by omega)
    have j16 : IntKind.i64.wrap ((i : Int) - 16) = ((i - 16 : Nat) : Int) := w64_k (i - 16) (by omega) (by omega)
    have d1 : i - 15 < 64 := by omega
    have d2 : i - 2 < 64 := by omega
    have d3 : i - 7 < 64 := by omega
    have d4 : i - 16 < 64 := by omega
    have d : i + 1 ≤ 64 := by omega
    refine E186l4 _ _ _ _ _ _ _ ?_
    unfold T186l4
    simp only [S0, hi64, hlt, j15, j2, j7, j16, d1, d2, d3, d4, d, w64s_get (l := w) (i := i - 15) (by omega), w64s_get (l := w) (i := i - 2) (by omega), w64s_get (l := w) (i := i - 7) (by omega), w64s_get (l := w) (i := i - 16) (by omega),
      fun x => c216 x (n := 7) (z := 7) rfl (by decide) (by decide), fun x => c216 x (n := 18) (z := 18) rfl (by decide) (by decide), fun x => c216 x (n := 17) (z := 17) rfl (by decide) (by decide), fun x => c216 x (n := 19) (z := 19) rfl (by decide) (by decide),
      sh_3, sh_10, b64_xor, s4, sol, fl1, w64s_length, hw]
    rw [show (rot (w.getD (i - 2) 0) 17 ^^^ rot (w.getD (i - 2) 0) 19 ^^^ w.getD (i - 2) 0 >>> 10) + w.getD (i - 7) 0 + (rot (w.getD (i - 15) 0) 7 ^^^ rot (w.getD (i - 15) 0) 18 ^^^ w.getD (i - 15) 0 >>> 3) + w.getD (i - 16) 0 = nextW w i from rfl,
      w64s_splice (l := w) (i := i) (by omega), hw1]
    exact ih
end
theorem num4 (l : List UInt8) (hl : l.length ≤ 7) : ∀ n i, l.length - i = n → i ≤ l.length →
    loopE C 215 0 [true, true, false, true] [] [(0, V.sl l.length (bytesV l)), (3, V.int .i64 (numOf (l.take i))), (4, V.int .i64 (i : Int))] [] = some (.tup [.int .i64 (numOf l)]) := by
  intro n
  induction n with
  | zero =>
    intro i h hi
    have : i = l.length := by omega
    subst this
    refine E215l1 _ _ _ _ ?_
    unfold T215l1
    simp
  | succ n ih =>
    intro i h hi
    have hlt : i < l.length := by omega
    have hw := w64_succ (n := i) (by omega)
    have ih := ih (i + 1) (by omega) (by omega)
    refine E215l1 _ _ _ _ ?_
    unfold T215l1
    obtain ⟨b1, b2⟩ := numOf_lt (l.take i)
    have hle : (l.take i).length ≤ 6 := by rw [List.length_take]; omega
    have b3 : numOf (l.take i) < 281474976710656 := by
      refine Int.lt_of_lt_of_le b2 ?_
      exact pow256 hle
    have e1 : IntKind.i64.wrap (numOf (l.take i) * 256) = numOf (l.take i) * 256 := w64 (by omega) (by omega)
    have e3 : IntKind.i64.wrap (numOf (l.take i) * 256 + (l[i].toNat : Int)) = numOf (l.take (i + 1)) := by
      have := l[i].toNat_lt
      rw [w64 (by omega) (by omega), numOf_take hlt]
    simp only [S0, hlt, bytesV_get hlt, hw, e1, w64_b, e3, ih]
theorem num4c (b : List UInt8) (i : Nat) (h : 4 * i + 4 ≤ b.length) : runE C 215 [.sl 4 (bytesV ((b.drop (4 * i)).take 4))] = some (.tup [.int .i64 ((word b i).toNat : Int)]) := by
  have hl : ((b.drop (4 * i)).take 4).length = 4 := by rw [List.length_take, List.length_drop]; omega
  have h0 := num4 ((b.drop (4 * i)).take 4) (by omega) _ 0 rfl (by omega)
  rw [hl] at h0
  refine E215 _ _ ?_
  unfold T215
  rw [word_toNat b i h]
  simpa [numOf] using h0
section
variable (m : List UInt8) (t : Nat) (R : V)
theorem l2 (s0 : St) (hm : t + 64 ≤ m.length) (hb : m.length < 4611686018427387904) : ∀ (n i : Nat) (w : List Wd), 16 - i = n → i ≤ 16 → w.length = 64 → Next (addS s0 (mix 64 0 s0 (fillW 48 16 (loadW n i w (m.drop t))))) R m t →
    loopE C 186 2 [true, true, true, true, false, true, false, true, false, false, true, false, true] [0] [(3, V.ptr 0 0), (4, V.ptr 1 0), (5, V.sl m.length (bytesV m)), (6, V.int .i64 (t : Int)), (7, V.ptr 2 0), (8, V.int .i64 (i : Int))]
      [Ob.box 217 (w64s key) false, Ob.box 219 (w64s s0.l) false, Ob.box 217 (w64s w) false] = some R := by
  intro n
  induction n with
  | zero =>
    intro i w h hi hw hR
    have : i = 16 := by omega
    subst this
    refine E186l2 _ _ _ _ _ _ _ ?_
    unfold T186l2
    have := l4 m t R s0 48 16 w rfl (by omega) (by omega) hw hR
    simpa using this
  | succ n ih =>
    intro i w h hi hw hR
    have hlt : i < 16 := by omega
    have hi64 : ((i : Int) < 16) := by omega
    have hw1 := w64_succ (n := i) (by omega)
    have ih := ih (i + 1) (w.set i (word (m.drop t) i)) (by omega) (by omega) (by rw [List.length_set]; exact hw) hR
    have k1 : IntKind.i64.wrap (4 * (i : Int)) = ((4 * i : Nat) : Int) := w64_k (4 * i) (by omega) (by omega)
    have k2 : IntKind.i64.wrap ((t : Int) + ((4 * i : Nat) : Int)) = ((t + 4 * i : Nat) : Int) := w64_k (t + 4 * i) (by omega) (by omega)
    have k3 : IntKind.i64.wrap (((t + 4 * i : Nat) : Int) + 4) = ((t + 4 * i + 4 : Nat) : Int) := w64_k (t + 4 * i + 4) (by omega) (by omega)
    have k4 : t + 4 * i + 4 - (t + 4 * i) = 4 := by omega
    have k5 : List.take 4 (List.drop (t + 4 * i) (bytesV m)) = bytesV (((m.drop t).drop (4 * i)).take 4) := by
      rw [bytesV_drop, bytesV_take, List.drop_drop]
    have d1 : t + 4 * i + 4 ≤ m.length := by omega
    have d2 : i < 64 := by omega
    have d3 : i + 1 ≤ 64 := by omega
    have d4 : t + 4 * i ≤ t + 4 * i + 4 := by omega
    refine E186l2 _ _ _ _ _ _ _ ?_
    unfold T186l2
    simp only [S0, hi64, hlt, k1, k2, k3, k4, k5, Int.natCast_nonneg, Int.ofNat_le, d1, d2, d3, d4, num4c (m.drop t) i (by rw [List.length_drop]; omega), sol, fl1, w64s_length, hw, w64s_splice (l := w) (i := i) (by omega), hw1, ih]
theorem l1 (hb : m.length < 4611686018427387904) : ∀ (n t : Nat) (s : St), t + 64 * n = m.length →
    loopE C 186 10 [true, true, true, true, true, true, false, true] [] [(4, V.ptr 0 0), (17, V.ref 1), (18, V.int .i64 0)] [Ob.box 219 (w64s (blks n s (m.drop t)).l) false, Ob.row 5 0 [] false] = some R →
    loopE C 186 0 [true, true, true, true, false, true] [] [(3, V.ptr 0 0), (4, V.ptr 1 0), (5, V.sl m.length (bytesV m)), (6, V.int .i64 (t : Int))] [Ob.box 217 (w64s key) false, Ob.box 219 (w64s s.l) false] = some R := by
  intro n
  induction n with
  | zero =>
    intro t s h hR
    refine E186l1 _ _ _ _ _ ?_
    unfold T186l1
    have : ¬ t < m.length := by omega
    simp only [S0, this]
    exact hR
  | succ n ih =>
    intro t s h hR
    refine E186l1 _ _ _ _ _ ?_
    unfold T186l1
    have ht : t < m.length := by omega
    simp only [S0, ht]
    rw [blks, List.drop_drop] at hR
    have ih := ih (t + 64) (blk s (m.drop t)) (by omega) hR
    refine l2 m t R s (by omega) hb 16 0 (List.replicate 64 0) rfl (by omega) (by simp) ?_
    unfold Next
    have e : IntKind.i64.wrap ((t : Int) + 64) = ((t + 64 : Nat) : Int) := w64_k (t + 64) (by omega) (by omega)
    rw [e]
    exact ih
end
end Go.Proofs.YtodapaplfjfnlaaGreat.Sha
