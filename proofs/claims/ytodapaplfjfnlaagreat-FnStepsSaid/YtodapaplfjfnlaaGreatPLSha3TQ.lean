/-
  SHA-256 of the implementation, by its plain words.
-/
import Derived.Test.YtodapaplfjfnlaaGreatPLSha2TQ
namespace Go.Proofs.YtodapaplfjfnlaaGreat.Sha
open Go Go.PI Go.PI.Sha EqQ
set_option maxHeartbeats 1000000
set_option linter.unusedVariables false
set_option linter.unusedSimpArgs false
section
variable (s : St)
theorem p0 : (w32s s.l)[0]? = some (.int .u32 (s.a.toNat : Int)) := rfl
theorem p1 : (w32s s.l)[1]? = some (.int .u32 (s.b.toNat : Int)) := rfl
theorem p2 : (w32s s.l)[2]? = some (.int .u32 (s.c.toNat : Int)) := rfl
theorem p3 : (w32s s.l)[3]? = some (.int .u32 (s.d.toNat : Int)) := rfl
theorem p4 : (w32s s.l)[4]? = some (.int .u32 (s.e.toNat : Int)) := rfl
theorem p5 : (w32s s.l)[5]? = some (.int .u32 (s.f.toNat : Int)) := rfl
theorem p6 : (w32s s.l)[6]? = some (.int .u32 (s.g.toNat : Int)) := rfl
theorem p7 : (w32s s.l)[7]? = some (.int .u32 (s.h.toNat : Int)) := rfl
theorem pput (l : List Wd) (h : l.length = 8) : splice (w32s l) 0 [.int .u32 (s.a.toNat : Int), .int .u32 (s.b.toNat : Int), .int .u32 (s.c.toNat : Int), .int .u32 (s.d.toNat : Int), .int .u32 (s.e.toNat : Int), .int .u32 (s.f.toNat : Int), .int .u32 (s.g.toNat : Int), .int .u32 (s.h.toNat : Int)] = w32s s.l :=
  w32s_all l s.l h
end
theorem gl1 (n : Int) : flatB C 213 [V.int .u32 n] = true := rfl
theorem gl2 (n : Int) : flatB C 192 [V.int .u32 n] = true := rfl
theorem gl8 (a b c d e f g h : Int) : flatB C 192 [V.int .u32 a, V.int .u32 b, V.int .u32 c, V.int .u32 d, V.int .u32 e, V.int .u32 f, V.int .u32 g, V.int .u32 h] = true := rfl
theorem rotk {n : Nat} {z : Int} (hz : z = -(n : Int)) (h0 : 0 < n) (h : n < 32) : PI.bits IntKind.u64 (fun x1 x2 => x1 &&& x2) (IntKind.u64.wrap z) 31 = ((32 - n : Nat) : Int) := by
  have key : ∀ n : Fin 32, 0 < n.val → PI.bits IntKind.u64 (fun x1 x2 => x1 &&& x2) (IntKind.u64.wrap (-(n.val : Int))) 31 = ((32 - n.val : Nat) : Int) := by decide
  rw [hz]; exact key ⟨n, h⟩ h0
theorem c209 (x : Wd) {n : Nat} {z : Int} (hz : z = -(n : Int)) (h0 : 0 < n) (h : n < 32) : runE C 209 [.int .u32 (x.toNat : Int), .int .i64 z] = some (.tup [.int .u32 ((rot x n).toNat : Int)]) := by
  refine E209 _ _ ?_
  unfold T209
  have hw : IntKind.u64.wrap (32 - ((32 - n : Nat) : Int)) = (n : Int) := by rw [show (32 : Int) - ((32 - n : Nat) : Int) = (n : Int) by omega, wu64 _ (by omega)]
  simp only [rotk hz h0 h, hw, Int.natCast_nonneg, decide_true, must_true, Int.toNat_natCast, rot32 x h0 h]
theorem c228 (x : Wd) {n : Nat} {z : Int} (hz : z = (n : Int)) (h0 : 0 < n) (h : n < 32) : runE C 228 [.int .u32 (x.toNat : Int), .int .i64 z] = some (.tup [.int .u32 ((rot x n).toNat : Int)]) := by
  refine E228 _ _ ?_
  unfold T228
  have e : IntKind.i64.wrap (0 - z) = -(n : Int) := by rw [hz, w64 (by omega) (by omega)]; omega
  simp only [e, S0, c209 x (n := n) (z := -(n : Int)) rfl h0 h]
theorem c211 (s : St) (w k : Wd) :
    runE C 211 [.agg [.int .u32 (s.a.toNat : Int), .int .u32 (s.b.toNat : Int), .int .u32 (s.c.toNat : Int), .int .u32 (s.d.toNat : Int), .int .u32 (s.e.toNat : Int), .int .u32 (s.f.toNat : Int), .int .u32 (s.g.toNat : Int), .int .u32 (s.h.toNat : Int)], .int .u32 (w.toNat : Int), .int .u32 (k.toNat : Int)]
      = some (.tup (w32s (turn s w k).l)) := by
  refine E211 _ _ _ _ _ _ _ _ _ _ ?_
  unfold T211
  simp only [S0, fun x => c228 x (n := 6) (z := 6) rfl (by decide) (by decide), fun x => c228 x (n := 11) (z := 11) rfl (by decide) (by decide), fun x => c228 x (n := 25) (z := 25) rfl (by decide) (by decide),
    fun x => c228 x (n := 2) (z := 2) rfl (by decide) (by decide), fun x => c228 x (n := 13) (z := 13) rfl (by decide) (by decide), fun x => c228 x (n := 22) (z := 22) rfl (by decide) (by decide),
    b32_xor, b32_and, b32_not, u32_add, w32s, St.l, turn, List.map_cons, List.map_nil]
theorem c210 : runE C 210 [] = some (.agg (w32s key)) := by
  refine E210 ?_
  unfold T210
  rfl
theorem ren32 : ∀ l : List Wd, renV.renL [] (w32s l) = w32s l
  | [] => rfl
  | x :: l => by
    show V.int .u32 _ :: renV.renL [] (w32s l) = _
    rw [ren32 l]; rfl
theorem b3 (L S : List Wd) (y : List V) (hy : y.length = 8) (hL : L.length = 8) (hS : S.length = 8) : ∀ (n i : Nat), 8 - i = n → i ≤ 8 →
    loopE C 182 4 [true, true, true, true, true, false, true] [] [(2, V.ptr 0 0), (4, V.ptr 1 0), (11, V.ptr 2 0), (109, V.int .i64 (i : Int))]
      [Ob.box 192 (w32s S) false, Ob.box 192 y false, Ob.box 192 (w32s ((List.zipWith (· + ·) L S).take i ++ L.drop i)) false] = some (.tup (w32s (List.zipWith (· + ·) L S))) := by
  have hZ : (List.zipWith (· + ·) L S).length = 8 := by simp [hL, hS]
  intro n
  induction n with
  | zero =>
    intro i h hi
    have : i = 8 := by omega
    subst this
    refine E182l3 _ _ _ _ ?_
    unfold T182l3
    rw [List.take_of_length_le (by omega), List.drop_eq_nil_of_le (by omega), List.append_nil]
    match List.zipWith (· + ·) L S, hZ with
    | [a, b, c, d, e, f, g, h], _ =>
      have d1 : 8 ≤ y.length := by omega
      show must _ _ = _
      simp only [S0, gl8, d1]
      rfl
  | succ n ih =>
    intro i h hi
    have hlt : i < 8 := by omega
    have hw := w64_succ (n := i) (by omega)
    have ih := ih (i + 1) (by omega) (by omega)
    have hlen : ((List.zipWith (· + ·) L S).take i ++ L.drop i).length = 8 := by simp [hL, hZ]; omega
    have e1 : ((List.zipWith (· + ·) L S).take i ++ L.drop i).getD i 0 = L.getD i 0 := by
      rw [List.getD_eq_getElem?_getD, List.getD_eq_getElem?_getD, List.getElem?_append_right (by rw [List.length_take]; omega), List.length_take, Nat.min_eq_left (by omega), List.getElem?_drop]; simp
    have e2 : ((List.zipWith (· + ·) L S).take i ++ L.drop i).set i (L.getD i 0 + S.getD i 0) = (List.zipWith (· + ·) L S).take (i + 1) ++ L.drop (i + 1) := by
      have := take_drop_set (a := List.zipWith (· + ·) L S) (b := L) (by omega) (i := i) (by omega)
      rw [List.getElem_zipWith] at this
      rw [← this]
      have g1 : L.getD i 0 = L[i]'(by omega) := by simp [List.getD, List.getElem?_eq_getElem (show i < L.length by omega)]
      have g2 : S.getD i 0 = S[i]'(by omega) := by simp [List.getD, List.getElem?_eq_getElem (show i < S.length by omega)]
      rw [g1, g2]
    refine E182l3 _ _ _ _ ?_
    unfold T182l3
    have hi64 : ((i : Int) < 8) := by omega
    have d : i + 1 ≤ 8 := by omega
    simp only [S0, hi64, hlt, d, w32s_get (l := S) (i := i) (by omega), w32s_get (l := (List.zipWith (· + ·) L S).take i ++ L.drop i) (i := i) (by omega), e1, u32_add, sol, gl2, w32s_length, hlen,
      w32s_splice (l := (List.zipWith (· + ·) L S).take i ++ L.drop i) (i := i) (by omega), e2, hw, ih]
theorem addS_l (s t : St) : List.zipWith (· + ·) t.l s.l = (addS s t).l := by
  simp [St.l, addS, BitVec.add_comm]
theorem b2 (s0 : St) (y : List V) (hy : y.length = 8) (w : List Wd) (hw : w.length = 64) : ∀ (n i : Nat) (s : St), 64 - i = n → i ≤ 64 →
    loopE C 182 2 [true, true, true, true, false, true] [] [(2, V.ptr 0 0), (4, V.ptr 1 0), (5, V.ptr 2 0), (11, V.ptr 3 0), (97, V.agg (w32s key)), (98, V.int .i64 (i : Int))]
      [Ob.box 192 (w32s s0.l) false, Ob.box 192 y false, Ob.box 213 (w32s w) false, Ob.box 192 (w32s s.l) false] = some (.tup (w32s (addS s0 (mix n i s w)).l)) := by
  intro n
  induction n with
  | zero =>
    intro i s h hi
    have : i = 64 := by omega
    subst this
    refine E182l2 _ _ _ _ _ _ ?_
    unfold T182l2
    have := b3 s.l s0.l y hy rfl rfl 8 0 rfl (by omega)
    rw [addS_l] at this
    simpa [mix] using this
  | succ n ih =>
    intro i s h hi
    have hlt : i < 64 := by omega
    have hi64 : ((i : Int) < 64) := by omega
    have hw1 := w64_succ (n := i) (by omega)
    have ih := ih (i + 1) (turn s (w.getD i 0) (key.getD i 0)) (by omega) (by omega)
    refine E182l2 _ _ _ _ _ _ ?_
    unfold T182l2
    have d : (8 : Nat) ≤ s.l.length := Nat.le_refl _
    simp only [S0, hi64, hlt, p0, p1, p2, p3, p4, p5, p6, p7, w32s_get (l := w) (i := i) (by omega), w32s_get (l := key) (i := i) (by rw [key_length]; omega), c211, gl8, w32s_length, d, ren32,
      pput (turn s (w.getD i 0) (key.getD i 0)) s.l rfl, hw1, ih]
    rfl
theorem b1 (s0 : St) (y : List V) (hy : y.length = 8) (b : List UInt8) : ∀ (n i : Nat) (w : List Wd), 64 - i = n → 16 ≤ i → i ≤ 64 → w.length = 64 →
    loopE C 182 0 [true, true, false, true] [] [(1, V.sl b.length (bytesV b)), (2, V.ptr 0 0), (4, V.ptr 1 0), (5, V.ptr 2 0), (16, V.int .i64 (i : Int))]
      [Ob.box 192 (w32s s0.l) false, Ob.box 192 y false, Ob.box 213 (w32s w) false] = some (.tup (w32s (addS s0 (mix 64 0 s0 (fillW n i w))).l)) := by
  intro n
  induction n with
  | zero =>
    intro i w h h16 hi hw
    have : i = 64 := by omega
    subst this
    refine E182l1 _ _ _ _ _ _ ?_
    unfold T182l1
    have := b2 s0 y hy w hw 64 0 s0 rfl (by omega)
    simp only [p0, p1, p2, p3, p4, p5, p6, p7, asInt_int, c210, need_some', asAgg_agg, orcE_R, ren32]
    exact this
  | succ n ih =>
    intro i w h h16 hi hw
    have hlt : i < 64 := by omega
    have hi64 : ((i : Int) < 64) := by omega
    have hn16 : ¬ ((i : Int) < 16) := by omega
    have hw1 := w64_succ (n := i) (by omega)
    have ih := ih (i + 1) (w.set i (nextW w i)) (by omega) (by omega) (by omega) (by rw [List.length_set]; exact hw)
    have j15 : IntKind.i64.wrap ((i : Int) - 15) = ((i - 15 : Nat) : Int) := w64_k (i - 15) (by omega) (by omega)
    have j2 : IntKind.i64.wrap ((i : Int) - 2) = ((i - 2 : Nat) : Int) := w64_k (i - 2) (by omega) (by omega)
    have j7 : IntKind.i64.wrap ((i : Int) - 7) = ((i - 7 : Nat) : Int) := w64_k (i - 7) (by omega) (by omega)
    have j16 : IntKind.i64.wrap ((i : Int) - 16) = ((i - 16 : Nat) : Int) := w64_k (i - 16) (by omega) (by omega)
    have d1 : i - 15 < 64 := by omega
    have d2 : i - 2 < 64 := by omega
    have d3 : i - 7 < 64 := by omega
    have d4 : i - 16 < 64 := by omega
    have d : i + 1 ≤ 64 := by omega
    refine E182l1 _ _ _ _ _ _ ?_
    unfold T182l1
    simp only [S0, hi64, hn16, hlt, j15, j2, j7, j16, d1, d2, d3, d4, d, w32s_get (l := w) (i := i - 15) (by omega), w32s_get (l := w) (i := i - 2) (by omega), w32s_get (l := w) (i := i - 7) (by omega), w32s_get (l := w) (i := i - 16) (by omega),
      fun x => c209 x (n := 7) (z := -7) rfl (by decide) (by decide), fun x => c209 x (n := 18) (z := -18) rfl (by decide) (by decide), fun x => c209 x (n := 17) (z := -17) rfl (by decide) (by decide), fun x => c209 x (n := 19) (z := -19) rfl (by decide) (by decide),
      sh_3, sh_10, b32_xor, u32_add, sol, gl1, w32s_length, hw]
    rw [show (rot (w.getD (i - 2) 0) 17 ^^^ rot (w.getD (i - 2) 0) 19 ^^^ w.getD (i - 2) 0 >>> 10) + w.getD (i - 7) 0 + (rot (w.getD (i - 15) 0) 7 ^^^ rot (w.getD (i - 15) 0) 18 ^^^ w.getD (i - 15) 0 >>> 3) + w.getD (i - 16) 0 = nextW w i from rfl,
      w32s_splice (l := w) (i := i) (by omega), hw1]
    exact ih
end Go.Proofs.YtodapaplfjfnlaaGreat.Sha
