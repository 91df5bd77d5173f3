/-
  SHA-256 of the implementation: a block from its bytes, the message, the output, the whole.
-/
import Derived.Test.YtodapaplfjfnlaaGreatPLSha3TQ
namespace Go.Proofs.YtodapaplfjfnlaaGreat.Sha
open Go Go.PI Go.PI.Sha EqQ
set_option maxHeartbeats 1000000
set_option linter.unusedVariables false
set_option linter.unusedSimpArgs false
theorem or32 {m n : Nat} (hm : m < 4294967296) (hn : n < 4294967296) : PI.bits IntKind.u32 (fun a b => a ||| b) (m : Int) (n : Int) = ((m ||| n : Nat) : Int) := by
  have := b32_or (BitVec.ofNat 32 m) (BitVec.ofNat 32 n)
  rw [BitVec.toNat_or, BitVec.toNat_ofNat, BitVec.toNat_ofNat, Nat.mod_eq_of_lt (by omega), Nat.mod_eq_of_lt (by omega)] at this
  exact this
theorem or_add {i b a m : Nat} (hm : m = a * 2 ^ i) (hb : b < 2 ^ i) : m ||| b = m + b := by
  have := Nat.shiftLeft_add_eq_or_of_lt (i := i) hb a
  rw [Nat.shiftLeft_eq, ← hm] at this
  exact this.symm
theorem or4 (a b c d : UInt8) :
    PI.bits IntKind.u32 (fun x1 x2 => x1 ||| x2) (PI.bits IntKind.u32 (fun x1 x2 => x1 ||| x2) (PI.bits IntKind.u32 (fun x1 x2 => x1 ||| x2) (IntKind.u32.wrap (IntKind.u32.wrap (a.toNat : Int) * 16777216)) (IntKind.u32.wrap (IntKind.u32.wrap (b.toNat : Int) * 65536))) (IntKind.u32.wrap (IntKind.u32.wrap (c.toNat : Int) * 256))) (IntKind.u32.wrap (d.toNat : Int))
      = numOf [a, b, c, d] := by
  have ha := a.toNat_lt
  have hb := b.toNat_lt
  have hc := c.toNat_lt
  have hd := d.toNat_lt
  rw [wrap32 a.toNat (by omega), wrap32 b.toNat (by omega), wrap32 c.toNat (by omega), wrap32 d.toNat (by omega)]
  rw [show (a.toNat : Int) * 16777216 = ((a.toNat * 16777216 : Nat) : Int) by omega, show (b.toNat : Int) * 65536 = ((b.toNat * 65536 : Nat) : Int) by omega, show (c.toNat : Int) * 256 = ((c.toNat * 256 : Nat) : Int) by omega]
  rw [wrap32 (a.toNat * 16777216) (by omega), wrap32 (b.toNat * 65536) (by omega), wrap32 (c.toNat * 256) (by omega)]
  rw [or32 (by omega) (by omega), or_add (i := 24) (a := a.toNat) rfl (by omega), or32 (by omega) (by omega), or_add (i := 16) (a := a.toNat * 256 + b.toNat) (by omega) (by omega),
    or32 (by omega) (by omega), or_add (i := 8) (a := a.toNat * 65536 + b.toNat * 256 + c.toNat) (by omega) (by omega), numOf_four]
theorem four {b : List UInt8} {i : Nat} (h : i + 3 < b.length) : (b.drop i).take 4 = [b[i], b[i + 1], b[i + 2], b[i + 3]] := by
  rw [drop_eq_cons (show i < b.length by omega), drop_eq_cons (show i + 1 < b.length by omega), drop_eq_cons (show i + 1 + 1 < b.length by omega), drop_eq_cons (show i + 1 + 1 + 1 < b.length by omega)]
  rfl
theorem b0 (s0 : St) (y : List V) (hy : y.length = 8) (b : List UInt8) (hb : b.length = 64) : ∀ (n i : Nat) (w : List Wd), 16 - i = n → i ≤ 16 → w.length = 64 →
    loopE C 182 0 [true, true, false, true] [] [(1, V.sl b.length (bytesV b)), (2, V.ptr 0 0), (4, V.ptr 1 0), (5, V.ptr 2 0), (16, V.int .i64 (i : Int))]
      [Ob.box 192 (w32s s0.l) false, Ob.box 192 y false, Ob.box 213 (w32s w) false] = some (.tup (w32s (addS s0 (mix 64 0 s0 (fillW 48 16 (loadW n i w b)))).l)) := by
  intro n
  induction n with
  | zero =>
    intro i w h hi hw
    have : i = 16 := by omega
    subst this
    exact b1 s0 y hy b 48 16 w rfl (by omega) (by omega) hw
  | succ n ih =>
    intro i w h hi hw
    have hlt : i < 16 := by omega
    have hi64 : ((i : Int) < 64) := by omega
    have hi16 : ((i : Int) < 16) := by omega
    have hw1 := w64_succ (n := i) (by omega)
    have ih := ih (i + 1) (w.set i (word b i)) (by omega) (by omega) (by rw [List.length_set]; exact hw)
    have k0 : IntKind.i64.wrap (4 * (i : Int)) = ((4 * i : Nat) : Int) := w64_k (4 * i) (by omega) (by omega)
    have k1 : IntKind.i64.wrap (((4 * i : Nat) : Int) + 1) = ((4 * i + 1 : Nat) : Int) := w64_k (4 * i + 1) (by omega) (by omega)
    have k2 : IntKind.i64.wrap (((4 * i : Nat) : Int) + 2) = ((4 * i + 2 : Nat) : Int) := w64_k (4 * i + 2) (by omega) (by omega)
    have k3 : IntKind.i64.wrap (((4 * i : Nat) : Int) + 3) = ((4 * i + 3 : Nat) : Int) := w64_k (4 * i + 3) (by omega) (by omega)
    have l0 : 4 * i < b.length := by omega
    have l1 : 4 * i + 1 < b.length := by omega
    have l2 : 4 * i + 2 < b.length := by omega
    have l3 : 4 * i + 3 < b.length := by omega
    have hwd : numOf [b[4 * i], b[4 * i + 1], b[4 * i + 2], b[4 * i + 3]] = ((word b i).toNat : Int) := by
      rw [word_toNat b i (by omega), four (by omega)]
    have d : i + 1 ≤ 64 := by omega
    have d2 : i < 64 := by omega
    refine E182l1 _ _ _ _ _ _ ?_
    unfold T182l1
    simp only [S0, hi64, hi16, k0, k1, k2, k3, l0, l1, l2, l3, d, d2, bytesV_get l0, bytesV_get l1, bytesV_get l2, bytesV_get l3, or4, hwd, sol, gl1, w32s_length, hw, w32s_splice (l := w) (i := i) (by omega), hw1]
    exact ih
theorem word_take (m : List UInt8) {i : Nat} (h : i < 16) : word (m.take 64) i = word m i := by
  unfold word
  rw [List.drop_take, List.take_take, Nat.min_eq_left (by omega)]
theorem loadW_take (m : List UInt8) : ∀ (n i : Nat) (w : List Wd), i + n ≤ 16 → loadW n i w (m.take 64) = loadW n i w m
  | 0, _, _, _ => rfl
  | n + 1, i, w, h => by rw [loadW, loadW, word_take m (by omega), loadW_take m n (i + 1) _ (by omega)]
theorem blk_take (s : St) (m : List UInt8) : blk s (m.take 64) = blk s m := by
  unfold blk sched
  rw [loadW_take m 16 0 _ (by omega)]
theorem c182 (s : St) (m : List UInt8) (hm : 64 ≤ m.length) :
    runE C 182 [.agg [.int .u32 (s.a.toNat : Int), .int .u32 (s.b.toNat : Int), .int .u32 (s.c.toNat : Int), .int .u32 (s.d.toNat : Int), .int .u32 (s.e.toNat : Int), .int .u32 (s.f.toNat : Int), .int .u32 (s.g.toNat : Int), .int .u32 (s.h.toNat : Int)], .sl 64 (bytesV (m.take 64))]
      = some (.tup (w32s (blk s m).l)) := by
  refine E182 _ _ _ _ _ _ _ _ _ _ ?_
  unfold T182
  have hl : (m.take 64).length = 64 := by rw [List.length_take]; omega
  have := b0 s (w32s (List.replicate 8 0)) (by simp) (m.take 64) hl 16 0 (List.replicate 64 0) rfl (by omega) (by simp)
  rw [← blk_take]
  rw [hl] at this
  exact this
theorem getD_of {l : List Wd} {i : Nat} (h : i < l.length) : l[i] = l.getD i 0 := by simp [List.getD, List.getElem?_eq_getElem h]
theorem drop_flat {l : List Wd} {i : Nat} (h : i < l.length) (o : List UInt8) : o ++ (l.drop i).flatMap (fun x => putT (x.toNat : Int) 4) = (o ++ putT ((l.getD i 0).toNat : Int) 4) ++ (l.drop (i + 1)).flatMap (fun x => putT (x.toNat : Int) 4) := by
  rw [drop_eq_cons h, List.flatMap_cons, getD_of h, List.append_assoc]
theorem x2 (s : St) : ∀ (n i : Nat) (o : List UInt8), 8 - i = n → i ≤ 8 → o.length = 4 * i →
    loopE C 130 8 [true, true, true, true, true, true, true, true, true, true, false, true] [] [(9, V.ref 0), (59, V.agg [.int .u32 (s.a.toNat : Int), .int .u32 (s.b.toNat : Int), .int .u32 (s.c.toNat : Int), .int .u32 (s.d.toNat : Int), .int .u32 (s.e.toNat : Int), .int .u32 (s.f.toNat : Int), .int .u32 (s.g.toNat : Int), .int .u32 (s.h.toNat : Int)]), (60, V.int .i64 (i : Int))]
      [Ob.row 5 o.length (bytesV o) false] = some (.tup [.osl (o ++ (s.l.drop i).flatMap fun x => putT (x.toNat : Int) 4).length (bytesV (o ++ (s.l.drop i).flatMap fun x => putT (x.toNat : Int) 4))]) := by
  intro n
  induction n with
  | zero =>
    intro i o h hi ho
    have : i = 8 := by omega
    subst this
    refine E130l6 _ _ _ _ _ _ _ _ _ _ _ ?_
    unfold T130l6
    rw [List.drop_eq_nil_of_le (by exact Nat.le_refl _)]
    simp
  | succ n ih =>
    intro i o h hi ho
    have hl8 : s.l.length = 8 := rfl
    have hlt : i < s.l.length := by omega
    have hi8 : (i : Int) < 8 := by omega
    have hi8' : i < 8 := by omega
    have hw := w64_succ (n := i) (by omega)
    have ih := ih (i + 1) (o ++ putT ((s.l.getD i 0).toNat : Int) 4) (by omega) (by omega) (by rw [List.length_append, putT_length]; omega)
    rw [drop_flat hlt]
    refine E130l6 _ _ _ _ _ _ _ _ _ _ _ ?_
    unfold T130l6
    have d : o.length + 4 ≤ 140737488355328 := by omega
    have e : [V.int .u32 (s.a.toNat : Int), V.int .u32 (s.b.toNat : Int), V.int .u32 (s.c.toNat : Int), V.int .u32 (s.d.toNat : Int), V.int .u32 (s.e.toNat : Int), V.int .u32 (s.f.toNat : Int), V.int .u32 (s.g.toNat : Int), V.int .u32 (s.h.toNat : Int)] = w32s s.l := rfl
    have f : ∀ x : Int, [V.int .u8 (IntKind.u8.wrap (x.fdiv 16777216)), V.int .u8 (IntKind.u8.wrap (x.fdiv 65536)), V.int .u8 (IntKind.u8.wrap (x.fdiv 256)), V.int .u8 (IntKind.u8.wrap x)] = bytesV (putT x 4) := fun x => by
      rw [wrap_b8, wrap_b8, wrap_b8, wrap_b8]
      have : x = x.fdiv (2 ^ (8 * 0)) := (Int.fdiv_one x).symm
      conv => lhs; rw [this]
      have e0 : ∀ z : Int, (x.fdiv (2 ^ (8 * 0))).fdiv z = x.fdiv z := fun z => by rw [← this]
      rw [e0, e0, e0]; rfl
    rw [List.length_append, putT_length, bytesV_append] at ih
    simp only [S0, hi8, hi8', d, e, w32s_get hlt, f, hw]
    exact ih
theorem x1 (R : V) : ∀ (n : Nat) (m : List UInt8) (s : St), m.length = 64 * n →
    R = .tup [.osl 32 (bytesV (outB (blks n s m)))] →
    loopE C 130 6 [true, true, true, true, true, true, true, true, false] [] [(3, V.sl m.length (bytesV m)), (8, V.ptr 0 0)] [Ob.box 192 (w32s s.l) false] = some R := by
  intro n
  induction n with
  | zero =>
    intro m s h hR
    refine E130l5 _ _ _ ?_
    unfold T130l5
    have hn : ¬ ((m.length : Int) > 0) := by omega
    have := x2 s 8 0 [] rfl (by omega) rfl
    rw [hR]
    simp only [S0, hn, p0, p1, p2, p3, p4, p5, p6, p7]
    refine Eq.trans this ?_
    show some (V.tup [.osl (outB s).length (bytesV (outB s))]) = _
    rw [outB_length]; rfl
  | succ n ih =>
    intro m s h hR
    have ih := ih (m.drop 64) (blk s m) (by rw [List.length_drop]; omega) hR
    refine E130l5 _ _ _ ?_
    unfold T130l5
    have hn : ((m.length : Int) > 0) := by omega
    have d : (64 : Int) ≤ (m.length : Int) := by omega
    have t1 : List.take 64 (List.drop 0 (bytesV m)) = bytesV (m.take 64) := by rw [List.drop_zero, bytesV_take]
    have t2 : List.take (m.length - 64) (List.drop 64 (bytesV m)) = bytesV (m.drop 64) := by
      rw [bytesV_drop, List.take_of_length_le (by simp)]
    have d8 : (8 : Nat) ≤ s.l.length := Nat.le_refl _
    rw [List.length_drop] at ih
    simp only [S0, hn, d, p0, p1, p2, p3, p4, p5, p6, p7, t1, t2, c182 s m (by omega), gl8, w32s_length, d8, pput (blk s m) s.l rfl]
    exact ih
theorem x1a (R : V) (n : Nat) (m : List UInt8) (s : St) (h : m.length = 64 * n) (hR : R = .tup [.osl 32 (bytesV (outB (blks n s m)))]) :
    loopE C 130 6 [true, true, true, true, true, true, true, true, false] [] [(3, V.ref 0), (8, V.ptr 1 0)] [Ob.row 5 m.length (bytesV m) false, Ob.box 192 (w32s s.l) false] = some R := by
  refine E130l4 _ _ _ ?_
  unfold T130l4
  match n, h, hR with
  | 0, h, hR =>
    have hn : ¬ ((m.length : Int) > 0) := by omega
    have := x2 s 8 0 [] rfl (by omega) rfl
    rw [hR]
    simp only [S0, hn, p0, p1, p2, p3, p4, p5, p6, p7]
    refine Eq.trans this ?_
    show some (V.tup [.osl (outB s).length (bytesV (outB s))]) = _
    rw [outB_length]; rfl
  | n + 1, h, hR =>
    have ih := x1 R n (m.drop 64) (blk s m) (by rw [List.length_drop]; omega) hR
    have hn : ((m.length : Int) > 0) := by omega
    have d : (64 : Int) ≤ (m.length : Int) := by omega
    have t1 : List.take 64 (List.drop 0 (bytesV m)) = bytesV (m.take 64) := by rw [List.drop_zero, bytesV_take]
    have t2 : List.take (m.length - 64) (List.drop 64 (bytesV m)) = bytesV (m.drop 64) := by
      rw [bytesV_drop, List.take_of_length_le (by simp)]
    have d8 : (8 : Nat) ≤ s.l.length := Nat.le_refl _
    rw [List.length_drop] at ih
    simp only [S0, hn, d, p0, p1, p2, p3, p4, p5, p6, p7, t1, t2, c182 s m (by omega), gl8, w32s_length, d8, pput (blk s m) s.l rfl]
    exact ih
end Go.Proofs.YtodapaplfjfnlaaGreat.Sha
