/-
  Draws of ledgers and events.
-/
import Derived.Test.YtkjjneejmjfhlaaDoorPLDrawTE
import Derived.Test.YtkjjneejmjfhlaaDoorPLLedger2TE
namespace Go.Proofs.YtkjjneejmjfhlaaDoor.Draw
open Go Go.PI Go.PI.Led EqE
set_option maxHeartbeats 1000000
set_option linter.unusedVariables false
set_option linter.unusedSimpArgs false
def EvL (l : List V) : Prop := ∃ (k n m : Int) (to : ByteArray), l = [.int .i64 k, .int .i64 n, .int .i64 m, .str to] ∧ to.size ≤ 13
def LedL (l : List V) : Prop := ∃ (k s t n : Int) (d : List Int) (c : Int) (p : Bool), l = [.int .i64 k, .int .i64 s, .int .i64 t, .int .i64 n, .sl d.length (ints d), .int .i64 c, .bool p] ∧ d.length ≤ 100
theorem c53 (code : List UInt8) (a : Nat) (hc : code.length ≤ 1099511627776) (ha : a < 1099511627776) :
    Ex (Drew code a 1 fun l => ∃ to : ByteArray, l = [.str to] ∧ to.size ≤ 13) (runWE C 53 [] [.ptr 0 0] [src code a]) := by
  unfold src
  refine Ex.run (fun h => E53 _ _ _ h) ?_
  unfold T53
  refine xW (c52 code a 4 hc ha) ?_
  rintro _ ⟨_, a1, rfl, h1, h2, v, rfl, hv0, hv1, _⟩
  repeat first | (with_reducible refine xT ?_) | ((with_reducible refine xIg (n := ?_) ?_ ?_); rotate_left; exact rfl) | ((with_reducible refine xBg (n := ?_) ?_ ?_); rotate_left; exact rfl) | ((with_reducible refine xSg (n := ?_) ?_ ?_); rotate_left; exact rfl) | ((with_reducible refine xLg (n := ?_) (cs := ?_) ?_ ?_); rotate_left 2; exact rfl) | ((with_reducible refine xOg (n := ?_) (cs := ?_) ?_ ?_); rotate_left 2; exact rfl)
  have hv1 := hv1 (by omega)
  have hv : v = 0 ∨ v = 1 ∨ v = 2 ∨ v = 3 := by omega
  refine xM (by rcases hv with rfl | rfl | rfl | rfl <;> rfl) ?_
  rcases hv with rfl | rfl | rfl | rfl <;> exact ⟨_, rfl, _, a1, rfl, h1, h2, _, rfl, by decide⟩
theorem c29 (code : List UInt8) (a : Nat) (hc : code.length ≤ 1099511627776) (ha : a < 1099511000000) :
    Ex (Drew code a 6 EvL) (runWE C 29 [] [.ptr 0 0] [src code a]) := by
  unfold src
  refine Ex.run (fun h => E29 _ _ _ h) ?_
  unfold T29
  refine xW (c52 code a 2 hc (by omega)) ?_
  rintro _ ⟨_, a1, rfl, h1, h1', v1, rfl, _⟩
  repeat first | (with_reducible refine xT ?_) | ((with_reducible refine xIg (n := ?_) ?_ ?_); rotate_left; exact rfl) | ((with_reducible refine xBg (n := ?_) ?_ ?_); rotate_left; exact rfl) | ((with_reducible refine xSg (n := ?_) ?_ ?_); rotate_left; exact rfl) | ((with_reducible refine xLg (n := ?_) (cs := ?_) ?_ ?_); rotate_left 2; exact rfl) | ((with_reducible refine xOg (n := ?_) (cs := ?_) ?_ ?_); rotate_left 2; exact rfl)
  refine xW (c52 code a1 6 hc (by omega)) ?_
  rintro _ ⟨_, a2, rfl, h2, h2', v2, rfl, _⟩
  repeat first | (with_reducible refine xT ?_) | ((with_reducible refine xIg (n := ?_) ?_ ?_); rotate_left; exact rfl) | ((with_reducible refine xBg (n := ?_) ?_ ?_); rotate_left; exact rfl) | ((with_reducible refine xSg (n := ?_) ?_ ?_); rotate_left; exact rfl) | ((with_reducible refine xLg (n := ?_) (cs := ?_) ?_ ?_); rotate_left 2; exact rfl) | ((with_reducible refine xOg (n := ?_) (cs := ?_) ?_ ?_); rotate_left 2; exact rfl)
  refine xW (c52 code a2 60 hc (by omega)) ?_
  rintro _ ⟨_, a3, rfl, h3, h3', v3, rfl, _⟩
  repeat first | (with_reducible refine xT ?_) | ((with_reducible refine xIg (n := ?_) ?_ ?_); rotate_left; exact rfl) | ((with_reducible refine xBg (n := ?_) ?_ ?_); rotate_left; exact rfl) | ((with_reducible refine xSg (n := ?_) ?_ ?_); rotate_left; exact rfl) | ((with_reducible refine xLg (n := ?_) (cs := ?_) ?_ ?_); rotate_left 2; exact rfl) | ((with_reducible refine xOg (n := ?_) (cs := ?_) ?_ ?_); rotate_left 2; exact rfl)
  refine xW (c53 code a3 hc (by omega)) ?_
  rintro _ ⟨_, a4, rfl, h4, h4', to, rfl, hto⟩
  repeat first | (with_reducible refine xT ?_) | ((with_reducible refine xIg (n := ?_) ?_ ?_); rotate_left; exact rfl) | ((with_reducible refine xBg (n := ?_) ?_ ?_); rotate_left; exact rfl) | ((with_reducible refine xSg (n := ?_) ?_ ?_); rotate_left; exact rfl) | ((with_reducible refine xLg (n := ?_) (cs := ?_) ?_ ?_); rotate_left 2; exact rfl) | ((with_reducible refine xOg (n := ?_) (cs := ?_) ?_ ?_); rotate_left 2; exact rfl)
  refine xW (c52 code a4 20 hc (by omega)) ?_
  rintro _ ⟨_, a5, rfl, h5, h5', v5, rfl, _⟩
  repeat first | (with_reducible refine xT ?_) | ((with_reducible refine xIg (n := ?_) ?_ ?_); rotate_left; exact rfl) | ((with_reducible refine xBg (n := ?_) ?_ ?_); rotate_left; exact rfl) | ((with_reducible refine xSg (n := ?_) ?_ ?_); rotate_left; exact rfl) | ((with_reducible refine xLg (n := ?_) (cs := ?_) ?_ ?_); rotate_left 2; exact rfl) | ((with_reducible refine xOg (n := ?_) (cs := ?_) ?_ ?_); rotate_left 2; exact rfl)
  refine xQ (fun _ => ?_) (fun _ => xQ (fun _ => ?_) (fun _ => xQ (fun _ => ?_) (fun _ => xQ (fun _ => ?_) (fun _ => ?_))))
  · refine xW (c30 code a5 [0, 3, -1] (by decide) hc (by omega)) ?_
    rintro _ ⟨_, a6, rfl, h6, h6', v6, rfl, _⟩
    repeat first | (with_reducible refine xT ?_) | ((with_reducible refine xIg (n := ?_) ?_ ?_); rotate_left; exact rfl) | ((with_reducible refine xBg (n := ?_) ?_ ?_); rotate_left; exact rfl) | ((with_reducible refine xSg (n := ?_) ?_ ?_); rotate_left; exact rfl) | ((with_reducible refine xLg (n := ?_) (cs := ?_) ?_ ?_); rotate_left 2; exact rfl) | ((with_reducible refine xOg (n := ?_) (cs := ?_) ?_ ?_); rotate_left 2; exact rfl)
    exact ⟨_, rfl, _, a6, rfl, by omega, by omega, _, _, _, _, rfl, hto⟩
  · refine xW (c30 code a5 [0, 1000000, 1000001] (by decide) hc (by omega)) ?_
    rintro _ ⟨_, a6, rfl, h6, h6', v6, rfl, _⟩
    repeat first | (with_reducible refine xT ?_) | ((with_reducible refine xIg (n := ?_) ?_ ?_); rotate_left; exact rfl) | ((with_reducible refine xBg (n := ?_) ?_ ?_); rotate_left; exact rfl) | ((with_reducible refine xSg (n := ?_) ?_ ?_); rotate_left; exact rfl) | ((with_reducible refine xLg (n := ?_) (cs := ?_) ?_ ?_); rotate_left 2; exact rfl) | ((with_reducible refine xOg (n := ?_) (cs := ?_) ?_ ?_); rotate_left 2; exact rfl)
    exact ⟨_, rfl, _, a6, rfl, by omega, by omega, _, _, _, _, rfl, hto⟩
  · refine xW (c30 code a5 [0, 1000000000, 1000000001] (by decide) hc (by omega)) ?_
    rintro _ ⟨_, a6, rfl, h6, h6', v6, rfl, _⟩
    repeat first | (with_reducible refine xT ?_) | ((with_reducible refine xIg (n := ?_) ?_ ?_); rotate_left; exact rfl) | ((with_reducible refine xBg (n := ?_) ?_ ?_); rotate_left; exact rfl) | ((with_reducible refine xSg (n := ?_) ?_ ?_); rotate_left; exact rfl) | ((with_reducible refine xLg (n := ?_) (cs := ?_) ?_ ?_); rotate_left 2; exact rfl) | ((with_reducible refine xOg (n := ?_) (cs := ?_) ?_ ?_); rotate_left 2; exact rfl)
    exact ⟨_, rfl, _, a6, rfl, by omega, by omega, _, _, _, _, rfl, hto⟩
  · refine xW (c52 code a5 5 hc (by omega)) ?_
    rintro _ ⟨_, a6, rfl, h6, h6', v, rfl, hv0, hv1, _⟩
    repeat first | (with_reducible refine xT ?_) | ((with_reducible refine xIg (n := ?_) ?_ ?_); rotate_left; exact rfl) | ((with_reducible refine xBg (n := ?_) ?_ ?_); rotate_left; exact rfl) | ((with_reducible refine xSg (n := ?_) ?_ ?_); rotate_left; exact rfl) | ((with_reducible refine xLg (n := ?_) (cs := ?_) ?_ ?_); rotate_left 2; exact rfl) | ((with_reducible refine xOg (n := ?_) (cs := ?_) ?_ ?_); rotate_left 2; exact rfl)
    have hv1 := hv1 (by omega)
    have hv : v = 0 ∨ v = 1 ∨ v = 2 ∨ v = 3 ∨ v = 4 := by omega
    refine xM (by rcases hv with rfl | rfl | rfl | rfl | rfl <;> rfl) ?_
    rcases hv with rfl | rfl | rfl | rfl | rfl <;> exact ⟨_, rfl, _, a6, rfl, by omega, by omega, _, _, _, _, rfl, by decide⟩
  · exact ⟨_, rfl, _, a5, rfl, by omega, by omega, _, _, _, _, rfl, hto⟩
theorem many_loop (code : List UInt8) (hc : code.length ≤ 1099511627776) (x1 x2 x3 x4 x5 : Int) (x6 : Bool) (z1 : Nat) (z2 : List V) (k s t n c : Int) (p : Bool) : ∀ (m i a : Nat) (d : List Int), 61 - i = m → i ≤ 61 → d.length = i → a + m + 1 < 1099511000000 →
    Ex (Drew code a (m + 1) LedL) (loopWE C 28 [] [Ob.box 80 [V.u, V.u] false] 3 [true, true, true, true, true, true, true, true, true, false, true, false, true, true, true, true, true, true, true, true, true, true, true, true, true, false, true, true] [] [(0, V.ptr 0 0), (2, V.ptr 1 0), (3, V.ptr 3 0), (7, V.int .i64 (i : Int))]
      [src code a, Ob.box 26 [V.int .i64 x1, V.int .i64 x2, V.int .i64 x3, V.int .i64 x4, V.ref 2, V.int .i64 x5, V.bool x6] false, Ob.row 2 z1 z2 false, Ob.box 26 [V.int .i64 k, V.int .i64 s, V.int .i64 t, V.int .i64 n, V.ref 4, V.int .i64 c, V.bool p] false, Ob.row 2 d.length (ints d) false]) := by
  intro m
  induction m with
  | zero =>
    intro i a d e hi hd hm
    unfold src
    refine Ex.run (fun h => E28l2 _ _ _ _ _ _ _ _ _ _ _ _ _ _ _ _ _ _ _ _ h) ?_
    unfold T28l2
    refine xW (c52 code a 2 hc (by omega)) ?_
    rintro _ ⟨_, a1, rfl, h1, h1', v, rfl, hv0, hv1, _⟩
    repeat first | (with_reducible refine xT ?_) | ((with_reducible refine xIg (n := ?_) ?_ ?_); rotate_left; exact rfl) | ((with_reducible refine xBg (n := ?_) ?_ ?_); rotate_left; exact rfl) | ((with_reducible refine xSg (n := ?_) ?_ ?_); rotate_left; exact rfl) | ((with_reducible refine xLg (n := ?_) (cs := ?_) ?_ ?_); rotate_left 2; exact rfl) | ((with_reducible refine xOg (n := ?_) (cs := ?_) ?_ ?_); rotate_left 2; exact rfl)
    have hv1 := hv1 (by omega)
    refine xD (fun h => ?_) (fun h => ?_)
    · rw [w64 (by omega) (by omega)] at h; omega
    · exact ⟨_, rfl, _, a1, rfl, by omega, by omega, _, _, _, _, d, _, _, rfl, by omega⟩
  | succ m ih =>
    intro i a d e hi hd hm
    unfold src
    refine Ex.run (fun h => E28l2 _ _ _ _ _ _ _ _ _ _ _ _ _ _ _ _ _ _ _ _ h) ?_
    unfold T28l2
    refine xW (c52 code a 2 hc (by omega)) ?_
    rintro _ ⟨_, a1, rfl, h1, h1', v, rfl, hv0, hv1, _⟩
    repeat first | (with_reducible refine xT ?_) | ((with_reducible refine xIg (n := ?_) ?_ ?_); rotate_left; exact rfl) | ((with_reducible refine xBg (n := ?_) ?_ ?_); rotate_left; exact rfl) | ((with_reducible refine xSg (n := ?_) ?_ ?_); rotate_left; exact rfl) | ((with_reducible refine xLg (n := ?_) (cs := ?_) ?_ ?_); rotate_left 2; exact rfl) | ((with_reducible refine xOg (n := ?_) (cs := ?_) ?_ ?_); rotate_left 2; exact rfl)
    have hv1 := hv1 (by omega)
    refine xD (fun h => ?_) (fun h => ?_)
    · have hw := w64_succ (n := i) (by omega)
      refine xM (by simp only [Bool.true_and, ble_dec, Bool.and_eq_true, decide_eq_true_eq]; omega) ?_
      rw [hw]
      have := ih (i + 1) a1 (d ++ [IntKind.i64.wrap (100 + (i : Int))]) (by omega) (by omega) (by simp; omega) (by omega)
      rw [ints_append, List.length_append] at this
      refine Ex.mono this ?_
      rintro _ ⟨l, a2, rfl, q1, q2, q3⟩
      exact ⟨l, a2, rfl, by omega, by omega, q3⟩
    · exact ⟨_, rfl, _, a1, rfl, by omega, by omega, _, _, _, _, d, _, _, rfl, by omega⟩
theorem few_loop (code : List UInt8) (hc : code.length ≤ 1099511627776) (x1 x2 x3 x4 x5 : Int) (x6 : Bool) (z1 : Nat) (z2 : List V) (k s t n c : Int) (p : Bool) : ∀ (m i a : Nat) (d : List Int), 7 - i = m → i ≤ 7 → d.length ≤ i → a + m + 100 < 1099511000000 →
    Ex (Drew code a (m + 70) LedL) (loopWE C 28 [] [Ob.box 80 [V.u, V.u] false] 0 [true, true, true, true, true, true, true, false, true] [] [(0, V.ptr 0 0), (2, V.ptr 1 0), (3, V.ptr 3 0), (6, V.int .i64 (i : Int))]
      [src code a, Ob.box 26 [V.int .i64 x1, V.int .i64 x2, V.int .i64 x3, V.int .i64 x4, V.ref 2, V.int .i64 x5, V.bool x6] false, Ob.row 2 z1 z2 false, Ob.box 26 [V.int .i64 k, V.int .i64 s, V.int .i64 t, V.int .i64 n, V.ref 4, V.int .i64 c, V.bool p] false, Ob.row 2 d.length (ints d) false]) := by
  intro m
  induction m with
  | zero =>
    intro i a d e hi hd hm
    unfold src
    refine Ex.run (fun h => E28l1 _ _ _ _ _ _ _ _ _ _ _ _ _ _ _ _ _ _ _ _ h) ?_
    unfold T28l1
    refine xD (fun h => by omega) (fun h => ?_)
    refine xW (c48 code a 8 hc (by omega)) ?_
    rintro _ ⟨_, a1, rfl, h1, h1', b, rfl⟩
    repeat first | (with_reducible refine xT ?_) | ((with_reducible refine xIg (n := ?_) ?_ ?_); rotate_left; exact rfl) | ((with_reducible refine xBg (n := ?_) ?_ ?_); rotate_left; exact rfl) | ((with_reducible refine xSg (n := ?_) ?_ ?_); rotate_left; exact rfl) | ((with_reducible refine xLg (n := ?_) (cs := ?_) ?_ ?_); rotate_left 2; exact rfl) | ((with_reducible refine xOg (n := ?_) (cs := ?_) ?_ ?_); rotate_left 2; exact rfl)
    refine xW (c52 code a1 24 hc (by omega)) ?_
    rintro _ ⟨_, a2, rfl, h2, h2', v, rfl, _⟩
    repeat first | (with_reducible refine xT ?_) | ((with_reducible refine xIg (n := ?_) ?_ ?_); rotate_left; exact rfl) | ((with_reducible refine xBg (n := ?_) ?_ ?_); rotate_left; exact rfl) | ((with_reducible refine xSg (n := ?_) ?_ ?_); rotate_left; exact rfl) | ((with_reducible refine xLg (n := ?_) (cs := ?_) ?_ ?_); rotate_left 2; exact rfl) | ((with_reducible refine xOg (n := ?_) (cs := ?_) ?_ ?_); rotate_left 2; exact rfl)
    refine xQ (fun _ => ?_) (fun _ => xQ (fun _ => ?_) (fun _ => xQ (fun _ => ?_) (fun _ => xQ (fun _ => ?_) (fun _ => xQ (fun _ => ?_) (fun _ => xQ (fun _ => ?_) (fun _ => xQ (fun _ => ?_) (fun _ => ?_)))))))
    · refine xW (c30 code a2 [0, 3] (by decide) hc (by omega)) ?_
      rintro _ ⟨_, a3, rfl, h3, h3', v3, rfl, _⟩
      repeat first | (with_reducible refine xT ?_) | ((with_reducible refine xIg (n := ?_) ?_ ?_); rotate_left; exact rfl) | ((with_reducible refine xBg (n := ?_) ?_ ?_); rotate_left; exact rfl) | ((with_reducible refine xSg (n := ?_) ?_ ?_); rotate_left; exact rfl) | ((with_reducible refine xLg (n := ?_) (cs := ?_) ?_ ?_); rotate_left 2; exact rfl) | ((with_reducible refine xOg (n := ?_) (cs := ?_) ?_ ?_); rotate_left 2; exact rfl)
      exact ⟨_, rfl, _, a3, rfl, by omega, by omega, _, _, _, _, d, _, _, rfl, by omega⟩
    · refine xW (c30 code a2 [-1, 1000000000000001, 1000000000000000] (by decide) hc (by omega)) ?_
      rintro _ ⟨_, a3, rfl, h3, h3', v3, rfl, _⟩
      repeat first | (with_reducible refine xT ?_) | ((with_reducible refine xIg (n := ?_) ?_ ?_); rotate_left; exact rfl) | ((with_reducible refine xBg (n := ?_) ?_ ?_); rotate_left; exact rfl) | ((with_reducible refine xSg (n := ?_) ?_ ?_); rotate_left; exact rfl) | ((with_reducible refine xLg (n := ?_) (cs := ?_) ?_ ?_); rotate_left 2; exact rfl) | ((with_reducible refine xOg (n := ?_) (cs := ?_) ?_ ?_); rotate_left 2; exact rfl)
      exact ⟨_, rfl, _, a3, rfl, by omega, by omega, _, _, _, _, d, _, _, rfl, by omega⟩
    · refine xW (c30 code a2 [-1, 1000000000000001, 61] (by decide) hc (by omega)) ?_
      rintro _ ⟨_, a3, rfl, h3, h3', v3, rfl, _⟩
      repeat first | (with_reducible refine xT ?_) | ((with_reducible refine xIg (n := ?_) ?_ ?_); rotate_left; exact rfl) | ((with_reducible refine xBg (n := ?_) ?_ ?_); rotate_left; exact rfl) | ((with_reducible refine xSg (n := ?_) ?_ ?_); rotate_left; exact rfl) | ((with_reducible refine xLg (n := ?_) (cs := ?_) ?_ ?_); rotate_left 2; exact rfl) | ((with_reducible refine xOg (n := ?_) (cs := ?_) ?_ ?_); rotate_left 2; exact rfl)
      exact ⟨_, rfl, _, a3, rfl, by omega, by omega, _, _, _, _, d, _, _, rfl, by omega⟩
    · refine xW (c30 code a2 [-1, 0, 1000000000000001] (by decide) hc (by omega)) ?_
      rintro _ ⟨_, a3, rfl, h3, h3', v3, rfl, _⟩
      repeat first | (with_reducible refine xT ?_) | ((with_reducible refine xIg (n := ?_) ?_ ?_); rotate_left; exact rfl) | ((with_reducible refine xBg (n := ?_) ?_ ?_); rotate_left; exact rfl) | ((with_reducible refine xSg (n := ?_) ?_ ?_); rotate_left; exact rfl) | ((with_reducible refine xLg (n := ?_) (cs := ?_) ?_ ?_); rotate_left 2; exact rfl) | ((with_reducible refine xOg (n := ?_) (cs := ?_) ?_ ?_); rotate_left 2; exact rfl)
      exact ⟨_, rfl, _, a3, rfl, by omega, by omega, _, _, _, _, d, _, _, rfl, by omega⟩
    · refine xW (c30 code a2 [0, 1000001, 1000002, 1000000] (by decide) hc (by omega)) ?_
      rintro _ ⟨_, a3, rfl, h3, h3', v3, rfl, _⟩
      repeat first | (with_reducible refine xT ?_) | ((with_reducible refine xIg (n := ?_) ?_ ?_); rotate_left; exact rfl) | ((with_reducible refine xBg (n := ?_) ?_ ?_); rotate_left; exact rfl) | ((with_reducible refine xSg (n := ?_) ?_ ?_); rotate_left; exact rfl) | ((with_reducible refine xLg (n := ?_) (cs := ?_) ?_ ?_); rotate_left 2; exact rfl) | ((with_reducible refine xOg (n := ?_) (cs := ?_) ?_ ?_); rotate_left 2; exact rfl)
      exact ⟨_, rfl, _, a3, rfl, by omega, by omega, _, _, _, _, d, _, _, rfl, by omega⟩
    · refine xW (c30 code a2 [1, 0, 1000001, 1000000] (by decide) hc (by omega)) ?_
      rintro _ ⟨_, a3, rfl, h3, h3', v3, rfl, _⟩
      repeat first | (with_reducible refine xT ?_) | ((with_reducible refine xIg (n := ?_) ?_ ?_); rotate_left; exact rfl) | ((with_reducible refine xBg (n := ?_) ?_ ?_); rotate_left; exact rfl) | ((with_reducible refine xSg (n := ?_) ?_ ?_); rotate_left; exact rfl) | ((with_reducible refine xLg (n := ?_) (cs := ?_) ?_ ?_); rotate_left 2; exact rfl) | ((with_reducible refine xOg (n := ?_) (cs := ?_) ?_ ?_); rotate_left 2; exact rfl)
      refine xM (by simp only [Bool.true_and, ble_dec, Bool.and_eq_true, decide_eq_true_eq]; omega) ?_
      exact ⟨_, rfl, _, a3, rfl, by omega, by omega, _, _, _, _, d ++ [v3], _, _, by rw [ints_append, List.length_append], by simp; omega⟩
    · refine Ex.mono (many_loop code hc x1 x2 x3 x4 x5 x6 z1 z2 k s t n c b 61 0 a2 [] (by omega) (by omega) rfl (by omega)) ?_
      rintro _ ⟨l, a3, rfl, q1, q2, q3⟩
      exact ⟨l, a3, rfl, by omega, by omega, q3⟩
    · exact ⟨_, rfl, _, a2, rfl, by omega, by omega, _, _, _, _, d, _, _, rfl, by omega⟩
  | succ m ih =>
    intro i a d e hi hd hm
    unfold src
    refine Ex.run (fun h => E28l1 _ _ _ _ _ _ _ _ _ _ _ _ _ _ _ _ _ _ _ _ h) ?_
    unfold T28l1
    refine xD (fun h => ?_) (fun h => by omega)
    have hw := w64_succ (n := i) (by omega)
    refine xW (c48 code a 3 hc (by omega)) ?_
    rintro _ ⟨_, a1, rfl, h1, h1', b, rfl⟩
    repeat first | (with_reducible refine xT ?_) | ((with_reducible refine xIg (n := ?_) ?_ ?_); rotate_left; exact rfl) | ((with_reducible refine xBg (n := ?_) ?_ ?_); rotate_left; exact rfl) | ((with_reducible refine xSg (n := ?_) ?_ ?_); rotate_left; exact rfl) | ((with_reducible refine xLg (n := ?_) (cs := ?_) ?_ ?_); rotate_left 2; exact rfl) | ((with_reducible refine xOg (n := ?_) (cs := ?_) ?_ ?_); rotate_left 2; exact rfl)
    rw [hw]
    refine xF (fun _ => ?_) (fun _ => ?_)
    · refine xM (by simp only [Bool.true_and, ble_dec, Bool.and_eq_true, decide_eq_true_eq]; omega) ?_
      have := ih (i + 1) a1 (d ++ [(i : Int)]) (by omega) (by omega) (by simp; omega) (by omega)
      rw [ints_append, List.length_append] at this
      refine Ex.mono this ?_
      rintro _ ⟨l, a2, rfl, q1, q2, q3⟩
      exact ⟨l, a2, rfl, by omega, by omega, q3⟩
    · have := ih (i + 1) a1 d (by omega) (by omega) (by omega) (by omega)
      refine Ex.mono this ?_
      rintro _ ⟨l, a2, rfl, q1, q2, q3⟩
      exact ⟨l, a2, rfl, by omega, by omega, q3⟩
theorem c28 (code : List UInt8) (a : Nat) (hc : code.length ≤ 1099511627776) (ha : a < 1099510000000) :
    Ex (Drew code a 100 LedL) (runWE C 28 [] [.ptr 0 0] [src code a]) := by
  unfold src
  refine Ex.run (fun h => E28 _ _ _ h) ?_
  unfold T28
  refine xW (c52 code a 2 hc (by omega)) ?_
  rintro _ ⟨_, a1, rfl, h1, h1', v1, rfl, _⟩
  repeat first | (with_reducible refine xT ?_) | ((with_reducible refine xIg (n := ?_) ?_ ?_); rotate_left; exact rfl) | ((with_reducible refine xBg (n := ?_) ?_ ?_); rotate_left; exact rfl) | ((with_reducible refine xSg (n := ?_) ?_ ?_); rotate_left; exact rfl) | ((with_reducible refine xLg (n := ?_) (cs := ?_) ?_ ?_); rotate_left 2; exact rfl) | ((with_reducible refine xOg (n := ?_) (cs := ?_) ?_ ?_); rotate_left 2; exact rfl)
  refine xW (c52 code a1 9 hc (by omega)) ?_
  rintro _ ⟨_, a2, rfl, h2, h2', v2, rfl, _⟩
  repeat first | (with_reducible refine xT ?_) | ((with_reducible refine xIg (n := ?_) ?_ ?_); rotate_left; exact rfl) | ((with_reducible refine xBg (n := ?_) ?_ ?_); rotate_left; exact rfl) | ((with_reducible refine xSg (n := ?_) ?_ ?_); rotate_left; exact rfl) | ((with_reducible refine xLg (n := ?_) (cs := ?_) ?_ ?_); rotate_left 2; exact rfl) | ((with_reducible refine xOg (n := ?_) (cs := ?_) ?_ ?_); rotate_left 2; exact rfl)
  refine xW (c30 code a2 [100, 1000, 60, 1000000000000000] (by decide) hc (by omega)) ?_
  rintro _ ⟨_, a3, rfl, h3, h3', v3, rfl, _⟩
  repeat first | (with_reducible refine xT ?_) | ((with_reducible refine xIg (n := ?_) ?_ ?_); rotate_left; exact rfl) | ((with_reducible refine xBg (n := ?_) ?_ ?_); rotate_left; exact rfl) | ((with_reducible refine xSg (n := ?_) ?_ ?_); rotate_left; exact rfl) | ((with_reducible refine xLg (n := ?_) (cs := ?_) ?_ ?_); rotate_left 2; exact rfl) | ((with_reducible refine xOg (n := ?_) (cs := ?_) ?_ ?_); rotate_left 2; exact rfl)
  refine xW (c52 code a3 60 hc (by omega)) ?_
  rintro _ ⟨_, a4, rfl, h4, h4', v4, rfl, _⟩
  repeat first | (with_reducible refine xT ?_) | ((with_reducible refine xIg (n := ?_) ?_ ?_); rotate_left; exact rfl) | ((with_reducible refine xBg (n := ?_) ?_ ?_); rotate_left; exact rfl) | ((with_reducible refine xSg (n := ?_) ?_ ?_); rotate_left; exact rfl) | ((with_reducible refine xLg (n := ?_) (cs := ?_) ?_ ?_); rotate_left 2; exact rfl) | ((with_reducible refine xOg (n := ?_) (cs := ?_) ?_ ?_); rotate_left 2; exact rfl)
  refine xW (c52 code a4 _ hc (by omega)) ?_
  rintro _ ⟨_, a5, rfl, h5, h5', v5, rfl, _⟩
  repeat first | (with_reducible refine xT ?_) | ((with_reducible refine xIg (n := ?_) ?_ ?_); rotate_left; exact rfl) | ((with_reducible refine xBg (n := ?_) ?_ ?_); rotate_left; exact rfl) | ((with_reducible refine xSg (n := ?_) ?_ ?_); rotate_left; exact rfl) | ((with_reducible refine xLg (n := ?_) (cs := ?_) ?_ ?_); rotate_left 2; exact rfl) | ((with_reducible refine xOg (n := ?_) (cs := ?_) ?_ ?_); rotate_left 2; exact rfl)
  refine xQ (fun _ => ?_) (fun _ => ?_)
  · refine Ex.mono (few_loop code hc 0 0 0 0 0 false 0 [] _ _ _ _ _ _ 6 1 a5 [] (by omega) (by omega) (by simp) (by omega)) ?_
    rintro _ ⟨l, a6, rfl, q1, q2, q3⟩
    exact ⟨l, a6, rfl, by omega, by omega, q3⟩
  · refine Ex.mono (few_loop code hc 0 0 0 0 0 false 0 [] _ _ _ _ _ _ 6 1 a5 [] (by omega) (by omega) (by simp) (by omega)) ?_
    rintro _ ⟨l, a6, rfl, q1, q2, q3⟩
    exact ⟨l, a6, rfl, by omega, by omega, q3⟩
end Go.Proofs.YtkjjneejmjfhlaaDoor.Draw
