/-
  Draws: what a source of bytes tells.
-/
import Derived.Test.YtkjjneejmjfhlaaDoorPIEqE
import Derived.Test.YtkjjneejmjfhlaaDoorPMLedger
namespace Go.Proofs.YtkjjneejmjfhlaaDoor.Draw
open Go Go.PI Go.PI.Led EqE
set_option maxHeartbeats 1000000
set_option linter.unusedVariables false
set_option linter.unusedSimpArgs false
def src (code : List UInt8) (a : Nat) : Ob := Ob.box 80 [.sl code.length (bytesV code), .int .i64 a] false
/-- What a draw of a function that writes the source leaves. -/
def Drew (code : List UInt8) (a m : Nat) (P : List V → Prop) (r : V) : Prop := ∃ l a', r = .tup (l ++ [.sl code.length (bytesV code), .int .i64 ((a' : Nat) : Int)]) ∧ a ≤ a' ∧ a' ≤ a + m ∧ P l
theorem bytes_at {l : List UInt8} {i : Nat} (h : i < l.length) : ∃ b : Nat, b < 256 ∧ (bytesV l)[i]? = some (.int .u8 (b : Int)) := by
  refine ⟨l[i].toNat, l[i].toNat_lt, ?_⟩
  simp [bytesV, h]
theorem c52 (code : List UInt8) (a : Nat) (n : Int) (hc : code.length ≤ 1099511627776) (ha : a < 1099511627776) :
    Ex (Drew code a 1 fun l => ∃ v : Int, l = [.int .i64 v] ∧ 0 ≤ v ∧ (1 ≤ n → v < n) ∧ (n < 1 → v = 0)) (runWE C 52 [] [.ptr 0 0, .int .i64 n] [src code a]) := by
  unfold src
  refine Ex.run (fun h => E52 _ _ _ _ h) ?_
  unfold T52
  have w1 : IntKind.i64.wrap ((a : Int) + 1) = ((a + 1 : Nat) : Int) := by rw [w64 (by omega) (by omega)]; omega
  have w2 : IntKind.i64.wrap (((a + 1 : Nat) : Int) - 1) = (a : Int) := by rw [w64 (by omega) (by omega)]; omega
  have fin : ∀ x : Int, 0 ≤ x → 1 ≤ n → Ex (Drew code a 1 fun l => ∃ v : Int, l = [.int .i64 v] ∧ 0 ≤ v ∧ (1 ≤ n → v < n) ∧ (n < 1 → v = 0))
      (some (V.tup [V.int .i64 (x.tmod n), V.sl code.length (bytesV code), V.int .i64 ((a + 1 : Nat) : Int)])) := fun x hx hn =>
    ⟨_, rfl, _, a + 1, rfl, by omega, by omega, _, rfl, Int.tmod_nonneg n hx, fun _ => Int.tmod_lt_of_pos x (by omega), fun h => by omega⟩
  rw [w1, w2]
  refine xD (fun h => ?_) (fun h => ?_)
  · exact ⟨_, rfl, _, a + 1, rfl, by omega, by omega, 0, rfl, by omega, fun h => by omega, fun _ => rfl⟩
  have hn0 : (!decide (n = 0)) = true := by simp; omega
  refine xQ (fun h0 => ?_) (fun h0 => ?_)
  · refine xM hn0 ?_
    refine fin _ ?_ (by omega)
    rw [w64 (by omega) (by omega)]; omega
  have hk : 0 < code.length := by omega
  have hk0 : (!decide ((code.length : Int) = 0)) = true := by rw [decide_eq_false (by omega)]; rfl
  have inb : ∀ x : Nat, inB ((x : Int).tmod (code.length : Int)) code.length = true ∧ ∃ b : Nat, b < 256 ∧ (bytesV code)[((x : Int).tmod (code.length : Int)).toNat * 1]? = some (.int .u8 (b : Int)) := by
    intro x
    have e : (x : Int).tmod (code.length : Int) = ((x % code.length : Nat) : Int) := by rw [Int.ofNat_tmod]
    have hl := Nat.mod_lt x hk
    rw [e]
    refine ⟨by rw [inB_nat, decide_eq_true hl], ?_⟩
    rw [Int.toNat_natCast, Nat.mul_one]
    exact bytes_at hl
  obtain ⟨i1, b1, hb1, g1⟩ := inb a
  have w3 : IntKind.i64.wrap ((a : Int) + 1) = ((a + 1 : Nat) : Int) := w1
  obtain ⟨i2, b2, hb2, g2⟩ := inb (a + 1)
  have hd : 0 ≤ (a : Int).tdiv (code.length : Int) ∧ (a : Int).tdiv (code.length : Int) ≤ a := by
    rw [← Int.ofNat_tdiv]
    exact ⟨Int.natCast_nonneg _, Int.ofNat_le.2 (Nat.div_le_self a code.length)⟩
  generalize (a : Int).tdiv (code.length : Int) = D at hd
  refine xM hk0 (xM i1 ?_)
  refine xIg g1 (xM hk0 ?_)
  have x1 : IntKind.i64.wrap (b1 : Int) = b1 := w64 (by omega) (by omega)
  have x2 : IntKind.i64.wrap (b2 : Int) = b2 := w64 (by omega) (by omega)
  have x3 : IntKind.i64.wrap D = D := w64 (by omega) (by omega)
  have x4 : IntKind.i64.wrap (D * 37) = D * 37 := w64 (by omega) (by omega)
  have x5 : IntKind.i64.wrap ((b1 : Int) + D * 37) = (b1 : Int) + D * 37 := w64 (by omega) (by omega)
  rw [x1, x3, x4, x5]
  refine xD (fun h2 => ?_) (fun h2 => ?_)
  · rw [w3]
    refine xM hk0 (xM i2 ?_)
    refine xIg g2 (xM hn0 ?_)
    have x6 : IntKind.i64.wrap (((b1 : Int) + D * 37) * 251) = ((b1 : Int) + D * 37) * 251 := w64 (by omega) (by omega)
    have x7 : IntKind.i64.wrap ((b2 : Int) * 13) = (b2 : Int) * 13 := w64 (by omega) (by omega)
    rw [x2, x6, x7]
    refine fin _ ?_ (by omega)
    have x8 : IntKind.i64.wrap (((b1 : Int) + D * 37) * 251 + (b2 : Int) * 13) = ((b1 : Int) + D * 37) * 251 + (b2 : Int) * 13 := w64 (by omega) (by omega)
    rw [x8, w64 (by omega) (by omega)]
    omega
  · refine xM hn0 (fin _ (by omega) (by omega))
theorem c48 (code : List UInt8) (a : Nat) (n : Int) (hc : code.length ≤ 1099511627776) (ha : a < 1099511627776) :
    Ex (Drew code a 1 fun l => ∃ v : Bool, l = [.bool v]) (runWE C 48 [] [.ptr 0 0, .int .i64 n] [src code a]) := by
  unfold src
  refine Ex.run (fun h => E48 _ _ _ _ h) ?_
  unfold T48
  refine xW (c52 code a n hc ha) ?_
  rintro _ ⟨_, a', rfl, h1, h2, v, rfl, hv⟩
  repeat first | (with_reducible refine xT ?_) | ((with_reducible refine xIg (n := ?_) ?_ ?_); rotate_left; exact rfl) | ((with_reducible refine xBg (n := ?_) ?_ ?_); rotate_left; exact rfl) | ((with_reducible refine xSg (n := ?_) ?_ ?_); rotate_left; exact rfl) | ((with_reducible refine xLg (n := ?_) (cs := ?_) ?_ ?_); rotate_left 2; exact rfl) | ((with_reducible refine xOg (n := ?_) (cs := ?_) ?_ ?_); rotate_left 2; exact rfl)
  exact ⟨_, rfl, _, a', rfl, h1, h2, _, rfl⟩
theorem c30 (code : List UInt8) (a : Nat) (l : List Int) (hl : 0 < l.length) (hc : code.length ≤ 1099511627776) (ha : a < 1099511627776) :
    Ex (Drew code a 1 fun q => ∃ v : Int, q = [.int .i64 v] ∧ v ∈ l) (runWE C 30 [] [.ptr 0 0, .sl l.length (ints l)] [src code a]) := by
  unfold src
  refine Ex.run (fun h => E30 _ _ _ _ _ h) ?_
  unfold T30
  refine xW (c52 code a (l.length : Int) hc ha) ?_
  rintro _ ⟨_, a', rfl, h1, h2, v, rfl, hv0, hv1, _⟩
  repeat first | (with_reducible refine xT ?_) | ((with_reducible refine xIg (n := ?_) ?_ ?_); rotate_left; exact rfl) | ((with_reducible refine xBg (n := ?_) ?_ ?_); rotate_left; exact rfl) | ((with_reducible refine xSg (n := ?_) ?_ ?_); rotate_left; exact rfl) | ((with_reducible refine xLg (n := ?_) (cs := ?_) ?_ ?_); rotate_left 2; exact rfl) | ((with_reducible refine xOg (n := ?_) (cs := ?_) ?_ ?_); rotate_left 2; exact rfl)
  have hv1 := hv1 (by omega)
  obtain ⟨i, rfl⟩ := Int.eq_ofNat_of_zero_le hv0
  have hi : i < l.length := by omega
  refine xM (by rw [inB_nat, decide_eq_true hi]) ?_
  refine xIg (n := l[i]) (by rw [Int.toNat_natCast, Nat.mul_one, ints_get hi]) ?_
  exact ⟨_, rfl, _, a', rfl, h1, h2, _, rfl, List.getElem_mem hi⟩
end Go.Proofs.YtkjjneejmjfhlaaDoor.Draw
