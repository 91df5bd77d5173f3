/-
  FnSends: what it comes to.
-/
import Derived.Test.YtkjjneejmjfhlaaDoorPLDrawLedTD
namespace Go.Proofs.YtkjjneejmjfhlaaDoor.Draw
open Go Go.PI Go.PI.Led EqD
set_option maxHeartbeats 1000000
set_option linter.unusedVariables false
set_option linter.unusedSimpArgs false
theorem q1 {a b : Int} {x y : Option V} {r : Option V} (h : a = b) (k : x = r) : (bif a == b then x else y) = r := by
  rw [show (a == b) = true by simp [h]]; exact k
theorem q0 {a b : Int} {x y : Option V} {r : Option V} (h : a ≠ b) (k : y = r) : (bif a == b then x else y) = r := by
  rw [show (a == b) = false by simp [h]]; exact k
theorem n1 {a b : Int} {x y : Option V} {r : Option V} (h : a ≠ b) (k : x = r) : (bif a != b then x else y) = r := by
  rw [show (a != b) = true by simp [h]]; exact k
theorem n0 {a b : Int} {x y : Option V} {r : Option V} (h : a = b) (k : y = r) : (bif a != b then x else y) = r := by
  rw [show (a != b) = false by simp [h]]; exact k
theorem c7 (code : List UInt8) : runE C 7 [.sl code.length (bytesV code)] = some (.tup [.bool (decide ((code.length : Int) > 1048576))]) := E7 _ _ rfl
/-- What is sent leaves a ledger without a fault. -/
theorem sent_ok {k s t n : Int} {d : List Int} {c a : Int} {to : ByteArray} (h : sendCode k s t n d c a to = 0) :
    ledFault k s t n d c = 0 ∧ ledFault k (s + a) t (n + 1) d c = 0 ∧ held k (s + a) t = held k s t + (if k = 2 then -a else a) ∧ (isKind k ∧ 1 ≤ a ∧ a ≤ 1000000000) := by
  unfold sendCode at h
  split at h
  · rename_i h0; exact absurd h h0
  · rename_i h0
    have h0 : ledFault k s t n d c = 0 := Classical.not_not.1 h0
    split at h
    · rename_i h1; exact absurd h h1
    · rename_i h1
      have h1 : evFault k n a to = 0 := Classical.not_not.1 h1
      obtain ⟨hk, ⟨hn, ha⟩, _, _⟩ := evFault_ok h1
      obtain ⟨_, ⟨hs, ht, hc, hn1⟩, hd, hof, hh⟩ := ledFault_ok h0
      by_cases h2 : (if k = 1 then held k s t + a ≤ c else a ≤ held k s t) ∧ s + a ≤ 1000000000000000
      · have hheld : held k (s + a) t = held k s t + (if k = 2 then -a else a) := by
          unfold held
          rcases hk with rfl | rfl
          · simp only [if_true, show ¬ (1 : Int) = 2 by decide, if_false]; omega
          · simp only [if_true, show ¬ (2 : Int) = 1 by decide, if_false]; omega
        refine ⟨h0, ?_, hheld, hk, ha⟩
        unfold ledFault
        have hsa : isCoins (s + a) := by unfold isCoins at hs ⊢; omega
        rw [if_neg (fun q => q hk), if_neg (fun q => q ⟨hsa, ht, hc, by omega⟩), if_neg (by omega), if_neg (by rw [hof]; simp), if_neg]
        intro q
        apply q
        rw [hheld]
        have h3 := h2.1
        rcases hk with rfl | rfl
        · simp only [if_true, show ¬ (1 : Int) = 2 by decide, if_false] at h3 ⊢; omega
        · simp only [if_true, show ¬ (2 : Int) = 1 by decide, if_false] at h3 ⊢; omega
      · rw [if_neg h2] at h; cases h
theorem c3 (code : List UInt8) (h : code.length ≤ 9223372036854775807) : runE C 3 [.sl code.length (bytesV code)] = some (.tup [.bool true]) := by
  refine E3 _ _ ?_
  unfold T3
  refine sN (c7 code) ?_
  repeat first | (with_reducible refine sT ?_) | ((with_reducible refine sIg (n := ?_) ?_ ?_); rotate_left; exact rfl) | ((with_reducible refine sBg (n := ?_) ?_ ?_); rotate_left; exact rfl) | ((with_reducible refine sSg (n := ?_) ?_ ?_); rotate_left; exact rfl) | ((with_reducible refine sLg (n := ?_) (cs := ?_) ?_ ?_); rotate_left 2; exact rfl) | ((with_reducible refine sOg (n := ?_) (cs := ?_) ?_ ?_); rotate_left 2; exact rfl) | (with_reducible refine sNt ?_) | (with_reducible refine sNe ?_)
  by_cases g : (code.length : Int) > 1048576
  · exact s1 g rfl
  refine s0 g ?_
  obtain ⟨_, hr, k, s, t, n, d, c, p, a, to, rfl, hd, hto⟩ := c8 code (by omega)
  refine sN hr ?_
  repeat first | (with_reducible refine sT ?_) | ((with_reducible refine sIg (n := ?_) ?_ ?_); rotate_left; exact rfl) | ((with_reducible refine sBg (n := ?_) ?_ ?_); rotate_left; exact rfl) | ((with_reducible refine sSg (n := ?_) ?_ ?_); rotate_left; exact rfl) | ((with_reducible refine sLg (n := ?_) (cs := ?_) ?_ ?_); rotate_left 2; exact rfl) | ((with_reducible refine sOg (n := ?_) (cs := ?_) ?_ ?_); rotate_left 2; exact rfl) | (with_reducible refine sNt ?_) | (with_reducible refine sNe ?_)
  have hI := Led.c9 k s t n d c p a to (by omega) (by omega)
  have hS := Led.c10 k s t n d c p a to (by omega)
  unfold sendRes at hI hS
  by_cases h1 : sendCode k s t n d c a to = 0
  · rw [if_pos h1] at hI
    unfold ledRes at hI
    obtain ⟨f0, f1, f2, hk, ha⟩ := sent_ok h1
    have hH := Led.c11 k s t n d c p (by omega)
    have hH1 := Led.c11 k (s + a) t (n + 1) d c p (by omega)
    have hL1 := Led.c12 k (s + a) t (n + 1) d c p (by omega)
    rw [if_pos f0] at hH
    rw [if_pos f1] at hH1
    rw [f1] at hL1
    obtain ⟨_, ⟨hs, ht, hc, hn1⟩, _, _, hh⟩ := ledFault_ok f0
    obtain ⟨_, ⟨_, _, _, hn2⟩, _, _, hh1⟩ := ledFault_ok f1
    unfold isCoins at hs ht hc
    refine sN hI ?_
    repeat first | (with_reducible refine sT ?_) | ((with_reducible refine sIg (n := ?_) ?_ ?_); rotate_left; exact rfl) | ((with_reducible refine sBg (n := ?_) ?_ ?_); rotate_left; exact rfl) | ((with_reducible refine sSg (n := ?_) ?_ ?_); rotate_left; exact rfl) | ((with_reducible refine sLg (n := ?_) (cs := ?_) ?_ ?_); rotate_left 2; exact rfl) | ((with_reducible refine sOg (n := ?_) (cs := ?_) ?_ ?_); rotate_left 2; exact rfl) | (with_reducible refine sNt ?_) | (with_reducible refine sNe ?_)
    have wn : IntKind.i64.wrap (n + 1) = n + 1 := w64 (by omega) (by omega)
    have wa : IntKind.i64.wrap (0 - a) = -a := by rw [w64 (by omega) (by omega)]; omega
    by_cases h2 : k = 2
    · refine q1 h2 (sN hH1 ?_)
      repeat first | (with_reducible refine sT ?_) | ((with_reducible refine sIg (n := ?_) ?_ ?_); rotate_left; exact rfl) | ((with_reducible refine sBg (n := ?_) ?_ ?_); rotate_left; exact rfl) | ((with_reducible refine sSg (n := ?_) ?_ ?_); rotate_left; exact rfl) | ((with_reducible refine sLg (n := ?_) (cs := ?_) ?_ ?_); rotate_left 2; exact rfl) | ((with_reducible refine sOg (n := ?_) (cs := ?_) ?_ ?_); rotate_left 2; exact rfl) | (with_reducible refine sNt ?_) | (with_reducible refine sNe ?_)
      refine sN hL1 ?_
      repeat first | (with_reducible refine sT ?_) | ((with_reducible refine sIg (n := ?_) ?_ ?_); rotate_left; exact rfl) | ((with_reducible refine sBg (n := ?_) ?_ ?_); rotate_left; exact rfl) | ((with_reducible refine sSg (n := ?_) ?_ ?_); rotate_left; exact rfl) | ((with_reducible refine sLg (n := ?_) (cs := ?_) ?_ ?_); rotate_left 2; exact rfl) | ((with_reducible refine sOg (n := ?_) (cs := ?_) ?_ ?_); rotate_left 2; exact rfl) | (with_reducible refine sNt ?_) | (with_reducible refine sNe ?_)
      refine q1 rfl (q1 rfl (sN hH ?_))
      repeat first | (with_reducible refine sT ?_) | ((with_reducible refine sIg (n := ?_) ?_ ?_); rotate_left; exact rfl) | ((with_reducible refine sBg (n := ?_) ?_ ?_); rotate_left; exact rfl) | ((with_reducible refine sSg (n := ?_) ?_ ?_); rotate_left; exact rfl) | ((with_reducible refine sLg (n := ?_) (cs := ?_) ?_ ?_); rotate_left 2; exact rfl) | ((with_reducible refine sOg (n := ?_) (cs := ?_) ?_ ?_); rotate_left 2; exact rfl) | (with_reducible refine sNt ?_) | (with_reducible refine sNe ?_)
      rw [if_pos h2] at f2
      refine q1 ?_ (s1 hh1.2 (q1 rfl (q1 rfl (q1 wn.symm ?_))))
      · rw [wa, w64 (by omega) (by omega)]; exact f2
      · simp
    · refine q0 h2 (sN hH1 ?_)
      repeat first | (with_reducible refine sT ?_) | ((with_reducible refine sIg (n := ?_) ?_ ?_); rotate_left; exact rfl) | ((with_reducible refine sBg (n := ?_) ?_ ?_); rotate_left; exact rfl) | ((with_reducible refine sSg (n := ?_) ?_ ?_); rotate_left; exact rfl) | ((with_reducible refine sLg (n := ?_) (cs := ?_) ?_ ?_); rotate_left 2; exact rfl) | ((with_reducible refine sOg (n := ?_) (cs := ?_) ?_ ?_); rotate_left 2; exact rfl) | (with_reducible refine sNt ?_) | (with_reducible refine sNe ?_)
      refine sN hL1 ?_
      repeat first | (with_reducible refine sT ?_) | ((with_reducible refine sIg (n := ?_) ?_ ?_); rotate_left; exact rfl) | ((with_reducible refine sBg (n := ?_) ?_ ?_); rotate_left; exact rfl) | ((with_reducible refine sSg (n := ?_) ?_ ?_); rotate_left; exact rfl) | ((with_reducible refine sLg (n := ?_) (cs := ?_) ?_ ?_); rotate_left 2; exact rfl) | ((with_reducible refine sOg (n := ?_) (cs := ?_) ?_ ?_); rotate_left 2; exact rfl) | (with_reducible refine sNt ?_) | (with_reducible refine sNe ?_)
      refine q1 rfl (q1 rfl (sN hH ?_))
      repeat first | (with_reducible refine sT ?_) | ((with_reducible refine sIg (n := ?_) ?_ ?_); rotate_left; exact rfl) | ((with_reducible refine sBg (n := ?_) ?_ ?_); rotate_left; exact rfl) | ((with_reducible refine sSg (n := ?_) ?_ ?_); rotate_left; exact rfl) | ((with_reducible refine sLg (n := ?_) (cs := ?_) ?_ ?_); rotate_left 2; exact rfl) | ((with_reducible refine sOg (n := ?_) (cs := ?_) ?_ ?_); rotate_left 2; exact rfl) | (with_reducible refine sNt ?_) | (with_reducible refine sNe ?_)
      rw [if_neg h2] at f2
      refine q1 ?_ (s1 hh1.2 (q1 rfl (q1 rfl (q1 wn.symm ?_))))
      · rw [w64 (by omega) (by omega)]; exact f2
      · simp
  · rw [if_neg h1] at hI hS
    unfold ledRes at hI hS
    refine sN hI ?_
    repeat first | (with_reducible refine sT ?_) | ((with_reducible refine sIg (n := ?_) ?_ ?_); rotate_left; exact rfl) | ((with_reducible refine sBg (n := ?_) ?_ ?_); rotate_left; exact rfl) | ((with_reducible refine sSg (n := ?_) ?_ ?_); rotate_left; exact rfl) | ((with_reducible refine sLg (n := ?_) (cs := ?_) ?_ ?_); rotate_left 2; exact rfl) | ((with_reducible refine sOg (n := ?_) (cs := ?_) ?_ ?_); rotate_left 2; exact rfl) | (with_reducible refine sNt ?_) | (with_reducible refine sNe ?_)
    refine n1 h1 (sN hS ?_)
    repeat first | (with_reducible refine sT ?_) | ((with_reducible refine sIg (n := ?_) ?_ ?_); rotate_left; exact rfl) | ((with_reducible refine sBg (n := ?_) ?_ ?_); rotate_left; exact rfl) | ((with_reducible refine sSg (n := ?_) ?_ ?_); rotate_left; exact rfl) | ((with_reducible refine sLg (n := ?_) (cs := ?_) ?_ ?_); rotate_left 2; exact rfl) | ((with_reducible refine sOg (n := ?_) (cs := ?_) ?_ ?_); rotate_left 2; exact rfl) | (with_reducible refine sNt ?_) | (with_reducible refine sNe ?_)
    simp
end Go.Proofs.YtkjjneejmjfhlaaDoor.Draw
