/-
  Settling: the functions, and the laws.
-/
import Derived.Test.YtkjjneejmjfhlaaDoorPLSettleTE
namespace Go.Proofs.YtkjjneejmjfhlaaDoor.Led
open Go Go.PI Go.PI.Led Go.Proofs.YtkjjneejmjfhlaaDoor.Base EqE
set_option maxHeartbeats 1000000
set_option linter.unusedVariables false
set_option linter.unusedSimpArgs false
theorem q1 {a b : Int} {x y : Option V} {r : Option V} (h : a = b) (k : x = r) : (bif a == b then x else y) = r := by
  rw [show (a == b) = true by simp [h]]; exact k
theorem q0 {a b : Int} {x y : Option V} {r : Option V} (h : a ≠ b) (k : y = r) : (bif a == b then x else y) = r := by
  rw [show (a == b) = false by simp [h]]; exact k
theorem n1 {a b : Int} {x y : Option V} {r : Option V} (h : a ≠ b) (k : x = r) : (bif a != b then x else y) = r := by
  rw [show (a != b) = true by simp [h]]; exact k
theorem n0 {a b : Int} {x y : Option V} {r : Option V} (h : a = b) (k : y = r) : (bif a != b then x else y) = r := by
  rw [show (a != b) = false by simp [h]]; exact k
theorem res_bad (mk : Nat → List V → V) {k s t n : Int} {d : List Int} {c : Int} {p : Bool} {ek en ea : Int} {eto : ByteArray} {code : Int} (h : settleCode k s t n d c p ek en ea eto = code) (hne : code ≠ 0) :
    settleRes mk k s t n d c p ek en ea eto = ledRes mk code 0 0 0 0 [] 0 false 0 0 0 ⟨#[]⟩ := by
  unfold settleRes
  rw [h, if_neg hne]
theorem res_good (mk : Nat → List V → V) {k s t n : Int} {d : List Int} {c : Int} {p : Bool} {ek en ea : Int} {eto : ByteArray} (h : settleCode k s t n d c p ek en ea eto = 0) :
    settleRes mk k s t n d c p ek en ea eto = ledRes mk 0 k s (t + ea) n (ins en d) c p ek en ea eto := by
  unfold settleRes
  rw [if_pos h]
theorem c21 (k s t n : Int) (d : List Int) (c : Int) (p : Bool) (ek en ea : Int) (eto : ByteArray) (h : d.length ≤ 1000000000) (hto : eto.size ≤ 9223372036854775807) :
    runE C 21 [.agg [.int .i64 k, .int .i64 s, .int .i64 t, .int .i64 n, .sl d.length (ints d), .int .i64 c, .bool p], .agg [.int .i64 ek, .int .i64 en, .int .i64 ea, .str eto]] = some (.tup (settleRes V.osl k s t n d c p ek en ea eto)) := by
  refine E21 _ _ _ _ _ _ _ _ _ _ _ _ ?_
  unfold T21
  refine sN (c12 k s t n d c p h) ?_
  repeat first | (with_reducible refine sT ?_) | ((with_reducible refine sIg (n := ?_) ?_ ?_); rotate_left; exact rfl) | ((with_reducible refine sBg (n := ?_) ?_ ?_); rotate_left; exact rfl) | ((with_reducible refine sSg (n := ?_) ?_ ?_); rotate_left; exact rfl) | ((with_reducible refine sLg (n := ?_) (cs := ?_) ?_ ?_); rotate_left 2; exact rfl) | ((with_reducible refine sOg (n := ?_) (cs := ?_) ?_ ?_); rotate_left 2; exact rfl) | (with_reducible refine sNt ?_) | (with_reducible refine sNe ?_)
  by_cases h0 : ledFault k s t n d c = 0
  · refine n0 h0 (sN (c32 ek en ea eto hto) ?_)
    repeat first | (with_reducible refine sT ?_) | ((with_reducible refine sIg (n := ?_) ?_ ?_); rotate_left; exact rfl) | ((with_reducible refine sBg (n := ?_) ?_ ?_); rotate_left; exact rfl) | ((with_reducible refine sSg (n := ?_) ?_ ?_); rotate_left; exact rfl) | ((with_reducible refine sLg (n := ?_) (cs := ?_) ?_ ?_); rotate_left 2; exact rfl) | ((with_reducible refine sOg (n := ?_) (cs := ?_) ?_ ?_); rotate_left 2; exact rfl) | (with_reducible refine sNt ?_) | (with_reducible refine sNe ?_)
    obtain ⟨hk, ⟨hs, ht, hc, hn⟩, hd60, hof, hh⟩ := ledFault_ok h0
    have hri := (rises_iff d).1 hof
    by_cases h1 : evFault ek en ea eto = 0
    · obtain ⟨kk, hkl, b1, b2, hbs⟩ := c49 d en h hri.1
      refine n0 h1 (sN hbs ?_)
      repeat first | (with_reducible refine sT ?_) | ((with_reducible refine sIg (n := ?_) ?_ ?_); rotate_left; exact rfl) | ((with_reducible refine sBg (n := ?_) ?_ ?_); rotate_left; exact rfl) | ((with_reducible refine sSg (n := ?_) ?_ ?_); rotate_left; exact rfl) | ((with_reducible refine sLg (n := ?_) (cs := ?_) ?_ ?_); rotate_left 2; exact rfl) | ((with_reducible refine sOg (n := ?_) (cs := ?_) ?_ ?_); rotate_left 2; exact rfl) | (with_reducible refine sNt ?_) | (with_reducible refine sNe ?_)
      by_cases h2 : ek = k
      · have hcode : settleCode k s t n d c p ek en ea eto = 1 := by
          unfold settleCode; rw [if_neg (by simp [h0]), if_neg (by simp [h1]), if_pos h2]
        rw [res_bad _ hcode (by decide)]
        exact q1 h2 rfl
      · refine q0 h2 ?_
        cases p with
        | true =>
          have hcode : settleCode k s t n d c true ek en ea eto = 9 := by
            unfold settleCode; rw [if_neg (by simp [h0]), if_neg (by simp [h1]), if_neg h2, if_pos rfl]
          rw [res_bad _ hcode (by decide)]
          rfl
        | false =>
          show (bif decide (en ∈ d) then _ else _) = _
          by_cases h4 : en ∈ d
          · have hcode : settleCode k s t n d c false ek en ea eto = 7 := by
              unfold settleCode; rw [if_neg (by simp [h0]), if_neg (by simp [h1]), if_neg h2, if_neg (by simp), if_pos h4]
            rw [res_bad _ hcode (by decide)]
            exact s1 h4 rfl
          · refine s0 h4 ?_
            by_cases h5 : 60 ≤ d.length
            · have hcode : settleCode k s t n d c false ek en ea eto = 2 := by
                unfold settleCode; rw [if_neg (by simp [h0]), if_neg (by simp [h1]), if_neg h2, if_neg (by simp), if_neg h4, if_pos h5]
              rw [res_bad _ hcode (by decide)]
              exact q1 (by omega) rfl
            · refine q0 (by omega) (sN (c33 k s t n d c false h) ?_)
              repeat first | (with_reducible refine sT ?_) | ((with_reducible refine sIg (n := ?_) ?_ ?_); rotate_left; exact rfl) | ((with_reducible refine sBg (n := ?_) ?_ ?_); rotate_left; exact rfl) | ((with_reducible refine sSg (n := ?_) ?_ ?_); rotate_left; exact rfl) | ((with_reducible refine sLg (n := ?_) (cs := ?_) ?_ ?_); rotate_left 2; exact rfl) | ((with_reducible refine sOg (n := ?_) (cs := ?_) ?_ ?_); rotate_left 2; exact rfl) | (with_reducible refine sNt ?_) | (with_reducible refine sNe ?_)
              refine (both_self' _).trans ?_
              obtain ⟨_, ⟨_, ha⟩, _, _⟩ := evFault_ok h1
              obtain ⟨r1, r2, r3, r4⟩ := settle_room h0 ha
              have b2' : ∀ q (hq : q < d.length), kk ≤ q → en < d[q] := fun q hq hkq => by
                have := b2 q hq hkq
                have : en ≠ d[q] := fun e => h4 (e ▸ List.getElem_mem hq)
                omega
              have hins : ints (ins en d) = List.take kk (ints d) ++ [V.int .i64 en] ++ List.drop kk (ints d) := by
                rw [ins_at en d kk hkl b1 b2', ints_append, ints_append, ints_take, ints_drop]; rfl
              have hcode : settleCode k s t n d c false ek en ea eto = if ((0 ≤ held k s (t + ea) ∧ held k s (t + ea) ≤ c) ∧ isCoins (t + ea)) then 0 else 3 := by
                unfold settleCode; rw [if_neg (by simp [h0]), if_neg (by simp [h1]), if_neg h2, if_neg (by simp), if_neg h4, if_neg h5]
                by_cases e : ((0 ≤ held k s (t + ea) ∧ held k s (t + ea) ≤ c) ∧ isCoins (t + ea))
                · rw [if_pos e, if_pos (r1.1 e)]
                · rw [if_neg e, if_neg (fun x => e (r1.2 x))]
              refine sM (by simp only [Bool.true_and, ble_dec, Bool.and_eq_true, decide_eq_true_eq]; exact ⟨by omega, by omega, by show (d.length + 1) * 8 ≤ 1000000000; omega⟩) ?_
              rw [Int.toNat_natCast, r3, ← hins]
              have hlen : d.length + 1 = (ins en d).length := (ins_length en d).symm
              refine sN (c35 k s (t + ea) n _ _ c false) ?_
              repeat first | (with_reducible refine sT ?_) | ((with_reducible refine sIg (n := ?_) ?_ ?_); rotate_left; exact rfl) | ((with_reducible refine sBg (n := ?_) ?_ ?_); rotate_left; exact rfl) | ((with_reducible refine sSg (n := ?_) ?_ ?_); rotate_left; exact rfl) | ((with_reducible refine sLg (n := ?_) (cs := ?_) ?_ ?_); rotate_left 2; exact rfl) | ((with_reducible refine sOg (n := ?_) (cs := ?_) ?_ ?_); rotate_left 2; exact rfl) | (with_reducible refine sNt ?_) | (with_reducible refine sNe ?_)
              rw [r2]
              refine sN (c34 _ 0 c) ?_
              repeat first | (with_reducible refine sT ?_) | ((with_reducible refine sIg (n := ?_) ?_ ?_); rotate_left; exact rfl) | ((with_reducible refine sBg (n := ?_) ?_ ?_); rotate_left; exact rfl) | ((with_reducible refine sSg (n := ?_) ?_ ?_); rotate_left; exact rfl) | ((with_reducible refine sLg (n := ?_) (cs := ?_) ?_ ?_); rotate_left 2; exact rfl) | ((with_reducible refine sOg (n := ?_) (cs := ?_) ?_ ?_); rotate_left 2; exact rfl) | (with_reducible refine sNt ?_) | (with_reducible refine sNe ?_)
              by_cases e1 : 0 ≤ held k s (t + ea) ∧ held k s (t + ea) ≤ c
              · rw [decide_eq_true e1]
                refine sNt (sN (c36 _) ?_)
                repeat first | (with_reducible refine sT ?_) | ((with_reducible refine sIg (n := ?_) ?_ ?_); rotate_left; exact rfl) | ((with_reducible refine sBg (n := ?_) ?_ ?_); rotate_left; exact rfl) | ((with_reducible refine sSg (n := ?_) ?_ ?_); rotate_left; exact rfl) | ((with_reducible refine sLg (n := ?_) (cs := ?_) ?_ ?_); rotate_left 2; exact rfl) | ((with_reducible refine sOg (n := ?_) (cs := ?_) ?_ ?_); rotate_left 2; exact rfl) | (with_reducible refine sNt ?_) | (with_reducible refine sNe ?_)
                by_cases e2 : isCoins (t + ea)
                · rw [if_pos ⟨e1, e2⟩] at hcode
                  rw [decide_eq_true e2, res_good _ hcode]
                  refine sNt (sM (by rw [ints_flat]; rfl) ?_)
                  unfold ledRes
                  rw [hlen]
                · rw [if_neg (fun x => e2 x.2)] at hcode
                  rw [decide_eq_false e2, res_bad _ hcode (by decide)]
                  rfl
              · rw [if_neg (fun x => e1 x.1)] at hcode
                rw [decide_eq_false e1, res_bad _ hcode (by decide)]
                rfl
    · have hcode : settleCode k s t n d c p ek en ea eto = evFault ek en ea eto := by
        unfold settleCode; rw [if_neg (by simp [h0]), if_pos h1]
      rw [res_bad _ hcode h1]
      exact n1 h1 rfl
  · have hcode : settleCode k s t n d c p ek en ea eto = ledFault k s t n d c := by
      unfold settleCode; rw [if_pos h0]
    rw [res_bad _ hcode h0]
    exact n1 h0 rfl
theorem c51 (k s t n : Int) (d : List Int) (c : Int) (p : Bool) (ek en ea : Int) (eto : ByteArray) (h : d.length ≤ 1000000000) (h0 : ledFault k s t n d c = 0) :
    runWE C 51 [] [.ptr 0 0, .agg [.int .i64 ek, .int .i64 en, .int .i64 ea, .str eto]] [.box 26 [.int .i64 k, .int .i64 s, .int .i64 t, .int .i64 n, .ref 1, .int .i64 c, .bool p] false, .row 2 d.length (ints d) false]
      = some (.tup (if settleCode k s t n d c p ek en ea eto = 0 then [.int .i64 0, .int .i64 k, .int .i64 s, .int .i64 (t + ea), .int .i64 n, .osl (ins en d).length (ints (ins en d)), .int .i64 c, .bool p]
          else [.int .i64 (settleCode k s t n d c p ek en ea eto), .int .i64 k, .int .i64 s, .int .i64 t, .int .i64 n, .osl d.length (ints d), .int .i64 c, .bool p])) := by
  refine E51 _ _ _ _ _ _ _ _ _ _ _ _ ?_
  unfold T51
  have hfl : (false || (ints d).all flatV) = true := by rw [ints_flat]; rfl
  refine sN (c58 ek en ea eto) ?_
  repeat first | (with_reducible refine sT ?_) | ((with_reducible refine sIg (n := ?_) ?_ ?_); rotate_left; exact rfl) | ((with_reducible refine sBg (n := ?_) ?_ ?_); rotate_left; exact rfl) | ((with_reducible refine sSg (n := ?_) ?_ ?_); rotate_left; exact rfl) | ((with_reducible refine sLg (n := ?_) (cs := ?_) ?_ ?_); rotate_left 2; exact rfl) | ((with_reducible refine sOg (n := ?_) (cs := ?_) ?_ ?_); rotate_left 2; exact rfl) | (with_reducible refine sNt ?_) | (with_reducible refine sNe ?_)
  by_cases h1 : evFault ek en ea eto = 0
  · refine n0 h1 ?_
    by_cases h2 : ek = k
    · have hcode : settleCode k s t n d c p ek en ea eto = 1 := by
        unfold settleCode; rw [if_neg (by simp [h0]), if_neg (by simp [h1]), if_pos h2]
      rw [hcode, if_neg (by decide)]
      exact q1 h2 (sM hfl rfl)
    · refine q0 h2 ?_
      cases p with
      | true =>
        have hcode : settleCode k s t n d c true ek en ea eto = 9 := by
          unfold settleCode; rw [if_neg (by simp [h0]), if_neg (by simp [h1]), if_neg h2, if_pos rfl]
        rw [hcode, if_neg (by decide)]
        exact sM hfl rfl
      | false =>
        show need _ _ = _
        refine sN (c65 d en h) ?_
        repeat first | (with_reducible refine sT ?_) | ((with_reducible refine sIg (n := ?_) ?_ ?_); rotate_left; exact rfl) | ((with_reducible refine sBg (n := ?_) ?_ ?_); rotate_left; exact rfl) | ((with_reducible refine sSg (n := ?_) ?_ ?_); rotate_left; exact rfl) | ((with_reducible refine sLg (n := ?_) (cs := ?_) ?_ ?_); rotate_left 2; exact rfl) | ((with_reducible refine sOg (n := ?_) (cs := ?_) ?_ ?_); rotate_left 2; exact rfl) | (with_reducible refine sNt ?_) | (with_reducible refine sNe ?_)
        by_cases h4 : en ∈ d
        · have hcode : settleCode k s t n d c false ek en ea eto = 7 := by
            unfold settleCode; rw [if_neg (by simp [h0]), if_neg (by simp [h1]), if_neg h2, if_neg (by simp), if_pos h4]
          rw [hcode, if_neg (by decide)]
          exact s1 h4 (sM hfl rfl)
        · refine s0 h4 ?_
          by_cases h5 : 60 ≤ d.length
          · have hcode : settleCode k s t n d c false ek en ea eto = 2 := by
              unfold settleCode; rw [if_neg (by simp [h0]), if_neg (by simp [h1]), if_neg h2, if_neg (by simp), if_neg h4, if_pos h5]
            rw [hcode, if_neg (by decide)]
            exact s1 (by omega) (sM hfl rfl)
          · obtain ⟨_, ⟨_, ha⟩, _, _⟩ := evFault_ok h1
            obtain ⟨_, r2, r3, r4⟩ := settle_room h0 ha
            obtain ⟨_, ⟨hs, ht, _⟩, _⟩ := ledFault_ok h0
            have hroom : (if (k == 2) = true then decide (IntKind.i64.wrap (IntKind.i64.wrap (held k s t) + ea) ≤ c) else decide (ea ≤ IntKind.i64.wrap (held k s t))) = decide (if k = 2 then held k s t + ea ≤ c else ea ≤ held k s t) := by
              rw [held_wrap hs ht, r4]
              by_cases e : k = 2
              · simp [e]
              · simp [e, beq_f e]
            refine s0 (by omega) (sN (c59 k s t n _ _ c false (k == 2) ea) ?_)
            repeat first | (with_reducible refine sT ?_) | ((with_reducible refine sIg (n := ?_) ?_ ?_); rotate_left; exact rfl) | ((with_reducible refine sBg (n := ?_) ?_ ?_); rotate_left; exact rfl) | ((with_reducible refine sSg (n := ?_) ?_ ?_); rotate_left; exact rfl) | ((with_reducible refine sLg (n := ?_) (cs := ?_) ?_ ?_); rotate_left 2; exact rfl) | ((with_reducible refine sOg (n := ?_) (cs := ?_) ?_ ?_); rotate_left 2; exact rfl) | (with_reducible refine sNt ?_) | (with_reducible refine sNe ?_)
            rw [hroom, r3]
            have hcode : settleCode k s t n d c false ek en ea eto = if (if k = 2 then held k s t + ea ≤ c else ea ≤ held k s t) ∧ t + ea ≤ 1000000000000000 then 0 else 3 := by
              unfold settleCode; rw [if_neg (by simp [h0]), if_neg (by simp [h1]), if_neg h2, if_neg (by simp), if_neg h4, if_neg h5]
            by_cases e1 : (if k = 2 then held k s t + ea ≤ c else ea ≤ held k s t)
            · rw [decide_eq_true e1]
              refine sNt ?_
              by_cases e2 : t + ea ≤ 1000000000000000
              · rw [if_pos ⟨e1, e2⟩] at hcode
                rw [if_pos hcode]
                refine s0 (by omega) (sN (c66 d en h) ?_)
                repeat first | (with_reducible refine sT ?_) | ((with_reducible refine sIg (n := ?_) ?_ ?_); rotate_left; exact rfl) | ((with_reducible refine sBg (n := ?_) ?_ ?_); rotate_left; exact rfl) | ((with_reducible refine sSg (n := ?_) ?_ ?_); rotate_left; exact rfl) | ((with_reducible refine sLg (n := ?_) (cs := ?_) ?_ ?_); rotate_left 2; exact rfl) | ((with_reducible refine sOg (n := ?_) (cs := ?_) ?_ ?_); rotate_left 2; exact rfl) | (with_reducible refine sNt ?_) | (with_reducible refine sNe ?_)
                refine sM (by rw [ints_flat]; rfl) ?_
                rw [ins_length]
              · rw [if_neg (fun x => e2 x.2)] at hcode
                rw [hcode, if_neg (by decide)]
                exact s1 (by omega) (sM hfl rfl)
            · rw [if_neg (fun x => e1 x.1)] at hcode
              rw [decide_eq_false e1, hcode, if_neg (by decide)]
              exact sNf (sM hfl rfl)
  · have hcode : settleCode k s t n d c p ek en ea eto = evFault ek en ea eto := by
      unfold settleCode; rw [if_neg (by simp [h0]), if_pos h1]
    rw [hcode, if_neg h1]
    exact n1 h1 (sM hfl rfl)
theorem c22 (k s t n : Int) (d : List Int) (c : Int) (p : Bool) (ek en ea : Int) (eto : ByteArray) (h : d.length ≤ 1000000000) :
    runE C 22 [.agg [.int .i64 k, .int .i64 s, .int .i64 t, .int .i64 n, .sl d.length (ints d), .int .i64 c, .bool p], .agg [.int .i64 ek, .int .i64 en, .int .i64 ea, .str eto]] = some (.tup (settleRes V.sl k s t n d c p ek en ea eto)) := by
  refine E22 _ _ _ _ _ _ _ _ _ _ _ _ ?_
  unfold T22
  refine sN (c37 k s t n d c p h) ?_
  repeat first | (with_reducible refine sT ?_) | ((with_reducible refine sIg (n := ?_) ?_ ?_); rotate_left; exact rfl) | ((with_reducible refine sBg (n := ?_) ?_ ?_); rotate_left; exact rfl) | ((with_reducible refine sSg (n := ?_) ?_ ?_); rotate_left; exact rfl) | ((with_reducible refine sLg (n := ?_) (cs := ?_) ?_ ?_); rotate_left 2; exact rfl) | ((with_reducible refine sOg (n := ?_) (cs := ?_) ?_ ?_); rotate_left 2; exact rfl) | (with_reducible refine sNt ?_) | (with_reducible refine sNe ?_)
  by_cases h0 : ledFault k s t n d c = 0
  · refine n0 h0 (sN (c38 k s t n d c p h) ?_)
    repeat first | (with_reducible refine sT ?_) | ((with_reducible refine sIg (n := ?_) ?_ ?_); rotate_left; exact rfl) | ((with_reducible refine sBg (n := ?_) ?_ ?_); rotate_left; exact rfl) | ((with_reducible refine sSg (n := ?_) ?_ ?_); rotate_left; exact rfl) | ((with_reducible refine sLg (n := ?_) (cs := ?_) ?_ ?_); rotate_left 2; exact rfl) | ((with_reducible refine sOg (n := ?_) (cs := ?_) ?_ ?_); rotate_left 2; exact rfl) | (with_reducible refine sNt ?_) | (with_reducible refine sNe ?_)
    have hl := c51 k s t n d c p ek en ea eto h h0
    by_cases h1 : settleCode k s t n d c p ek en ea eto = 0
    · rw [if_pos h1] at hl
      rw [res_good _ h1]
      refine sW hl ?_
      repeat first | (with_reducible refine sT ?_) | ((with_reducible refine sIg (n := ?_) ?_ ?_); rotate_left; exact rfl) | ((with_reducible refine sBg (n := ?_) ?_ ?_); rotate_left; exact rfl) | ((with_reducible refine sSg (n := ?_) ?_ ?_); rotate_left; exact rfl) | ((with_reducible refine sLg (n := ?_) (cs := ?_) ?_ ?_); rotate_left 2; exact rfl) | ((with_reducible refine sOg (n := ?_) (cs := ?_) ?_ ?_); rotate_left 2; exact rfl) | (with_reducible refine sNt ?_) | (with_reducible refine sNe ?_)
      rfl
    · rw [if_neg h1] at hl
      rw [res_bad _ rfl h1]
      refine sW hl ?_
      repeat first | (with_reducible refine sT ?_) | ((with_reducible refine sIg (n := ?_) ?_ ?_); rotate_left; exact rfl) | ((with_reducible refine sBg (n := ?_) ?_ ?_); rotate_left; exact rfl) | ((with_reducible refine sSg (n := ?_) ?_ ?_); rotate_left; exact rfl) | ((with_reducible refine sLg (n := ?_) (cs := ?_) ?_ ?_); rotate_left 2; exact rfl) | ((with_reducible refine sOg (n := ?_) (cs := ?_) ?_ ?_); rotate_left 2; exact rfl) | (with_reducible refine sNt ?_) | (with_reducible refine sNe ?_)
      exact n1 h1 rfl
  · have hcode : settleCode k s t n d c p ek en ea eto = ledFault k s t n d c := by
      unfold settleCode; rw [if_pos h0]
    rw [res_bad _ hcode h0]
    exact n1 h0 rfl
theorem settle_form (k s t n : Int) (d : List Int) (c : Int) (p : Bool) (ek en ea : Int) (eto : ByteArray) (h : d.length ≤ 900000000) :
    ∃ (e k' s' t' n' : Int) (d' : List Int) (c' : Int) (p' : Bool) (x y z : Int) (u : ByteArray), d'.length < 1000000000 ∧ ∀ mk, settleRes mk k s t n d c p ek en ea eto = ledRes mk e k' s' t' n' d' c' p' x y z u := by
  by_cases h1 : settleCode k s t n d c p ek en ea eto = 0
  · exact ⟨_, _, _, _, _, ins en d, _, _, _, _, _, _, by rw [ins_length]; omega, fun mk => res_good mk h1⟩
  · exact ⟨_, _, _, _, _, [], _, _, _, _, _, _, by simp, fun mk => res_bad mk rfl h1⟩
theorem c6 (k s t n : Int) (d : List Int) (c : Int) (p : Bool) (ek en ea : Int) (eto : ByteArray) (hd : d.length ≤ 9223372036854775807) (hto : eto.size ≤ 9223372036854775807) :
    runE C 6 [.agg [.int .i64 k, .int .i64 s, .int .i64 t, .int .i64 n, .sl d.length (ints d), .int .i64 c, .bool p], .agg [.int .i64 ek, .int .i64 en, .int .i64 ea, .str eto]] = some (.tup [.bool true]) := by
  refine E6 _ _ _ _ _ _ _ _ _ _ _ _ ?_
  unfold T6
  have hsz := c13 k s t n d.length (ints d) c p 1048576 hd (by decide) (by decide)
  by_cases g1 : (1048576 : Int) < (d.length : Int)
  · rw [if_pos g1] at hsz
    refine sN hsz ?_
    repeat first | (with_reducible refine sT ?_) | ((with_reducible refine sIg (n := ?_) ?_ ?_); rotate_left; exact rfl) | ((with_reducible refine sBg (n := ?_) ?_ ?_); rotate_left; exact rfl) | ((with_reducible refine sSg (n := ?_) ?_ ?_); rotate_left; exact rfl) | ((with_reducible refine sLg (n := ?_) (cs := ?_) ?_ ?_); rotate_left 2; exact rfl) | ((with_reducible refine sOg (n := ?_) (cs := ?_) ?_ ?_); rotate_left 2; exact rfl) | (with_reducible refine sNt ?_) | (with_reducible refine sNe ?_)
    exact s1 (show (-1 : Int) < 0 by decide) rfl
  rw [if_neg g1] at hsz
  have h3 : ¬ ((1048576 : Int) - (d.length : Int) < 0) := by omega
  have hse := c25 ek en ea eto (1048576 - (d.length : Int)) hto (by omega) (by omega)
  by_cases g2 : (1048576 : Int) - (d.length : Int) < (eto.size : Int)
  · rw [if_pos g2] at hse
    refine sN hsz ?_
    repeat first | (with_reducible refine sT ?_) | ((with_reducible refine sIg (n := ?_) ?_ ?_); rotate_left; exact rfl) | ((with_reducible refine sBg (n := ?_) ?_ ?_); rotate_left; exact rfl) | ((with_reducible refine sSg (n := ?_) ?_ ?_); rotate_left; exact rfl) | ((with_reducible refine sLg (n := ?_) (cs := ?_) ?_ ?_); rotate_left 2; exact rfl) | ((with_reducible refine sOg (n := ?_) (cs := ?_) ?_ ?_); rotate_left 2; exact rfl) | (with_reducible refine sNt ?_) | (with_reducible refine sNe ?_)
    refine s0 h3 (sN hse ?_)
    repeat first | (with_reducible refine sT ?_) | ((with_reducible refine sIg (n := ?_) ?_ ?_); rotate_left; exact rfl) | ((with_reducible refine sBg (n := ?_) ?_ ?_); rotate_left; exact rfl) | ((with_reducible refine sSg (n := ?_) ?_ ?_); rotate_left; exact rfl) | ((with_reducible refine sLg (n := ?_) (cs := ?_) ?_ ?_); rotate_left 2; exact rfl) | ((with_reducible refine sOg (n := ?_) (cs := ?_) ?_ ?_); rotate_left 2; exact rfl) | (with_reducible refine sNt ?_) | (with_reducible refine sNe ?_)
    exact s1 (show (-1 : Int) < 0 by decide) rfl
  rw [if_neg g2] at hse
  have h4 : ¬ ((1048576 : Int) - (d.length : Int) - (eto.size : Int) < 0) := by omega
  have hn1 : ¬ (1 + (d.length : Int) < 0) := by omega
  obtain ⟨e, k', s', t', n', d', c', p', x, y, z, u, hl, hr⟩ := settle_form k s t n d c p ek en ea eto (by omega)
  have hn2 : ¬ (1 + (d'.length : Int) < 0) := by omega
  have hS := c22 k s t n d c p ek en ea eto (by omega)
  have hI := c21 k s t n d c p ek en ea eto (by omega) hto
  rw [hr] at hS hI
  unfold ledRes at hS hI
  have hT := c14 k s t n d c p (by omega)
  have hV := c26 ek en ea eto
  have hE := c15 e k' s' t' n' d' c' p' x y z u (by omega)
  have hH := c19 e k' s' t' n' d' c' p' x y z u 1 (by omega) hl (by omega)
  refine sN hsz ?_
  repeat first | (with_reducible refine sT ?_) | ((with_reducible refine sIg (n := ?_) ?_ ?_); rotate_left; exact rfl) | ((with_reducible refine sBg (n := ?_) ?_ ?_); rotate_left; exact rfl) | ((with_reducible refine sSg (n := ?_) ?_ ?_); rotate_left; exact rfl) | ((with_reducible refine sLg (n := ?_) (cs := ?_) ?_ ?_); rotate_left 2; exact rfl) | ((with_reducible refine sOg (n := ?_) (cs := ?_) ?_ ?_); rotate_left 2; exact rfl) | (with_reducible refine sNt ?_) | (with_reducible refine sNe ?_)
  refine s0 h3 (sN hse ?_)
  repeat first | (with_reducible refine sT ?_) | ((with_reducible refine sIg (n := ?_) ?_ ?_); rotate_left; exact rfl) | ((with_reducible refine sBg (n := ?_) ?_ ?_); rotate_left; exact rfl) | ((with_reducible refine sSg (n := ?_) ?_ ?_); rotate_left; exact rfl) | ((with_reducible refine sLg (n := ?_) (cs := ?_) ?_ ?_); rotate_left 2; exact rfl) | ((with_reducible refine sOg (n := ?_) (cs := ?_) ?_ ?_); rotate_left 2; exact rfl) | (with_reducible refine sNt ?_) | (with_reducible refine sNe ?_)
  refine s0 h4 (sN hT ?_)
  repeat first | (with_reducible refine sT ?_) | ((with_reducible refine sIg (n := ?_) ?_ ?_); rotate_left; exact rfl) | ((with_reducible refine sBg (n := ?_) ?_ ?_); rotate_left; exact rfl) | ((with_reducible refine sSg (n := ?_) ?_ ?_); rotate_left; exact rfl) | ((with_reducible refine sLg (n := ?_) (cs := ?_) ?_ ?_); rotate_left 2; exact rfl) | ((with_reducible refine sOg (n := ?_) (cs := ?_) ?_ ?_); rotate_left 2; exact rfl) | (with_reducible refine sNt ?_) | (with_reducible refine sNe ?_)
  refine sN hV ?_
  repeat first | (with_reducible refine sT ?_) | ((with_reducible refine sIg (n := ?_) ?_ ?_); rotate_left; exact rfl) | ((with_reducible refine sBg (n := ?_) ?_ ?_); rotate_left; exact rfl) | ((with_reducible refine sSg (n := ?_) ?_ ?_); rotate_left; exact rfl) | ((with_reducible refine sLg (n := ?_) (cs := ?_) ?_ ?_); rotate_left 2; exact rfl) | ((with_reducible refine sOg (n := ?_) (cs := ?_) ?_ ?_); rotate_left 2; exact rfl) | (with_reducible refine sNt ?_) | (with_reducible refine sNe ?_)
  refine sN hS ?_
  repeat first | (with_reducible refine sT ?_) | ((with_reducible refine sIg (n := ?_) ?_ ?_); rotate_left; exact rfl) | ((with_reducible refine sBg (n := ?_) ?_ ?_); rotate_left; exact rfl) | ((with_reducible refine sSg (n := ?_) ?_ ?_); rotate_left; exact rfl) | ((with_reducible refine sLg (n := ?_) (cs := ?_) ?_ ?_); rotate_left 2; exact rfl) | ((with_reducible refine sOg (n := ?_) (cs := ?_) ?_ ?_); rotate_left 2; exact rfl) | (with_reducible refine sNt ?_) | (with_reducible refine sNe ?_)
  refine sN hT ?_
  repeat first | (with_reducible refine sT ?_) | ((with_reducible refine sIg (n := ?_) ?_ ?_); rotate_left; exact rfl) | ((with_reducible refine sBg (n := ?_) ?_ ?_); rotate_left; exact rfl) | ((with_reducible refine sSg (n := ?_) ?_ ?_); rotate_left; exact rfl) | ((with_reducible refine sLg (n := ?_) (cs := ?_) ?_ ?_); rotate_left 2; exact rfl) | ((with_reducible refine sOg (n := ?_) (cs := ?_) ?_ ?_); rotate_left 2; exact rfl) | (with_reducible refine sNt ?_) | (with_reducible refine sNe ?_)
  refine sN hV ?_
  repeat first | (with_reducible refine sT ?_) | ((with_reducible refine sIg (n := ?_) ?_ ?_); rotate_left; exact rfl) | ((with_reducible refine sBg (n := ?_) ?_ ?_); rotate_left; exact rfl) | ((with_reducible refine sSg (n := ?_) ?_ ?_); rotate_left; exact rfl) | ((with_reducible refine sLg (n := ?_) (cs := ?_) ?_ ?_); rotate_left 2; exact rfl) | ((with_reducible refine sOg (n := ?_) (cs := ?_) ?_ ?_); rotate_left 2; exact rfl) | (with_reducible refine sNt ?_) | (with_reducible refine sNe ?_)
  refine sN hI ?_
  repeat first | (with_reducible refine sT ?_) | ((with_reducible refine sIg (n := ?_) ?_ ?_); rotate_left; exact rfl) | ((with_reducible refine sBg (n := ?_) ?_ ?_); rotate_left; exact rfl) | ((with_reducible refine sSg (n := ?_) ?_ ?_); rotate_left; exact rfl) | ((with_reducible refine sLg (n := ?_) (cs := ?_) ?_ ?_); rotate_left 2; exact rfl) | ((with_reducible refine sOg (n := ?_) (cs := ?_) ?_ ?_); rotate_left 2; exact rfl) | (with_reducible refine sNt ?_) | (with_reducible refine sNe ?_)
  refine sN hE ?_
  repeat first | (with_reducible refine sT ?_) | ((with_reducible refine sIg (n := ?_) ?_ ?_); rotate_left; exact rfl) | ((with_reducible refine sBg (n := ?_) ?_ ?_); rotate_left; exact rfl) | ((with_reducible refine sSg (n := ?_) ?_ ?_); rotate_left; exact rfl) | ((with_reducible refine sLg (n := ?_) (cs := ?_) ?_ ?_); rotate_left 2; exact rfl) | ((with_reducible refine sOg (n := ?_) (cs := ?_) ?_ ?_); rotate_left 2; exact rfl) | (with_reducible refine sNt ?_) | (with_reducible refine sNe ?_)
  refine sN hT ?_
  repeat first | (with_reducible refine sT ?_) | ((with_reducible refine sIg (n := ?_) ?_ ?_); rotate_left; exact rfl) | ((with_reducible refine sBg (n := ?_) ?_ ?_); rotate_left; exact rfl) | ((with_reducible refine sSg (n := ?_) ?_ ?_); rotate_left; exact rfl) | ((with_reducible refine sLg (n := ?_) (cs := ?_) ?_ ?_); rotate_left 2; exact rfl) | ((with_reducible refine sOg (n := ?_) (cs := ?_) ?_ ?_); rotate_left 2; exact rfl) | (with_reducible refine sNt ?_) | (with_reducible refine sNe ?_)
  refine sN (c16 k s t n d c p (by omega)) ?_
  repeat first | (with_reducible refine sT ?_) | ((with_reducible refine sIg (n := ?_) ?_ ?_); rotate_left; exact rfl) | ((with_reducible refine sBg (n := ?_) ?_ ?_); rotate_left; exact rfl) | ((with_reducible refine sSg (n := ?_) ?_ ?_); rotate_left; exact rfl) | ((with_reducible refine sLg (n := ?_) (cs := ?_) ?_ ?_); rotate_left 2; exact rfl) | ((with_reducible refine sOg (n := ?_) (cs := ?_) ?_ ?_); rotate_left 2; exact rfl) | (with_reducible refine sNt ?_) | (with_reducible refine sNe ?_)
  refine sW (c17 k s t n d c p 1 (by omega) (by omega) (by omega)) ?_
  repeat first | (with_reducible refine sT ?_) | ((with_reducible refine sIg (n := ?_) ?_ ?_); rotate_left; exact rfl) | ((with_reducible refine sBg (n := ?_) ?_ ?_); rotate_left; exact rfl) | ((with_reducible refine sSg (n := ?_) ?_ ?_); rotate_left; exact rfl) | ((with_reducible refine sLg (n := ?_) (cs := ?_) ?_ ?_); rotate_left 2; exact rfl) | ((with_reducible refine sOg (n := ?_) (cs := ?_) ?_ ?_); rotate_left 2; exact rfl) | (with_reducible refine sNt ?_) | (with_reducible refine sNe ?_)
  refine s0 hn1 (sN hE ?_)
  repeat first | (with_reducible refine sT ?_) | ((with_reducible refine sIg (n := ?_) ?_ ?_); rotate_left; exact rfl) | ((with_reducible refine sBg (n := ?_) ?_ ?_); rotate_left; exact rfl) | ((with_reducible refine sSg (n := ?_) ?_ ?_); rotate_left; exact rfl) | ((with_reducible refine sLg (n := ?_) (cs := ?_) ?_ ?_); rotate_left 2; exact rfl) | ((with_reducible refine sOg (n := ?_) (cs := ?_) ?_ ?_); rotate_left 2; exact rfl) | (with_reducible refine sNt ?_) | (with_reducible refine sNe ?_)
  refine sW (c18 e k' s' t' n' d' c' p' x y z u 1 (by omega) hl (by omega)) ?_
  repeat first | (with_reducible refine sT ?_) | ((with_reducible refine sIg (n := ?_) ?_ ?_); rotate_left; exact rfl) | ((with_reducible refine sBg (n := ?_) ?_ ?_); rotate_left; exact rfl) | ((with_reducible refine sSg (n := ?_) ?_ ?_); rotate_left; exact rfl) | ((with_reducible refine sLg (n := ?_) (cs := ?_) ?_ ?_); rotate_left 2; exact rfl) | ((with_reducible refine sOg (n := ?_) (cs := ?_) ?_ ?_); rotate_left 2; exact rfl) | (with_reducible refine sNt ?_) | (with_reducible refine sNe ?_)
  refine sN hH ?_
  repeat first | (with_reducible refine sT ?_) | ((with_reducible refine sIg (n := ?_) ?_ ?_); rotate_left; exact rfl) | ((with_reducible refine sBg (n := ?_) ?_ ?_); rotate_left; exact rfl) | ((with_reducible refine sSg (n := ?_) ?_ ?_); rotate_left; exact rfl) | ((with_reducible refine sLg (n := ?_) (cs := ?_) ?_ ?_); rotate_left 2; exact rfl) | ((with_reducible refine sOg (n := ?_) (cs := ?_) ?_ ?_); rotate_left 2; exact rfl) | (with_reducible refine sNt ?_) | (with_reducible refine sNe ?_)
  refine s0 hn2 ?_
  repeat first | (with_reducible refine sT ?_) | ((with_reducible refine sIg (n := ?_) ?_ ?_); rotate_left; exact rfl) | ((with_reducible refine sBg (n := ?_) ?_ ?_); rotate_left; exact rfl) | ((with_reducible refine sSg (n := ?_) ?_ ?_); rotate_left; exact rfl) | ((with_reducible refine sLg (n := ?_) (cs := ?_) ?_ ?_); rotate_left 2; exact rfl) | ((with_reducible refine sOg (n := ?_) (cs := ?_) ?_ ?_); rotate_left 2; exact rfl) | (with_reducible refine sNt ?_) | (with_reducible refine sNe ?_)
  refine sN hT ?_
  repeat first | (with_reducible refine sT ?_) | ((with_reducible refine sIg (n := ?_) ?_ ?_); rotate_left; exact rfl) | ((with_reducible refine sBg (n := ?_) ?_ ?_); rotate_left; exact rfl) | ((with_reducible refine sSg (n := ?_) ?_ ?_); rotate_left; exact rfl) | ((with_reducible refine sLg (n := ?_) (cs := ?_) ?_ ?_); rotate_left 2; exact rfl) | ((with_reducible refine sOg (n := ?_) (cs := ?_) ?_ ?_); rotate_left 2; exact rfl) | (with_reducible refine sNt ?_) | (with_reducible refine sNe ?_)
  refine sN hV ?_
  repeat first | (with_reducible refine sT ?_) | ((with_reducible refine sIg (n := ?_) ?_ ?_); rotate_left; exact rfl) | ((with_reducible refine sBg (n := ?_) ?_ ?_); rotate_left; exact rfl) | ((with_reducible refine sSg (n := ?_) ?_ ?_); rotate_left; exact rfl) | ((with_reducible refine sLg (n := ?_) (cs := ?_) ?_ ?_); rotate_left 2; exact rfl) | ((with_reducible refine sOg (n := ?_) (cs := ?_) ?_ ?_); rotate_left 2; exact rfl) | (with_reducible refine sNt ?_) | (with_reducible refine sNe ?_)
  refine sN hI ?_
  repeat first | (with_reducible refine sT ?_) | ((with_reducible refine sIg (n := ?_) ?_ ?_); rotate_left; exact rfl) | ((with_reducible refine sBg (n := ?_) ?_ ?_); rotate_left; exact rfl) | ((with_reducible refine sSg (n := ?_) ?_ ?_); rotate_left; exact rfl) | ((with_reducible refine sLg (n := ?_) (cs := ?_) ?_ ?_); rotate_left 2; exact rfl) | ((with_reducible refine sOg (n := ?_) (cs := ?_) ?_ ?_); rotate_left 2; exact rfl) | (with_reducible refine sNt ?_) | (with_reducible refine sNe ?_)
  refine sN hE ?_
  repeat first | (with_reducible refine sT ?_) | ((with_reducible refine sIg (n := ?_) ?_ ?_); rotate_left; exact rfl) | ((with_reducible refine sBg (n := ?_) ?_ ?_); rotate_left; exact rfl) | ((with_reducible refine sSg (n := ?_) ?_ ?_); rotate_left; exact rfl) | ((with_reducible refine sLg (n := ?_) (cs := ?_) ?_ ?_); rotate_left 2; exact rfl) | ((with_reducible refine sOg (n := ?_) (cs := ?_) ?_ ?_); rotate_left 2; exact rfl) | (with_reducible refine sNt ?_) | (with_reducible refine sNe ?_)
  refine sN hH ?_
  repeat first | (with_reducible refine sT ?_) | ((with_reducible refine sIg (n := ?_) ?_ ?_); rotate_left; exact rfl) | ((with_reducible refine sBg (n := ?_) ?_ ?_); rotate_left; exact rfl) | ((with_reducible refine sSg (n := ?_) ?_ ?_); rotate_left; exact rfl) | ((with_reducible refine sLg (n := ?_) (cs := ?_) ?_ ?_); rotate_left 2; exact rfl) | ((with_reducible refine sOg (n := ?_) (cs := ?_) ?_ ?_); rotate_left 2; exact rfl) | (with_reducible refine sNt ?_) | (with_reducible refine sNe ?_)
  refine s0 hn2 ?_
  repeat first | (with_reducible refine sT ?_) | ((with_reducible refine sIg (n := ?_) ?_ ?_); rotate_left; exact rfl) | ((with_reducible refine sBg (n := ?_) ?_ ?_); rotate_left; exact rfl) | ((with_reducible refine sSg (n := ?_) ?_ ?_); rotate_left; exact rfl) | ((with_reducible refine sLg (n := ?_) (cs := ?_) ?_ ?_); rotate_left 2; exact rfl) | ((with_reducible refine sOg (n := ?_) (cs := ?_) ?_ ?_); rotate_left 2; exact rfl) | (with_reducible refine sNt ?_) | (with_reducible refine sNe ?_)
  rfl
theorem c20 (code : List UInt8) (hc : code.length ≤ 1099511627776) :
    Ex (fun r => ∃ (k s t n : Int) (d : List Int) (c : Int) (p : Bool) (ek en ea : Int) (to : ByteArray), r = .tup [.int .i64 k, .int .i64 s, .int .i64 t, .int .i64 n, .sl d.length (ints d), .int .i64 c, .bool p, .int .i64 ek, .int .i64 en, .int .i64 ea, .str to] ∧ d.length ≤ 100 ∧ to.size ≤ 13) (runE C 20 [.sl code.length (bytesV code)]) := by
  refine Ex.run (fun h => E20 _ _ h) ?_
  unfold T20
  refine xW (Draw.c28 code 0 hc (by omega)) ?_
  rintro _ ⟨_, a1, rfl, h1, h1', k, s, t, n, d, c, p, rfl, hd⟩
  repeat first | (with_reducible refine xT ?_) | ((with_reducible refine xIg (n := ?_) ?_ ?_); rotate_left; exact rfl) | ((with_reducible refine xBg (n := ?_) ?_ ?_); rotate_left; exact rfl) | ((with_reducible refine xSg (n := ?_) ?_ ?_); rotate_left; exact rfl) | ((with_reducible refine xLg (n := ?_) (cs := ?_) ?_ ?_); rotate_left 2; exact rfl) | ((with_reducible refine xOg (n := ?_) (cs := ?_) ?_ ?_); rotate_left 2; exact rfl)
  refine xW (Draw.c29 code a1 hc (by omega)) ?_
  rintro _ ⟨_, a2, rfl, h2, h2', ek, en, em, to, rfl, hto⟩
  repeat first | (with_reducible refine xT ?_) | ((with_reducible refine xIg (n := ?_) ?_ ?_); rotate_left; exact rfl) | ((with_reducible refine xBg (n := ?_) ?_ ?_); rotate_left; exact rfl) | ((with_reducible refine xSg (n := ?_) ?_ ?_); rotate_left; exact rfl) | ((with_reducible refine xLg (n := ?_) (cs := ?_) ?_ ?_); rotate_left 2; exact rfl) | ((with_reducible refine xOg (n := ?_) (cs := ?_) ?_ ?_); rotate_left 2; exact rfl)
  refine xW (Draw.c48 code a2 5 hc (by omega)) ?_
  rintro _ ⟨_, a3, rfl, h3, h3', b, rfl⟩
  repeat first | (with_reducible refine xT ?_) | ((with_reducible refine xIg (n := ?_) ?_ ?_); rotate_left; exact rfl) | ((with_reducible refine xBg (n := ?_) ?_ ?_); rotate_left; exact rfl) | ((with_reducible refine xSg (n := ?_) ?_ ?_); rotate_left; exact rfl) | ((with_reducible refine xLg (n := ?_) (cs := ?_) ?_ ?_); rotate_left 2; exact rfl) | ((with_reducible refine xOg (n := ?_) (cs := ?_) ?_ ?_); rotate_left 2; exact rfl)
  refine xF (fun _ => ?_) (fun _ => ?_)
  · exact ⟨_, rfl, _, _, _, _, d, _, _, _, _, _, _, rfl, hd, hto⟩
  · exact ⟨_, rfl, _, _, _, _, d, _, _, _, _, _, _, rfl, hd, hto⟩
theorem c7 (code : List UInt8) : runE C 7 [.sl code.length (bytesV code)] = some (.tup [.bool (decide ((code.length : Int) > 1048576))]) := E7 _ _ rfl
theorem c5 (code : List UInt8) (h : code.length ≤ 9223372036854775807) : runE C 5 [.sl code.length (bytesV code)] = some (.tup [.bool true]) := by
  refine E5 _ _ ?_
  unfold T5
  refine sN (c7 code) ?_
  repeat first | (with_reducible refine sT ?_) | ((with_reducible refine sIg (n := ?_) ?_ ?_); rotate_left; exact rfl) | ((with_reducible refine sBg (n := ?_) ?_ ?_); rotate_left; exact rfl) | ((with_reducible refine sSg (n := ?_) ?_ ?_); rotate_left; exact rfl) | ((with_reducible refine sLg (n := ?_) (cs := ?_) ?_ ?_); rotate_left 2; exact rfl) | ((with_reducible refine sOg (n := ?_) (cs := ?_) ?_ ?_); rotate_left 2; exact rfl) | (with_reducible refine sNt ?_) | (with_reducible refine sNe ?_)
  by_cases g : (code.length : Int) > 1048576
  · exact s1 g rfl
  refine s0 g ?_
  obtain ⟨_, hr, k, s, t, n, d, c, p, ek, en, ea, to, rfl, hd, hto⟩ := c20 code (by omega)
  refine sN hr ?_
  repeat first | (with_reducible refine sT ?_) | ((with_reducible refine sIg (n := ?_) ?_ ?_); rotate_left; exact rfl) | ((with_reducible refine sBg (n := ?_) ?_ ?_); rotate_left; exact rfl) | ((with_reducible refine sSg (n := ?_) ?_ ?_); rotate_left; exact rfl) | ((with_reducible refine sLg (n := ?_) (cs := ?_) ?_ ?_); rotate_left 2; exact rfl) | ((with_reducible refine sOg (n := ?_) (cs := ?_) ?_ ?_); rotate_left 2; exact rfl) | (with_reducible refine sNt ?_) | (with_reducible refine sNe ?_)
  have hI := c21 k s t n d c p ek en ea to (by omega) (by omega)
  have hS := c22 k s t n d c p ek en ea to (by omega)
  by_cases h1 : settleCode k s t n d c p ek en ea to = 0
  · rw [res_good _ h1] at hI
    unfold ledRes at hI
    obtain ⟨f0, f1, f2, rfl, f4, f5, f6⟩ := settled_ok h1
    obtain ⟨_, ⟨_, ha⟩, _, _⟩ := evFault_ok f1
    obtain ⟨_, _, r3, _⟩ := settle_room f0 ha
    have hlen : (ins en d).length = d.length + 1 := ins_length en d
    have hL1 := c12 k s (t + ea) n (ins en d) c false (by omega)
    rw [f6] at hL1
    have hP := c23 k s t n d c false true (by omega)
    rw [if_pos f0] at hP
    unfold ledRes at hP
    have hmem : en ∈ ins en d := (mem_ins en en d).2 (.inl rfl)
    have hI7 := c21 k s (t + ea) n (ins en d) c false ek en ea to (by omega) (by omega)
    have code7 : settleCode k s (t + ea) n (ins en d) c false ek en ea to = 7 := by
      unfold settleCode; rw [if_neg (by simp [f6]), if_neg (by simp [f1]), if_neg f2, if_neg (by simp), if_pos hmem]
    rw [res_bad _ code7 (by decide)] at hI7
    unfold ledRes at hI7
    have hI9 := c21 k s t n d c true ek en ea to (by omega) (by omega)
    have code9 : settleCode k s t n d c true ek en ea to = 9 := by
      unfold settleCode; rw [if_neg (by simp [f0]), if_neg (by simp [f1]), if_neg f2, if_pos rfl]
    rw [res_bad _ code9 (by decide)] at hI9
    unfold ledRes at hI9
    have hH0 := c11 k s t n d c false (by omega)
    have hH1 := c11 k s t n d c true (by omega)
    rw [if_pos f0] at hH0 hH1
    refine sN hI ?_
    repeat first | (with_reducible refine sT ?_) | ((with_reducible refine sIg (n := ?_) ?_ ?_); rotate_left; exact rfl) | ((with_reducible refine sBg (n := ?_) ?_ ?_); rotate_left; exact rfl) | ((with_reducible refine sSg (n := ?_) ?_ ?_); rotate_left; exact rfl) | ((with_reducible refine sLg (n := ?_) (cs := ?_) ?_ ?_); rotate_left 2; exact rfl) | ((with_reducible refine sOg (n := ?_) (cs := ?_) ?_ ?_); rotate_left 2; exact rfl) | (with_reducible refine sNt ?_) | (with_reducible refine sNe ?_)
    refine sN hP ?_
    repeat first | (with_reducible refine sT ?_) | ((with_reducible refine sIg (n := ?_) ?_ ?_); rotate_left; exact rfl) | ((with_reducible refine sBg (n := ?_) ?_ ?_); rotate_left; exact rfl) | ((with_reducible refine sSg (n := ?_) ?_ ?_); rotate_left; exact rfl) | ((with_reducible refine sLg (n := ?_) (cs := ?_) ?_ ?_); rotate_left 2; exact rfl) | ((with_reducible refine sOg (n := ?_) (cs := ?_) ?_ ?_); rotate_left 2; exact rfl) | (with_reducible refine sNt ?_) | (with_reducible refine sNe ?_)
    refine sN hL1 ?_
    repeat first | (with_reducible refine sT ?_) | ((with_reducible refine sIg (n := ?_) ?_ ?_); rotate_left; exact rfl) | ((with_reducible refine sBg (n := ?_) ?_ ?_); rotate_left; exact rfl) | ((with_reducible refine sSg (n := ?_) ?_ ?_); rotate_left; exact rfl) | ((with_reducible refine sLg (n := ?_) (cs := ?_) ?_ ?_); rotate_left 2; exact rfl) | ((with_reducible refine sOg (n := ?_) (cs := ?_) ?_ ?_); rotate_left 2; exact rfl) | (with_reducible refine sNt ?_) | (with_reducible refine sNe ?_)
    refine q1 rfl ?_
    refine q1 r3.symm ?_
    refine q1 rfl ?_
    refine sN (c24 (ins en d) en (by omega)) ?_
    repeat first | (with_reducible refine sT ?_) | ((with_reducible refine sIg (n := ?_) ?_ ?_); rotate_left; exact rfl) | ((with_reducible refine sBg (n := ?_) ?_ ?_); rotate_left; exact rfl) | ((with_reducible refine sSg (n := ?_) ?_ ?_); rotate_left; exact rfl) | ((with_reducible refine sLg (n := ?_) (cs := ?_) ?_ ?_); rotate_left 2; exact rfl) | ((with_reducible refine sOg (n := ?_) (cs := ?_) ?_ ?_); rotate_left 2; exact rfl) | (with_reducible refine sNt ?_) | (with_reducible refine sNe ?_)
    refine s1 hmem ?_
    refine q1 (by rw [hlen, w64 (by omega) (by omega)]; omega) ?_
    refine sN hI7 ?_
    repeat first | (with_reducible refine sT ?_) | ((with_reducible refine sIg (n := ?_) ?_ ?_); rotate_left; exact rfl) | ((with_reducible refine sBg (n := ?_) ?_ ?_); rotate_left; exact rfl) | ((with_reducible refine sSg (n := ?_) ?_ ?_); rotate_left; exact rfl) | ((with_reducible refine sLg (n := ?_) (cs := ?_) ?_ ?_); rotate_left 2; exact rfl) | ((with_reducible refine sOg (n := ?_) (cs := ?_) ?_ ?_); rotate_left 2; exact rfl) | (with_reducible refine sNt ?_) | (with_reducible refine sNe ?_)
    refine q1 rfl (q1 rfl (sN hI9 ?_))
    repeat first | (with_reducible refine sT ?_) | ((with_reducible refine sIg (n := ?_) ?_ ?_); rotate_left; exact rfl) | ((with_reducible refine sBg (n := ?_) ?_ ?_); rotate_left; exact rfl) | ((with_reducible refine sSg (n := ?_) ?_ ?_); rotate_left; exact rfl) | ((with_reducible refine sLg (n := ?_) (cs := ?_) ?_ ?_); rotate_left 2; exact rfl) | ((with_reducible refine sOg (n := ?_) (cs := ?_) ?_ ?_); rotate_left 2; exact rfl) | (with_reducible refine sNt ?_) | (with_reducible refine sNe ?_)
    refine q1 rfl (sN hH1 ?_)
    repeat first | (with_reducible refine sT ?_) | ((with_reducible refine sIg (n := ?_) ?_ ?_); rotate_left; exact rfl) | ((with_reducible refine sBg (n := ?_) ?_ ?_); rotate_left; exact rfl) | ((with_reducible refine sSg (n := ?_) ?_ ?_); rotate_left; exact rfl) | ((with_reducible refine sLg (n := ?_) (cs := ?_) ?_ ?_); rotate_left 2; exact rfl) | ((with_reducible refine sOg (n := ?_) (cs := ?_) ?_ ?_); rotate_left 2; exact rfl) | (with_reducible refine sNt ?_) | (with_reducible refine sNe ?_)
    refine sN hH0 ?_
    repeat first | (with_reducible refine sT ?_) | ((with_reducible refine sIg (n := ?_) ?_ ?_); rotate_left; exact rfl) | ((with_reducible refine sBg (n := ?_) ?_ ?_); rotate_left; exact rfl) | ((with_reducible refine sSg (n := ?_) ?_ ?_); rotate_left; exact rfl) | ((with_reducible refine sLg (n := ?_) (cs := ?_) ?_ ?_); rotate_left 2; exact rfl) | ((with_reducible refine sOg (n := ?_) (cs := ?_) ?_ ?_); rotate_left 2; exact rfl) | (with_reducible refine sNt ?_) | (with_reducible refine sNe ?_)
    simp
  · rw [res_bad _ rfl h1] at hI hS
    unfold ledRes at hI hS
    refine sN hI ?_
    repeat first | (with_reducible refine sT ?_) | ((with_reducible refine sIg (n := ?_) ?_ ?_); rotate_left; exact rfl) | ((with_reducible refine sBg (n := ?_) ?_ ?_); rotate_left; exact rfl) | ((with_reducible refine sSg (n := ?_) ?_ ?_); rotate_left; exact rfl) | ((with_reducible refine sLg (n := ?_) (cs := ?_) ?_ ?_); rotate_left 2; exact rfl) | ((with_reducible refine sOg (n := ?_) (cs := ?_) ?_ ?_); rotate_left 2; exact rfl) | (with_reducible refine sNt ?_) | (with_reducible refine sNe ?_)
    refine n1 h1 (sN hS ?_)
    repeat first | (with_reducible refine sT ?_) | ((with_reducible refine sIg (n := ?_) ?_ ?_); rotate_left; exact rfl) | ((with_reducible refine sBg (n := ?_) ?_ ?_); rotate_left; exact rfl) | ((with_reducible refine sSg (n := ?_) ?_ ?_); rotate_left; exact rfl) | ((with_reducible refine sLg (n := ?_) (cs := ?_) ?_ ?_); rotate_left 2; exact rfl) | ((with_reducible refine sOg (n := ?_) (cs := ?_) ?_ ?_); rotate_left 2; exact rfl) | (with_reducible refine sNt ?_) | (with_reducible refine sNe ?_)
    simp
end Go.Proofs.YtkjjneejmjfhlaaDoor.Led
