/-
  Settling: both sides.
-/
import Derived.Test.YtkjjneejmjfhlaaDoorPLDrawLedTE
import Derived.Test.YtkjjneejmjfhlaaDoorPMSettle
namespace Go.Proofs.YtkjjneejmjfhlaaDoor.Led
open Go Go.PI Go.PI.Led Go.Proofs.YtkjjneejmjfhlaaDoor.Base EqE
set_option maxHeartbeats 1000000
set_option linter.unusedVariables false
set_option linter.unusedSimpArgs false
theorem c74 (x : Int) : runE C 74 [.int .i64 x] = some (.tup [.bool false]) := E74 _ (by unfold T74; rw [bne_self_eq_false])
theorem c62 (x : Int) : runE C 62 [.int .i64 x] = some (.tup [.bool false]) := E62 _ (by unfold T62; rw [bne_self_eq_false])
theorem c61 (x y : Int) : runE C 61 [.int .i64 x, .int .i64 y] = some (.tup [.bool (decide (x < y))]) := by
  refine E61 _ _ ?_
  unfold T61
  refine sN (c74 x) ?_
  repeat first | (with_reducible refine sT ?_) | ((with_reducible refine sIg (n := ?_) ?_ ?_); rotate_left; exact rfl) | ((with_reducible refine sBg (n := ?_) ?_ ?_); rotate_left; exact rfl) | ((with_reducible refine sSg (n := ?_) ?_ ?_); rotate_left; exact rfl) | ((with_reducible refine sLg (n := ?_) (cs := ?_) ?_ ?_); rotate_left 2; exact rfl) | ((with_reducible refine sOg (n := ?_) (cs := ?_) ?_ ?_); rotate_left 2; exact rfl) | (with_reducible refine sNt ?_) | (with_reducible refine sNe ?_)
  rfl
theorem bs_loop (d : List Int) (v : Int) (hd : d.length ≤ 1000000000) (hp : d.Pairwise (· < ·)) : ∀ (m i j : Nat), j - i = m → i ≤ j → j ≤ d.length → (∀ q (h : q < d.length), q < i → d[q] < v) → (∀ q (h : q < d.length), j ≤ q → v ≤ d[q]) →
    ∃ k : Nat, k ≤ d.length ∧ (∀ q (h : q < d.length), q < k → d[q] < v) ∧ (∀ q (h : q < d.length), k ≤ q → v ≤ d[q]) ∧
      loopE C 49 0 [true, true, true, false] [] [(0, V.sl d.length (ints d)), (1, V.int .i64 v), (6, V.int .i64 (d.length : Int)), (7, V.int .i64 (i : Int)), (8, V.int .i64 (j : Int))] [] = some (.tup [.int .i64 (k : Int), .bool (decide (v ∈ d))]) := by
  intro m
  induction m using Nat.strongRecOn with
  | ind m ih =>
    intro i j e hij hj h1 h2
    by_cases hlt : i < j
    · have hlt' : (i : Int) < (j : Int) := by omega
      have hh : IntKind.i64.wrap ((IntKind.u64.wrap (IntKind.i64.wrap ((i : Int) + (j : Int)))).fdiv 2) = (((i + j) / 2 : Nat) : Int) := by
        rw [w64 (n := (i : Int) + (j : Int)) (by omega) (by omega)]
        have : IntKind.u64.wrap ((i : Int) + (j : Int)) = ((i + j : Nat) : Int) := by
          rw [show (i : Int) + (j : Int) = ((i + j : Nat) : Int) by omega]
          simp [IntKind.wrap, IntKind.bits, IntKind.signed]; omega
        rw [this, show ((i + j : Nat) : Int).fdiv 2 = (((i + j) / 2 : Nat) : Int) by rw [Int.fdiv_eq_ediv_of_nonneg _ (by omega)]; rfl, w64 (by omega) (by omega)]
      have hm : (i + j) / 2 < d.length := by omega
      have hw := w64_succ (n := (i + j) / 2) (by omega)
      by_cases hx : d[(i + j) / 2] < v
      · obtain ⟨k, hk, q1, q2, q3⟩ := ih (j - ((i + j) / 2 + 1)) (by omega) ((i + j) / 2 + 1) j rfl (by omega) hj (fun q hq hqi => by
          by_cases e : q = (i + j) / 2
          · subst e; exact hx
          · exact Int.lt_trans (List.pairwise_iff_getElem.1 hp q ((i + j) / 2) hq hm (by omega)) hx) h2
        refine ⟨k, hk, q1, q2, E49l1 _ _ _ _ _ _ ?_⟩
        unfold T49l1
        refine s1 hlt' (sM (by rw [hh, inB_nat, decide_eq_true hm]) (sIg (n := d[(i + j) / 2]) (by rw [hh, Int.toNat_natCast, Nat.mul_one, ints_get hm]) (sN (c61 _ _) ?_)))
        repeat first | (with_reducible refine sT ?_) | ((with_reducible refine sIg (n := ?_) ?_ ?_); rotate_left; exact rfl) | ((with_reducible refine sBg (n := ?_) ?_ ?_); rotate_left; exact rfl) | ((with_reducible refine sSg (n := ?_) ?_ ?_); rotate_left; exact rfl) | ((with_reducible refine sLg (n := ?_) (cs := ?_) ?_ ?_); rotate_left 2; exact rfl) | ((with_reducible refine sOg (n := ?_) (cs := ?_) ?_ ?_); rotate_left 2; exact rfl) | (with_reducible refine sNt ?_) | (with_reducible refine sNe ?_)
        refine s1 hx ?_
        rw [hh, hw]
        exact q3
      · obtain ⟨k, hk, q1, q2, q3⟩ := ih ((i + j) / 2 - i) (by omega) i ((i + j) / 2) rfl (by omega) (by omega) h1 (fun q hq hqi => by
          by_cases e : q = (i + j) / 2
          · subst e; omega
          · have := List.pairwise_iff_getElem.1 hp ((i + j) / 2) q hm hq (by omega); omega)
        refine ⟨k, hk, q1, q2, E49l1 _ _ _ _ _ _ ?_⟩
        unfold T49l1
        refine s1 hlt' (sM (by rw [hh, inB_nat, decide_eq_true hm]) (sIg (n := d[(i + j) / 2]) (by rw [hh, Int.toNat_natCast, Nat.mul_one, ints_get hm]) (sN (c61 _ _) ?_)))
        repeat first | (with_reducible refine sT ?_) | ((with_reducible refine sIg (n := ?_) ?_ ?_); rotate_left; exact rfl) | ((with_reducible refine sBg (n := ?_) ?_ ?_); rotate_left; exact rfl) | ((with_reducible refine sSg (n := ?_) ?_ ?_); rotate_left; exact rfl) | ((with_reducible refine sLg (n := ?_) (cs := ?_) ?_ ?_); rotate_left 2; exact rfl) | ((with_reducible refine sOg (n := ?_) (cs := ?_) ?_ ?_); rotate_left 2; exact rfl) | (with_reducible refine sNt ?_) | (with_reducible refine sNe ?_)
        refine s0 hx ?_
        rw [hh]
        exact q3
    · have hij : i = j := by omega
      subst hij
      have hlt' : ¬ ((i : Int) < (i : Int)) := by omega
      refine ⟨i, hj, h1, h2, E49l1 _ _ _ _ _ _ ?_⟩
      unfold T49l1
      refine s0 hlt' ?_
      by_cases hl : i < d.length
      · have hl' : (i : Int) < (d.length : Int) := by omega
        refine s1 hl' (sM (by rw [inB_nat, decide_eq_true hl]) (sIg (n := d[i]) (by rw [Int.toNat_natCast, Nat.mul_one, ints_get hl]) ?_))
        by_cases he : d[i] = v
        · have hmem : v ∈ d := he ▸ List.getElem_mem hl
          rw [show (d[i] == v) = true by simp [he], decide_eq_true hmem]
          rfl
        · have hmem : v ∉ d := fun hv => by
            obtain ⟨q, hq, e2⟩ := List.getElem_of_mem hv
            rcases Nat.lt_trichotomy q i with h | h | h
            · have := h1 q hq h; omega
            · subst h; exact he e2
            · have := List.pairwise_iff_getElem.1 hp i q hl hq h
              have := h2 i hl (Nat.le_refl _)
              omega
          rw [show (d[i] == v) = false by simp [he], decide_eq_false hmem]
          refine sM (by rw [inB_nat, decide_eq_true hl]) (sIg (n := d[i]) (by rw [Int.toNat_natCast, Nat.mul_one, ints_get hl]) (sN (c62 _) ?_))
          repeat first | (with_reducible refine sT ?_) | ((with_reducible refine sIg (n := ?_) ?_ ?_); rotate_left; exact rfl) | ((with_reducible refine sBg (n := ?_) ?_ ?_); rotate_left; exact rfl) | ((with_reducible refine sSg (n := ?_) ?_ ?_); rotate_left; exact rfl) | ((with_reducible refine sLg (n := ?_) (cs := ?_) ?_ ?_); rotate_left 2; exact rfl) | ((with_reducible refine sOg (n := ?_) (cs := ?_) ?_ ?_); rotate_left 2; exact rfl) | (with_reducible refine sNt ?_) | (with_reducible refine sNe ?_)
          rfl
      · have hl' : ¬ ((i : Int) < (d.length : Int)) := by omega
        have hmem : v ∉ d := fun hv => by
          obtain ⟨q, hq, e⟩ := List.getElem_of_mem hv
          have := h1 q hq (by omega)
          omega
        rw [decide_eq_false hmem]
        exact s0 hl' rfl
theorem c49 (d : List Int) (v : Int) (hd : d.length ≤ 1000000000) (hp : d.Pairwise (· < ·)) : ∃ k : Nat, k ≤ d.length ∧ (∀ q (h : q < d.length), q < k → d[q] < v) ∧ (∀ q (h : q < d.length), k ≤ q → v ≤ d[q]) ∧
    runE C 49 [.sl d.length (ints d), .int .i64 v] = some (.tup [.int .i64 (k : Int), .bool (decide (v ∈ d))]) := by
  obtain ⟨k, h1, h2, h3, h4⟩ := bs_loop d v hd hp d.length 0 d.length rfl (Nat.zero_le _) (Nat.le_refl _) (fun q _ h => by omega) (fun q h1 h2 => by omega)
  exact ⟨k, h1, h2, h3, E49 _ _ _ h4⟩
theorem mem_drop_cons {d : List Int} {i : Nat} (h : i < d.length) (v : Int) : (v ∈ d.drop i) ↔ (d[i] = v ∨ v ∈ d.drop (i + 1)) := by
  rw [List.drop_eq_getElem_cons h, List.mem_cons]
  exact or_congr_left eq_comm
theorem c65 (d : List Int) (v : Int) (hd : d.length ≤ 1000000000) : runE C 65 [.sl d.length (ints d), .int .i64 v] = some (.tup [.bool (decide (v ∈ d))]) := by
  have loop : ∀ m i, d.length - i = m → i ≤ d.length → loopE C 65 0 [true, false, true] [] [(0, V.sl d.length (ints d)), (1, V.int .i64 v), (5, V.int .i64 (i : Int))] [] = some (.tup [.bool (decide (v ∈ d.drop i))]) := by
    intro m
    induction m with
    | zero =>
      intro i e hi
      have : i = d.length := by omega
      subst this
      refine E65l1 _ _ _ _ ?_
      unfold T65l1
      exact s0 (by omega) (by simp)
    | succ m ih =>
      intro i e hi
      have hlt : i < d.length := by omega
      have hw := w64_succ (n := i) (by omega)
      refine E65l1 _ _ _ _ ?_
      unfold T65l1
      refine s1 (by omega) (sM (by rw [inB_nat, decide_eq_true hlt]) (sIg (n := d[i]) (by rw [Int.toNat_natCast, Nat.mul_one, ints_get hlt]) ?_))
      by_cases he : d[i] = v
      · rw [show (d[i] == v) = true by simp [he], decide_eq_true ((mem_drop_cons hlt v).2 (.inl he))]
        rfl
      · rw [show (d[i] == v) = false by simp [he], hw]
        refine (ih (i + 1) (by omega) (by omega)).trans ?_
        rw [show decide (v ∈ d.drop i) = decide (v ∈ d.drop (i + 1)) from decide_eq_decide.2 ((mem_drop_cons hlt v).trans (by simp [he]))]
  exact E65 _ _ _ (loop d.length 0 (by omega) (Nat.zero_le _))
theorem c24 (d : List Int) (v : Int) (hd : d.length ≤ 1000000000) : runE C 24 [.sl d.length (ints d), .int .i64 v] = some (.tup [.bool (decide (v ∈ d))]) := by
  have loop : ∀ m i, d.length - i = m → i ≤ d.length → loopE C 24 0 [true, false, true] [] [(0, V.sl d.length (ints d)), (1, V.int .i64 v), (5, V.int .i64 (i : Int))] [] = some (.tup [.bool (decide (v ∈ d.drop i))]) := by
    intro m
    induction m with
    | zero =>
      intro i e hi
      have : i = d.length := by omega
      subst this
      refine E24l1 _ _ _ _ ?_
      unfold T24l1
      exact s0 (by omega) (by simp)
    | succ m ih =>
      intro i e hi
      have hlt : i < d.length := by omega
      have hw := w64_succ (n := i) (by omega)
      refine E24l1 _ _ _ _ ?_
      unfold T24l1
      refine s1 (by omega) (sM (by rw [inB_nat, decide_eq_true hlt]) (sIg (n := d[i]) (by rw [Int.toNat_natCast, Nat.mul_one, ints_get hlt]) ?_))
      by_cases he : d[i] = v
      · rw [show (d[i] == v) = true by simp [he], decide_eq_true ((mem_drop_cons hlt v).2 (.inl he))]
        rfl
      · rw [show (d[i] == v) = false by simp [he], hw]
        refine (ih (i + 1) (by omega) (by omega)).trans ?_
        rw [show decide (v ∈ d.drop i) = decide (v ∈ d.drop (i + 1)) from decide_eq_decide.2 ((mem_drop_cons hlt v).trans (by simp [he]))]
  exact E24 _ _ _ (loop d.length 0 (by omega) (Nat.zero_le _))
theorem put_loop (d : List Int) (v : Int) (hd : d.length ≤ 1000000000) : ∀ m i (b : Bool) (o : List Int), d.length - i = m → i ≤ d.length → o.length ≤ i + (if b = true then 1 else 0) →
    loopE C 66 0 [true, true, true, false, true] [] [(0, V.sl d.length (ints d)), (1, V.int .i64 v), (5, V.ref 0), (6, V.bool b), (7, V.int .i64 (i : Int))] [Ob.row 2 o.length (ints o) false]
      = some (.tup [.osl (o ++ (if b = true then d.drop i else ins v (d.drop i))).length (ints (o ++ (if b = true then d.drop i else ins v (d.drop i))))]) := by
  intro m
  induction m with
  | zero =>
    intro i b o e hi ho
    have : i = d.length := by omega
    subst this
    have ho : o.length ≤ d.length + 1 := by cases b <;> simp at ho <;> omega
    refine E66l1 _ _ _ _ _ _ _ ?_
    unfold T66l1
    refine s0 (by omega) ?_
    cases b
    · refine sNf (sM (by simp only [Bool.true_and, ble_dec, Bool.and_eq_true, decide_eq_true_eq]; omega) ?_)
      have e1 : ints o ++ [V.int .i64 v] = ints (o ++ [v]) := by rw [ints_append]; rfl
      rw [e1, ints_flat]
      simp [ins]
    · refine sNt (sM (by rw [ints_flat]; rfl) ?_)
      simp
  | succ m ih =>
    intro i b o e hi ho
    have hlt : i < d.length := by omega
    have ho1 : o.length ≤ i + 1 := by cases b <;> simp at ho <;> omega
    have hw := w64_succ (n := i) (by omega)
    have hdc : d.drop i = d[i] :: d.drop (i + 1) := List.drop_eq_getElem_cons hlt
    have app : ∀ (o : List Int) (x : Int), ints o ++ [V.int .i64 x] = ints (o ++ [x]) := fun o x => by rw [ints_append]; rfl
    have len : ∀ (o : List Int) (x : Int), o.length + 1 = (o ++ [x]).length := fun o x => by simp
    have room : ∀ q : Nat, q ≤ 10000000000 → (true && Nat.ble q 140737488355328 && Nat.ble (q * 8) 140737488355328) = true := fun q hq => by simp only [Bool.true_and, ble_dec, Bool.and_eq_true, decide_eq_true_eq]; omega
    have inb : inB (i : Int) d.length = true := by rw [inB_nat, decide_eq_true hlt]
    have get : (ints d)[(i : Int).toNat * 1]? = some (.int .i64 d[i]) := by rw [Int.toNat_natCast, Nat.mul_one, ints_get hlt]
    refine E66l1 _ _ _ _ _ _ _ ?_
    unfold T66l1
    refine s1 (by omega) (sM inb (sIg get ?_))
    by_cases hx : d[i] > v
    · refine s1 hx ?_
      cases b
      · refine sNf (sM (room _ (by omega)) (sM inb (sIg get (sM (room _ (by omega)) ?_))))
        rw [hw, app, app, len o v, len (o ++ [v]) d[i]]
        refine (ih (i + 1) true (o ++ [v] ++ [d[i]]) (by omega) (by omega) (by simp at ho ⊢; omega)).trans ?_
        rw [hdc]
        simp only [if_true, Bool.false_eq_true, if_false]
        unfold ins
        rw [if_pos hx]
        simp
      · refine sNt (sM inb (sIg get (sM (room _ (by omega)) ?_)))
        rw [hw, app, len o d[i]]
        refine (ih (i + 1) true (o ++ [d[i]]) (by omega) (by omega) (by simp at ho ⊢; omega)).trans ?_
        rw [hdc]
        simp
    · refine s0 hx (sM inb (sIg get (sM (room _ (by omega)) ?_)))
      rw [hw, app, len o d[i]]
      refine (ih (i + 1) b (o ++ [d[i]]) (by omega) (by omega) (by simp; omega)).trans ?_
      rw [hdc]
      cases b
      · simp only [Bool.false_eq_true, if_false]
        conv => rhs; unfold ins
        rw [if_neg hx]
        simp
      · simp
theorem c66 (d : List Int) (v : Int) (hd : d.length ≤ 1000000000) : runE C 66 [.sl d.length (ints d), .int .i64 v] = some (.tup [.osl (d.length + 1) (ints (ins v d))]) := by
  refine E66 _ _ _ ((put_loop d v hd d.length 0 false [] (by omega) (Nat.zero_le _) (by simp)).trans ?_)
  simp [ins_length]
end Go.Proofs.YtkjjneejmjfhlaaDoor.Led
