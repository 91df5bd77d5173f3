/-
  Draws of trusts and of signed heads.
-/
import Derived.Test.YtodapaplfjfnlaaGreatPLSignedTQ
import Derived.Test.YtodapaplfjfnlaaGreatPLEvidTQ
namespace Go.Proofs.YtodapaplfjfnlaaGreat.Vote
open Go Go.PI Go.PI.Sha Go.PI.Rel Go.PI.Nest Go.PI.Tru Go.PI.Set Go.PI.Tree Go.PI.Vote Go.Proofs.YtodapaplfjfnlaaGreat.Sha Go.Proofs.YtodapaplfjfnlaaGreat.By Go.Proofs.YtodapaplfjfnlaaGreat.Nest Go.Proofs.YtodapaplfjfnlaaGreat.Tru Go.Proofs.YtodapaplfjfnlaaGreat.Set Go.Proofs.YtodapaplfjfnlaaGreat.Tree EqQ
set_option maxHeartbeats 1000000
set_option linter.unusedVariables false
set_option linter.unusedSimpArgs false
def src (code : List UInt8) (a : Nat) : Ob := Ob.box 142 [.sl code.length (bytesV code), .int .i64 a] false
def Drew (code : List UInt8) (a m : Nat) (P : List V → Prop) (r : V) : Prop := ∃ l a', r = .tup (l ++ [.sl code.length (bytesV code), .int .i64 ((a' : Nat) : Int)]) ∧ a ≤ a' ∧ a' ≤ a + m ∧ P l
theorem bytes_at {l : List UInt8} {i : Nat} (h : i < l.length) : ∃ b : Nat, b < 256 ∧ (bytesV l)[i]? = some (.int .u8 (b : Int)) := by
  refine ⟨l[i].toNat, l[i].toNat_lt, ?_⟩
  simp [bytesV, h]
theorem c41 (code : List UInt8) (a : Nat) (n : Int) (hc : code.length ≤ 1099511627776) (ha : a < 1099511627776) :
    Ex (Drew code a 1 fun l => ∃ v : Int, l = [.int .i64 v] ∧ 0 ≤ v ∧ (1 ≤ n → v < n) ∧ (n < 1 → v = 0)) (runWE C 41 [] [.ptr 0 0, .int .i64 n] [src code a]) := by
  unfold src
  refine Ex.run (fun h => E41 _ _ _ _ h) ?_
  unfold T41
  have w1 : IntKind.i64.wrap ((a : Int) + 1) = ((a + 1 : Nat) : Int) := by rw [w64 (by omega) (by omega)]; omega
  have w2 : IntKind.i64.wrap (((a + 1 : Nat) : Int) - 1) = (a : Int) := by rw [w64 (by omega) (by omega)]; omega
  have fin : ∀ x : Int, 0 ≤ x → 1 ≤ n → Ex (Drew code a 1 fun l => ∃ v : Int, l = [.int .i64 v] ∧ 0 ≤ v ∧ (1 ≤ n → v < n) ∧ (n < 1 → v = 0))
      (some (V.tup [V.int .i64 (x.tmod n), V.sl code.length (bytesV code), V.int .i64 ((a + 1 : Nat) : Int)])) := fun x hx hn =>
    ⟨_, rfl, _, a + 1, rfl, by omega, by omega, _, rfl, Int.tmod_nonneg n hx, fun _ => Int.tmod_lt_of_pos x (by omega), fun h => by omega⟩
  rw [w1, w2]
  refine xD (fun h => ?_) (fun h => ?_)
  · exact ⟨_, rfl, _, a + 1, rfl, by omega, by omega, 0, rfl, by omega, fun h => by omega, fun _ => rfl⟩
  have hn0 : (!decide (n = 0)) = true := by simp; omega
  refine xQ (fun h0 => ?_) (fun h0 => ?_)
  · refine xM hn0 ?_
    refine fin _ ?_ (by omega)
    rw [w64 (by omega) (by omega)]; omega
  have hk : 0 < code.length := by omega
  have hk0 : (!decide ((code.length : Int) = 0)) = true := by rw [decide_eq_false (by omega)]; rfl
  have inb : ∀ x : Nat, inB ((x : Int).tmod (code.length : Int)) code.length = true ∧ ∃ b : Nat, b < 256 ∧ (bytesV code)[((x : Int).tmod (code.length : Int)).toNat * 1]? = some (.int .u8 (b : Int)) := by
    intro x
    have e : (x : Int).tmod (code.length : Int) = ((x % code.length : Nat) : Int) := by rw [Int.ofNat_tmod]
    have hl := Nat.mod_lt x hk
    rw [e]
    refine ⟨by rw [inB_nat, decide_eq_true hl], ?_⟩
    rw [Int.toNat_natCast, Nat.mul_one]
    exact bytes_at hl
  obtain ⟨i1, b1, hb1, g1⟩ := inb a
  have w3 : IntKind.i64.wrap ((a : Int) + 1) = ((a + 1 : Nat) : Int) := w1
  obtain ⟨i2, b2, hb2, g2⟩ := inb (a + 1)
  have hd : 0 ≤ (a : Int).tdiv (code.length : Int) ∧ (a : Int).tdiv (code.length : Int) ≤ a := by
    rw [← Int.ofNat_tdiv]
    exact ⟨Int.natCast_nonneg _, Int.ofNat_le.2 (Nat.div_le_self a code.length)⟩
  generalize (a : Int).tdiv (code.length : Int) = D at hd
  refine xM hk0 (xM i1 ?_)
  refine xIg g1 (xM hk0 ?_)
  have x1 : IntKind.i64.wrap (b1 : Int) = b1 := w64 (by omega) (by omega)
  have x2 : IntKind.i64.wrap (b2 : Int) = b2 := w64 (by omega) (by omega)
  have x3 : IntKind.i64.wrap D = D := w64 (by omega) (by omega)
  have x4 : IntKind.i64.wrap (D * 37) = D * 37 := w64 (by omega) (by omega)
  have x5 : IntKind.i64.wrap ((b1 : Int) + D * 37) = (b1 : Int) + D * 37 := w64 (by omega) (by omega)
  rw [x1, x3, x4, x5]
  refine xD (fun h2 => ?_) (fun h2 => ?_)
  · rw [w3]
    refine xM hk0 (xM i2 ?_)
    refine xIg g2 (xM hn0 ?_)
    have x6 : IntKind.i64.wrap (((b1 : Int) + D * 37) * 251) = ((b1 : Int) + D * 37) * 251 := w64 (by omega) (by omega)
    have x7 : IntKind.i64.wrap ((b2 : Int) * 13) = (b2 : Int) * 13 := w64 (by omega) (by omega)
    rw [x2, x6, x7]
    refine fin _ ?_ (by omega)
    have x8 : IntKind.i64.wrap (((b1 : Int) + D * 37) * 251 + (b2 : Int) * 13) = ((b1 : Int) + D * 37) * 251 + (b2 : Int) * 13 := w64 (by omega) (by omega)
    rw [x8, w64 (by omega) (by omega)]
    omega
  · refine xM hn0 (fin _ (by omega) (by omega))
theorem c40 (code : List UInt8) (a : Nat) (n : Int) (hc : code.length ≤ 1099511627776) (ha : a < 1099511627776) :
    Ex (Drew code a 1 fun l => ∃ v : Bool, l = [.bool v]) (runWE C 40 [] [.ptr 0 0, .int .i64 n] [src code a]) := by
  unfold src
  refine Ex.run (fun h => E40 _ _ _ _ h) ?_
  unfold T40
  refine xW (c41 code a n hc ha) ?_
  rintro _ ⟨_, a', rfl, h1, h2, v, rfl, hv⟩
  repeat first | (with_reducible refine xT ?_) | ((with_reducible refine xIg (n := ?_) ?_ ?_); rotate_left; exact rfl) | ((with_reducible refine xBg (n := ?_) ?_ ?_); rotate_left; exact rfl) | ((with_reducible refine xSg (n := ?_) ?_ ?_); rotate_left; exact rfl) | ((with_reducible refine xLg (n := ?_) (cs := ?_) ?_ ?_); rotate_left 2; exact rfl) | ((with_reducible refine xOg (n := ?_) (cs := ?_) ?_ ?_); rotate_left 2; exact rfl)
  exact ⟨_, rfl, _, a', rfl, h1, h2, _, rfl⟩
theorem c94 (code : List UInt8) (a : Nat) (l : List Int) (hl : 0 < l.length) (hc : code.length ≤ 1099511627776) (ha : a < 1099511627776) :
    Ex (Drew code a 1 fun q => ∃ v : Int, q = [.int .i64 v] ∧ v ∈ l) (runWE C 94 [] [.ptr 0 0, .sl l.length (ints l)] [src code a]) := by
  unfold src
  refine Ex.run (fun h => E94 _ _ _ _ _ h) ?_
  unfold T94
  refine xW (c41 code a (l.length : Int) hc ha) ?_
  rintro _ ⟨_, a', rfl, h1, h2, v, rfl, hv0, hv1, _⟩
  repeat first | (with_reducible refine xT ?_) | ((with_reducible refine xIg (n := ?_) ?_ ?_); rotate_left; exact rfl) | ((with_reducible refine xBg (n := ?_) ?_ ?_); rotate_left; exact rfl) | ((with_reducible refine xSg (n := ?_) ?_ ?_); rotate_left; exact rfl) | ((with_reducible refine xLg (n := ?_) (cs := ?_) ?_ ?_); rotate_left 2; exact rfl) | ((with_reducible refine xOg (n := ?_) (cs := ?_) ?_ ?_); rotate_left 2; exact rfl)
  have hv1 := hv1 (by omega)
  obtain ⟨i, rfl⟩ := Int.eq_ofNat_of_zero_le hv0
  have hi : i < l.length := by omega
  refine xM (by rw [inB_nat, decide_eq_true hi]) ?_
  refine xIg (n := l[i]) (by rw [Int.toNat_natCast, Nat.mul_one, ints_get hi]) ?_
  exact ⟨_, rfl, _, a', rfl, h1, h2, _, rfl, List.getElem_mem hi⟩
theorem c8 (code : List UInt8) : runE C 8 [.sl code.length (bytesV code)] = some (.tup [.bool (decide ((code.length : Int) > 1048576))]) := E8 _ _ rfl
theorem l70 (code : List UInt8) (hc : code.length ≤ 1099511627776) : ∀ (n a : Nat) (b : List UInt8), n ≤ 1000 → b.length + n ≤ 100000 → a + n < 1099511000000 →
    Ex (Drew code a n fun l => ∃ v : List UInt8, l = [.sl v.length (bytesV v)] ∧ v.length = b.length + n) (loopWE C 70 [] [Ob.box 142 [V.u, V.u] false] 0 [true, true, false] [] [(0, V.ptr 0 0), (1, V.int .i64 (n : Int)), (5, V.ref 1)] [src code a, Ob.row 5 b.length (bytesV b) false]) := by
  intro n
  induction n with
  | zero =>
    intro a b h1 h2 h3
    unfold src
    refine Ex.run (fun h => E70l1 _ _ _ _ _ _ h) ?_
    unfold T70l1
    refine xD (fun h => by omega) (fun h => ?_)
    exact ⟨_, rfl, _, a, rfl, by omega, by omega, b, rfl, by omega⟩
  | succ n ih =>
    intro a b h1 h2 h3
    unfold src
    refine Ex.run (fun h => E70l1 _ _ _ _ _ _ h) ?_
    unfold T70l1
    refine xD (fun h => ?_) (fun h => by omega)
    refine xW (c41 code a 256 hc (by omega)) ?_
    rintro _ ⟨_, a1, rfl, pa1, qa1, v, rfl, hv0, hv1, _⟩
    repeat first | (with_reducible refine xT ?_) | ((with_reducible refine xIg (n := ?_) ?_ ?_); rotate_left; exact rfl) | ((with_reducible refine xBg (n := ?_) ?_ ?_); rotate_left; exact rfl) | ((with_reducible refine xSg (n := ?_) ?_ ?_); rotate_left; exact rfl) | ((with_reducible refine xLg (n := ?_) (cs := ?_) ?_ ?_); rotate_left 2; exact rfl) | ((with_reducible refine xOg (n := ?_) (cs := ?_) ?_ ?_); rotate_left 2; exact rfl)
    refine xM (by simp only [Bool.true_and, ble_dec, Bool.and_eq_true, decide_eq_true_eq]; omega) ?_
    have e : bytesV b ++ [V.int .u8 (IntKind.u8.wrap v)] = bytesV (b ++ [b8 v]) := by rw [wrap_b8, bytesV_append]; rfl
    have w : IntKind.i64.wrap (((n + 1 : Nat) : Int) - 1) = (n : Int) := by rw [w64 (by omega) (by omega)]; omega
    have k := ih a1 (b ++ [b8 v]) (by omega) (by simp; omega) (by omega)
    rw [List.length_append, List.length_singleton] at k
    rw [e, w]
    refine Ex.mono k ?_
    rintro _ ⟨l, a2, rfl, z1, z2, u, rfl, z3⟩
    exact ⟨_, a2, rfl, by omega, by omega, u, rfl, by omega⟩
theorem c70 (code : List UInt8) (a n : Nat) (hc : code.length ≤ 1099511627776) (hn : n ≤ 1000) (ha : a + n < 1099511000000) :
    Ex (Drew code a n fun l => ∃ v : List UInt8, l = [.sl v.length (bytesV v)] ∧ v.length = n) (runWE C 70 [] [.ptr 0 0, .int .i64 (n : Int)] [src code a]) := by
  unfold src
  refine Ex.run (fun h => E70 _ _ _ _ h) ?_
  unfold T70
  refine Ex.mono (l70 code hc n a [] hn (by simp; omega) ha) ?_
  rintro _ ⟨l, a2, rfl, z1, z2, u, rfl, z3⟩
  exact ⟨_, a2, rfl, z1, z2, u, rfl, by simpa using z3⟩
theorem l72 (code : List UInt8) (hc : code.length ≤ 1099511627776) (n : Nat) (hn : n ≤ 10) : ∀ (m i a : Nat) (p : List Int), n = i + m → a + m < 1099511000000 → p.length ≤ i → (∀ k ∈ p, 0 ≤ k ∧ k ≤ (n : Int) - 1) →
    Ex (Drew code a m fun l => ∃ p : List Int, l = [.sl p.length (ints p)] ∧ p.length ≤ n ∧ ∀ k ∈ p, 0 ≤ k ∧ k ≤ (n : Int) - 1) (loopWE C 72 [] [Ob.box 142 [V.u, V.u] false] 0 [true, true, false, true] [] [(0, V.ptr 0 0), (1, V.int .i64 (n : Int)), (5, V.ref 1), (6, V.int .i64 (i : Int))] [src code a, Ob.row 2 p.length (ints p) false]) := by
  intro m
  induction m with
  | zero =>
    intro i a p h1 h2 h3 h4
    unfold src
    refine Ex.run (fun h => E72l1 _ _ _ _ _ _ _ h) ?_
    unfold T72l1
    refine xD (fun h => by omega) (fun h => ?_)
    exact ⟨_, rfl, _, a, rfl, by omega, by omega, p, rfl, by omega, h4⟩
  | succ m ih =>
    intro i a p h1 h2 h3 h4
    unfold src
    refine Ex.run (fun h => E72l1 _ _ _ _ _ _ _ h) ?_
    unfold T72l1
    refine xD (fun h => ?_) (fun h => by omega)
    refine xW (c40 code a 4 hc (by omega)) ?_
    rintro _ ⟨_, a1, rfl, pa1, qa1, v, rfl⟩
    repeat first | (with_reducible refine xT ?_) | ((with_reducible refine xIg (n := ?_) ?_ ?_); rotate_left; exact rfl) | ((with_reducible refine xBg (n := ?_) ?_ ?_); rotate_left; exact rfl) | ((with_reducible refine xSg (n := ?_) ?_ ?_); rotate_left; exact rfl) | ((with_reducible refine xLg (n := ?_) (cs := ?_) ?_ ?_); rotate_left 2; exact rfl) | ((with_reducible refine xOg (n := ?_) (cs := ?_) ?_ ?_); rotate_left 2; exact rfl)
    have hw := w64_succ (n := i) (by omega)
    rw [hw]
    cases v
    · refine xM (by simp only [Bool.true_and, ble_dec, Bool.and_eq_true, decide_eq_true_eq]; omega) ?_
      have k := ih (i + 1) a1 (p ++ [(i : Int)]) (by omega) (by omega) (by simp; omega) (fun k hk => by
        rcases List.mem_append.1 hk with hk | hk
        · exact h4 k hk
        · simp at hk; omega)
      rw [ints_append, List.length_append, List.length_singleton] at k
      refine Ex.mono k ?_
      rintro _ ⟨l, a2, rfl, z1, z2, z3⟩
      exact ⟨_, a2, rfl, by omega, by omega, z3⟩
    · refine Ex.mono (ih (i + 1) a1 p (by omega) (by omega) (by omega) h4) ?_
      rintro _ ⟨l, a2, rfl, z1, z2, z3⟩
      exact ⟨_, a2, rfl, by omega, by omega, z3⟩
theorem c72 (code : List UInt8) (a n : Nat) (hc : code.length ≤ 1099511627776) (hn : n ≤ 10) (ha : a + n < 1099511000000) :
    Ex (Drew code a n fun l => ∃ p : List Int, l = [.sl p.length (ints p)] ∧ p.length ≤ n ∧ ∀ k ∈ p, 0 ≤ k ∧ k ≤ (n : Int) - 1) (runWE C 72 [] [.ptr 0 0, .int .i64 (n : Int)] [src code a]) := by
  unfold src
  refine Ex.run (fun h => E72 _ _ _ _ h) ?_
  unfold T72
  exact l72 code hc n hn n 0 a [] (by omega) ha (by simp) (by simp)
def okS (l : List Vd) : Prop := ∀ v ∈ l, v.key.length = 32 ∧ 1 ≤ v.pow ∧ v.pow ≤ 4
def okD (l : List (List UInt8)) : Prop := ∀ b ∈ l, b.length = 1
theorem okS_small {l : List Vd} (h1 : l.length ≤ 3) (h : okS l) : small (setW l) := by
  have ht := tot_const (n := 32) fun v hv => (h v hv).1
  refine ⟨by rw [setW_length]; omega, fun w hw => ?_, by rw [setW_tot, setW_length, ht]; omega⟩
  obtain ⟨v, hv, hw⟩ := List.mem_flatMap.1 hw
  simp only [List.mem_cons, List.not_mem_nil, or_false] at hw
  rcases hw with rfl | rfl
  · have := (h v hv).1; omega
  · rw [num7_length]; omega
theorem okS_fit {l : List Vd} (h1 : l.length ≤ 3) (h : okS l) : fitV l := by
  have ht := tot_const (n := 32) fun v hv => (h v hv).1
  exact ⟨by omega, by omega⟩
theorem l67 (code : List UInt8) (hc : code.length ≤ 1099511627776) (n : Nat) (hn : n ≤ 3) (f : Int) (hf : 0 ≤ f ∧ f ≤ 100) : ∀ (m i a : Nat) (sd : List (List UInt8)) (vs : List Vd), n = i + m → a + m < 1099511000000 → sd.length = i → vs.length = i → okD sd → okS vs →
    Ex (Drew code a m fun l => ∃ (sd : List (List UInt8)) (vs : List Vd), l = [.sl sd.length (psS sd), .sl vs.length (vsS vs)] ∧ sd.length = n ∧ vs.length = n ∧ okD sd ∧ okS vs) (loopWE C 67 [] [Ob.box 142 [V.u, V.u] false] 0 [true, true, true, false, true] [] [(0, V.ptr 0 0), (1, V.int .i64 (n : Int)), (2, V.int .i64 f), (8, V.ref 1), (9, V.ref 2), (10, V.int .i64 (i : Int))] [src code a, Ob.row 22 sd.length (psS sd) false, Ob.row 161 vs.length (vsS vs) false]) := by
  intro m
  induction m with
  | zero =>
    intro i a sd vs h1 h2 h3 h4 h5 h6
    unfold src
    refine Ex.run (fun h => E67l1 _ _ _ _ _ _ _ _ _ _ h) ?_
    unfold T67l1
    refine xD (fun h => by omega) (fun h => ?_)
    exact ⟨_, rfl, _, a, rfl, by omega, by omega, sd, vs, rfl, by omega, by omega, h5, h6⟩
  | succ m ih =>
    intro i a sd vs h1 h2 h3 h4 h5 h6
    unfold src
    refine Ex.run (fun h => E67l1 _ _ _ _ _ _ _ _ _ _ h) ?_
    unfold T67l1
    refine xD (fun h => ?_) (fun h => by omega)
    refine xM (by simp only [Bool.true_and, ble_dec, Bool.and_eq_true, decide_eq_true_eq]; omega) ?_
    have es : [V.int .u8 (IntKind.u8.wrap (IntKind.i64.wrap (f + (i : Int))))] = bytesV [b8 (IntKind.i64.wrap (f + (i : Int)))] := by rw [wrap_b8]; rfl
    rw [es]
    generalize b8 (IntKind.i64.wrap (f + (i : Int))) = z
    refine xN (c137 [z] (by simp)) ?_
    repeat first | (with_reducible refine xT ?_) | ((with_reducible refine xIg (n := ?_) ?_ ?_); rotate_left; exact rfl) | ((with_reducible refine xBg (n := ?_) ?_ ?_); rotate_left; exact rfl) | ((with_reducible refine xSg (n := ?_) ?_ ?_); rotate_left; exact rfl) | ((with_reducible refine xLg (n := ?_) (cs := ?_) ?_ ?_); rotate_left 2; exact rfl) | ((with_reducible refine xOg (n := ?_) (cs := ?_) ?_ ?_); rotate_left 2; exact rfl)
    rw [ps_bare]
    have kr := c68 4 (leaves [z]) (leaves_length _) (by omega) (fun w hw => by have := leavesF_words [z] _ _ w hw; omega)
    rw [leaves_length] at kr
    refine xN kr ?_
    repeat first | (with_reducible refine xT ?_) | ((with_reducible refine xIg (n := ?_) ?_ ?_); rotate_left; exact rfl) | ((with_reducible refine xBg (n := ?_) ?_ ?_); rotate_left; exact rfl) | ((with_reducible refine xSg (n := ?_) ?_ ?_); rotate_left; exact rfl) | ((with_reducible refine xLg (n := ?_) (cs := ?_) ?_ ?_); rotate_left 2; exact rfl) | ((with_reducible refine xOg (n := ?_) (cs := ?_) ?_ ?_); rotate_left 2; exact rfl)
    refine xW (c41 code a 4 hc (by omega)) ?_
    rintro _ ⟨_, a1, rfl, pa1, qa1, v, rfl, hv0, hv1, _⟩
    repeat first | (with_reducible refine xT ?_) | ((with_reducible refine xIg (n := ?_) ?_ ?_); rotate_left; exact rfl) | ((with_reducible refine xBg (n := ?_) ?_ ?_); rotate_left; exact rfl) | ((with_reducible refine xSg (n := ?_) ?_ ?_); rotate_left; exact rfl) | ((with_reducible refine xLg (n := ?_) (cs := ?_) ?_ ?_); rotate_left 2; exact rfl) | ((with_reducible refine xOg (n := ?_) (cs := ?_) ?_ ?_); rotate_left 2; exact rfl)
    have hv1 := hv1 (by omega)
    refine xM (by simp only [Bool.true_and, ble_dec, Bool.and_eq_true, decide_eq_true_eq]; omega) ?_
    have hw := w64_succ (n := i) (by omega)
    have w1 : IntKind.i64.wrap (1 + v) = 1 + v := w64 (by omega) (by omega)
    have k := ih (i + 1) a1 (sd ++ [[z]]) (vs ++ [⟨root (leaves [z]), 1 + v⟩]) (by omega) (by omega) (by simp; omega) (by simp; omega) (fun b hb => by
      rcases List.mem_append.1 hb with hb | hb
      · exact h5 b hb
      · simp at hb; subst hb; rfl) (fun b hb => by
      rcases List.mem_append.1 hb with hb | hb
      · exact h6 b hb
      · simp at hb; subst hb; exact ⟨show (root (leaves [z])).length = 32 from root_length _, by dsimp only; omega, by dsimp only; omega⟩)
    have e1 : psS sd ++ [V.sl 1 (bytesV [z])] = psS (sd ++ [[z]]) := by simp [psS, bS]
    have e2 : vsS vs ++ [V.sl 32 (bytesV (root (leaves [z]))), V.int .i64 (1 + v)] = vsS (vs ++ [⟨root (leaves [z]), 1 + v⟩]) := by simp [vsS, vdS, bS, root_length]
    rw [List.length_append, List.length_singleton, List.length_append, List.length_singleton] at k
    rw [hw, w1, e1, e2]
    refine Ex.mono k ?_
    rintro _ ⟨l, a2, rfl, z1, z2, z3⟩
    exact ⟨_, a2, rfl, by omega, by omega, z3⟩
theorem c67 (code : List UInt8) (a n : Nat) (f : Int) (hc : code.length ≤ 1099511627776) (hn : n ≤ 3) (hf : 0 ≤ f ∧ f ≤ 100) (ha : a + n < 1099511000000) :
    Ex (Drew code a n fun l => ∃ (sd : List (List UInt8)) (vs : List Vd), l = [.sl sd.length (psS sd), .sl vs.length (vsS vs)] ∧ sd.length = n ∧ vs.length = n ∧ okD sd ∧ okS vs) (runWE C 67 [] [.ptr 0 0, .int .i64 (n : Int), .int .i64 f] [src code a]) := by
  unfold src
  refine Ex.run (fun h => E67 _ _ _ _ _ h) ?_
  unfold T67
  exact l67 code hc n hn f hf n 0 a [] [] (by omega) ha rfl rfl (by simp [okD]) (by simp [okS])
end Go.Proofs.YtodapaplfjfnlaaGreat.Vote
namespace Go.Proofs.YtodapaplfjfnlaaGreat.Vote
open Go Go.PI Go.PI.Sha Go.PI.Rel Go.PI.Nest Go.PI.Tru Go.PI.Set Go.PI.Tree Go.PI.Vote Go.Proofs.YtodapaplfjfnlaaGreat.Sha Go.Proofs.YtodapaplfjfnlaaGreat.By Go.Proofs.YtodapaplfjfnlaaGreat.Nest Go.Proofs.YtodapaplfjfnlaaGreat.Tru Go.Proofs.YtodapaplfjfnlaaGreat.Set Go.Proofs.YtodapaplfjfnlaaGreat.Tree EqQ
set_option maxHeartbeats 1000000
set_option linter.unusedVariables false
set_option linter.unusedSimpArgs false
def okT (t : Tr) : Prop := (1 ≤ t.hd.hgt ∧ t.hd.hgt ≤ 4) ∧ (0 ≤ t.hd.tim ∧ t.hd.tim ≤ 100) ∧ (t.hd.root.length = 32 ∧ t.hd.set.length = 32 ∧ t.hd.nxt.length = 32) ∧ (1 ≤ t.nx.length ∧ t.nx.length ≤ 3 ∧ okS t.nx) ∧ (0 ≤ t.per ∧ t.per ≤ 100) ∧ (1 ≤ t.roots.length ∧ t.roots.length ≤ 3 ∧ ∀ b ∈ t.roots, b.length ≤ 32) ∧ (-10 ≤ t.frm ∧ t.frm ≤ 10)
theorem tot_le {α : Type} {f : α → Nat} {k : Nat} : ∀ {l : List α}, (∀ x ∈ l, f x ≤ k) → tot f l ≤ k * l.length
  | [], _ => by simp [tot]
  | x :: l, h => by
    have h1 := h x (by simp)
    have h2 := tot_le (l := l) (f := f) (k := k) fun y hy => h y (by simp [hy])
    simp only [tot, List.length_cons, Nat.mul_succ]; omega
theorem fitV_of {l : List Vd} (h1 : l.length ≤ 100) (h : ∀ v ∈ l, v.key.length ≤ 100) : fitV l := by
  have := tot_le (f := kl) (k := 100) (l := l) h
  exact ⟨by omega, by omega⟩
theorem fitP_of {l : List (List UInt8)} (h1 : l.length ≤ 100) (h : ∀ v ∈ l, v.length ≤ 100) : fitP l := by
  have := tot_le (f := List.length) (k := 100) (l := l) h
  exact ⟨by omega, by omega⟩
theorem okT_fit {t : Tr} (h : okT t) : fitT t := by
  obtain ⟨_, _, h3, h4, _, h6, _⟩ := h
  exact ⟨by unfold fitH szH; omega, okS_fit h4.2.1 h4.2.2, fitP_of (by omega) (fun b hb => by have := h6.2.2 b hb; omega)⟩
theorem vs_set0 {l : List Vd} {i : Nat} (h : i < l.length) (b : List UInt8) : ∃ l' : List Vd, splice (vsS l) (i * 2 + 0) [.sl b.length (bytesV b)] = vsS l' ∧ l'.length = l.length ∧ ∀ v ∈ l', v ∈ l ∨ v.key = b := by
  refine ⟨l.take i ++ ⟨b, (l.getD i noVd).pow⟩ :: l.drop (i + 1), ?_, by simp; omega, fun v hv => ?_⟩
  · have := at_splice1 vdS vdS2 (l.take i) (l.getD i noVd) (l.drop (i + 1)) ⟨b, (l.getD i noVd).pow⟩ (j := 0) (by decide) (x := .sl b.length (bytesV b)) rfl
    rw [List.length_take, Nat.min_eq_left (by omega)] at this
    rw [← vs_split h] at this
    exact this
  · rcases List.mem_append.1 hv with hv | hv
    · exact .inl (List.mem_of_mem_take hv)
    · rcases List.mem_cons.1 hv with rfl | hv
      · exact .inr rfl
      · exact .inl (List.mem_of_mem_drop hv)
theorem vs_set1 {l : List Vd} {i : Nat} (h : i < l.length) (n : Int) : ∃ l' : List Vd, splice (vsS l) (i * 2 + 1) [.int .i64 n] = vsS l' ∧ l'.length = l.length ∧ ∀ v ∈ l', ∃ u ∈ l, v.key = u.key := by
  refine ⟨l.take i ++ ⟨(l.getD i noVd).key, n⟩ :: l.drop (i + 1), ?_, by simp; omega, fun v hv => ?_⟩
  · have := at_splice1 vdS vdS2 (l.take i) (l.getD i noVd) (l.drop (i + 1)) ⟨(l.getD i noVd).key, n⟩ (j := 1) (by decide) (x := .int .i64 n) rfl
    rw [List.length_take, Nat.min_eq_left (by omega)] at this
    rw [← vs_split h] at this
    exact this
  · rcases List.mem_append.1 hv with hv | hv
    · exact ⟨v, List.mem_of_mem_take hv, rfl⟩
    · rcases List.mem_cons.1 hv with rfl | hv
      · exact ⟨l.getD i noVd, by rw [List.getD_eq_getElem?_getD, List.getElem?_eq_getElem h]; exact List.getElem_mem h, rfl⟩
      · exact ⟨v, List.mem_of_mem_drop hv, rfl⟩
theorem pick_nat {v : Int} {l : List Int} (h : v ∈ l) (k : ∀ x ∈ l, 0 ≤ x ∧ x ≤ 40) : ∃ n : Nat, v = (n : Int) ∧ n ≤ 40 := ⟨v.toNat, by have := k v h; omega, by have := k v h; omega⟩
theorem c163 (code : List UInt8) (a : Nat) (l : List Vd) (hc : code.length ≤ 1099511627776) (ha : a + 100 < 1099511000000) (h1 : 1 ≤ l.length ∧ l.length ≤ 3) (hs : okS l) :
    Ex (Drew code a 60 fun r => ∃ l' : List Vd, r = [.sl l'.length (vsS l')] ∧ fitV l') (runWE C 163 [] [.ptr 0 0, .sl l.length (vsS l)] [src code a]) := by
  unfold src
  refine Ex.run (fun h => E163 _ _ _ _ _ h) ?_
  unfold T163
  simp only [Nat.zero_add]
  have hl : (vsS l).length = l.length * 2 := vsS_length l
  have hk : ∀ v ∈ l, v.key.length ≤ 100 := fun v hv => by have := (hs v hv).1; omega
  refine xM (by rw [hl]; exact decide_eq_true rfl) (xM (by simp only [Bool.true_and, ble_dec, Bool.and_eq_true, decide_eq_true_eq]; omega) ?_)
  refine xW (c41 code a (l.length : Int) hc (by omega)) ?_
  rintro _ ⟨_, a1, rfl, pa1, qa1, v1, rfl, hv0, hv1, _⟩
  repeat first | (with_reducible refine xT ?_) | ((with_reducible refine xIg (n := ?_) ?_ ?_); rotate_left; exact rfl) | ((with_reducible refine xBg (n := ?_) ?_ ?_); rotate_left; exact rfl) | ((with_reducible refine xSg (n := ?_) ?_ ?_); rotate_left; exact rfl) | ((with_reducible refine xLg (n := ?_) (cs := ?_) ?_ ?_); rotate_left 2; exact rfl) | ((with_reducible refine xOg (n := ?_) (cs := ?_) ?_ ?_); rotate_left 2; exact rfl)
  have hv1 := hv1 (by omega)
  obtain ⟨i, rfl⟩ := Int.eq_ofNat_of_zero_le hv0
  have hi : i < l.length := by omega
  refine xW (c41 code a1 5 hc (by omega)) ?_
  rintro _ ⟨_, a2, rfl, pa2, qa2, v2, rfl, _⟩
  repeat first | (with_reducible refine xT ?_) | ((with_reducible refine xIg (n := ?_) ?_ ?_); rotate_left; exact rfl) | ((with_reducible refine xBg (n := ?_) ?_ ?_); rotate_left; exact rfl) | ((with_reducible refine xSg (n := ?_) ?_ ?_); rotate_left; exact rfl) | ((with_reducible refine xLg (n := ?_) (cs := ?_) ?_ ?_); rotate_left 2; exact rfl) | ((with_reducible refine xOg (n := ?_) (cs := ?_) ?_ ?_); rotate_left 2; exact rfl)
  refine xQ (fun _ => ?_) (fun _ => xQ (fun _ => ?_) (fun _ => xQ (fun _ => ?_) (fun _ => xQ (fun _ => ?_) (fun _ => xQ (fun _ => ?_) (fun _ => ?_)))))
  · refine xW (c94 code a2 [32, 31] (by decide) hc (by omega)) ?_
    rintro _ ⟨_, a3, rfl, p3, q3, v3, rfl, hv3⟩
    repeat first | (with_reducible refine xT ?_) | ((with_reducible refine xIg (n := ?_) ?_ ?_); rotate_left; exact rfl) | ((with_reducible refine xBg (n := ?_) ?_ ?_); rotate_left; exact rfl) | ((with_reducible refine xSg (n := ?_) ?_ ?_); rotate_left; exact rfl) | ((with_reducible refine xLg (n := ?_) (cs := ?_) ?_ ?_); rotate_left 2; exact rfl) | ((with_reducible refine xOg (n := ?_) (cs := ?_) ?_ ?_); rotate_left 2; exact rfl)
    obtain ⟨n, rfl, hn⟩ := pick_nat hv3 (by decide)
    refine xW (c70 code a3 n hc (by omega) (by omega)) ?_
    rintro _ ⟨_, a4, rfl, pa4, qa4, b, rfl, hb⟩
    repeat first | (with_reducible refine xT ?_) | ((with_reducible refine xIg (n := ?_) ?_ ?_); rotate_left; exact rfl) | ((with_reducible refine xBg (n := ?_) ?_ ?_); rotate_left; exact rfl) | ((with_reducible refine xSg (n := ?_) ?_ ?_); rotate_left; exact rfl) | ((with_reducible refine xLg (n := ?_) (cs := ?_) ?_ ?_); rotate_left 2; exact rfl) | ((with_reducible refine xOg (n := ?_) (cs := ?_) ?_ ?_); rotate_left 2; exact rfl)
    refine xM (by rw [inB_nat, decide_eq_true hi]) (xM (by rw [Int.toNat_natCast, hl, Bool.and_eq_true]; exact ⟨rfl, by rw [ble_dec]; exact decide_eq_true (by simp only [List.length_cons, List.length_nil]; omega)⟩) ?_)
    obtain ⟨l', e, e2, e3⟩ := vs_set0 hi b
    rw [Int.toNat_natCast, e, ← e2]
    exact ⟨_, rfl, _, a4, rfl, by omega, by omega, l', rfl, fitV_of (by omega) (fun v hv => by rcases e3 v hv with k | k; exact hk v k; rw [k]; omega)⟩
  · refine xW (c94 code a2 [0, 1000, 1001] (by decide) hc (by omega)) ?_
    rintro _ ⟨_, a3, rfl, p3, q3, v3, rfl, hv3⟩
    repeat first | (with_reducible refine xT ?_) | ((with_reducible refine xIg (n := ?_) ?_ ?_); rotate_left; exact rfl) | ((with_reducible refine xBg (n := ?_) ?_ ?_); rotate_left; exact rfl) | ((with_reducible refine xSg (n := ?_) ?_ ?_); rotate_left; exact rfl) | ((with_reducible refine xLg (n := ?_) (cs := ?_) ?_ ?_); rotate_left 2; exact rfl) | ((with_reducible refine xOg (n := ?_) (cs := ?_) ?_ ?_); rotate_left 2; exact rfl)
    refine xM (by rw [inB_nat, decide_eq_true hi]) (xM (by rw [Int.toNat_natCast, hl, Bool.and_eq_true]; exact ⟨rfl, by rw [ble_dec]; exact decide_eq_true (by simp only [List.length_cons, List.length_nil]; omega)⟩) ?_)
    obtain ⟨l', e, e2, e3⟩ := vs_set1 hi v3
    rw [Int.toNat_natCast, e, ← e2]
    exact ⟨_, rfl, _, a3, rfl, by omega, by omega, l', rfl, fitV_of (by omega) (fun v hv => by obtain ⟨u, hu, k⟩ := e3 v hv; rw [k]; exact hk u hu)⟩
  · refine xM (by rw [inB_nat, decide_eq_true hi]) ?_
    refine xLg (n := (l.getD i noVd).key.length) (cs := bytesV (l.getD i noVd).key) (by rw [Int.toNat_natCast]; exact vs_i0 hi) ?_
    refine xIg (n := (l.getD i noVd).pow) (by rw [Int.toNat_natCast]; exact vs_i1 hi) ?_
    refine xM (by simp only [Bool.true_and, ble_dec, Bool.and_eq_true, decide_eq_true_eq]; omega) ?_
    rw [vsS_snoc, show l.length + 1 = (l ++ [l.getD i noVd]).length by simp]
    exact ⟨_, rfl, _, a2, rfl, by omega, by omega, _, rfl, fitV_of (by simp; omega) (fun v hv => by rcases List.mem_append.1 hv with k | k; exact hk v k; simp at k; subst k; rw [List.getElem?_eq_getElem hi]; exact hk _ (List.getElem_mem hi))⟩
  · exact ⟨_, rfl, _, a2, rfl, by omega, by omega, [], rfl, fitV_of (by simp) (by simp)⟩
  · exact ⟨_, rfl, _, a2, rfl, by omega, by omega, List.replicate 6 ⟨[], 0⟩, rfl, fitV_of (by simp) (fun v hv => by rw [List.eq_of_mem_replicate hv]; simp)⟩
  · exact ⟨_, rfl, _, a2, rfl, by omega, by omega, l, rfl, fitV_of (by omega) hk⟩
theorem c164 (code : List UInt8) (a : Nat) (x : HB) (hc : code.length ≤ 1099511627776) (ha : a + 100 < 1099511000000) (h : x.root.length = 32 ∧ x.set.length = 32 ∧ x.nxt.length = 32) :
    Ex (Drew code a 60 fun r => ∃ y : HB, r = [V.int .i64 y.hgt, V.int .i64 y.tim, V.sl y.root.length (bytesV y.root), V.sl y.set.length (bytesV y.set), V.sl y.nxt.length (bytesV y.nxt)] ∧ fitH y) (runWE C 164 [] [.ptr 0 0, .agg [.int .i64 x.hgt, .int .i64 x.tim, .sl x.root.length (bytesV x.root), .sl x.set.length (bytesV x.set), .sl x.nxt.length (bytesV x.nxt)]] [src code a]) := by
  unfold src
  refine Ex.run (fun h => E164 _ _ _ _ _ _ _ _ _ _ _ h) ?_
  unfold T164
  refine xN (c144 x (by unfold fitH szH; omega)) ?_
  repeat first | (with_reducible refine xT ?_) | ((with_reducible refine xIg (n := ?_) ?_ ?_); rotate_left; exact rfl) | ((with_reducible refine xBg (n := ?_) ?_ ?_); rotate_left; exact rfl) | ((with_reducible refine xSg (n := ?_) ?_ ?_); rotate_left; exact rfl) | ((with_reducible refine xLg (n := ?_) (cs := ?_) ?_ ?_); rotate_left 2; exact rfl) | ((with_reducible refine xOg (n := ?_) (cs := ?_) ?_ ?_); rotate_left 2; exact rfl)
  refine xW (c41 code a 6 hc (by omega)) ?_
  rintro _ ⟨_, a1, rfl, pa1, qa1, v1, rfl, _⟩
  repeat first | (with_reducible refine xT ?_) | ((with_reducible refine xIg (n := ?_) ?_ ?_); rotate_left; exact rfl) | ((with_reducible refine xBg (n := ?_) ?_ ?_); rotate_left; exact rfl) | ((with_reducible refine xSg (n := ?_) ?_ ?_); rotate_left; exact rfl) | ((with_reducible refine xLg (n := ?_) (cs := ?_) ?_ ?_); rotate_left 2; exact rfl) | ((with_reducible refine xOg (n := ?_) (cs := ?_) ?_ ?_); rotate_left 2; exact rfl)
  refine xQ (fun _ => ?_) (fun _ => xQ (fun _ => ?_) (fun _ => xQ (fun _ => ?_) (fun _ => xQ (fun _ => ?_) (fun _ => xQ (fun _ => ?_) (fun _ => ?_)))))
  · refine xW (c94 code a1 [0, 1000000, 1000001] (by decide) hc (by omega)) ?_
    rintro _ ⟨_, a3, rfl, p3, q3, v3, rfl, hv3⟩
    repeat first | (with_reducible refine xT ?_) | ((with_reducible refine xIg (n := ?_) ?_ ?_); rotate_left; exact rfl) | ((with_reducible refine xBg (n := ?_) ?_ ?_); rotate_left; exact rfl) | ((with_reducible refine xSg (n := ?_) ?_ ?_); rotate_left; exact rfl) | ((with_reducible refine xLg (n := ?_) (cs := ?_) ?_ ?_); rotate_left 2; exact rfl) | ((with_reducible refine xOg (n := ?_) (cs := ?_) ?_ ?_); rotate_left 2; exact rfl)
    exact ⟨_, rfl, _, a3, rfl, by omega, by omega, ⟨v3, x.tim, x.root, x.set, x.nxt⟩, rfl, by unfold fitH szH; dsimp only; omega⟩
  · refine xW (c94 code a1 [-1, 1099511627776, 1099511627777] (by decide) hc (by omega)) ?_
    rintro _ ⟨_, a3, rfl, p3, q3, v3, rfl, hv3⟩
    repeat first | (with_reducible refine xT ?_) | ((with_reducible refine xIg (n := ?_) ?_ ?_); rotate_left; exact rfl) | ((with_reducible refine xBg (n := ?_) ?_ ?_); rotate_left; exact rfl) | ((with_reducible refine xSg (n := ?_) ?_ ?_); rotate_left; exact rfl) | ((with_reducible refine xLg (n := ?_) (cs := ?_) ?_ ?_); rotate_left 2; exact rfl) | ((with_reducible refine xOg (n := ?_) (cs := ?_) ?_ ?_); rotate_left 2; exact rfl)
    exact ⟨_, rfl, _, a3, rfl, by omega, by omega, ⟨x.hgt, v3, x.root, x.set, x.nxt⟩, rfl, by unfold fitH szH; dsimp only; omega⟩
  · refine xW (c94 code a1 [32, 31] (by decide) hc (by omega)) ?_
    rintro _ ⟨_, a3, rfl, p3, q3, v3, rfl, hv3⟩
    repeat first | (with_reducible refine xT ?_) | ((with_reducible refine xIg (n := ?_) ?_ ?_); rotate_left; exact rfl) | ((with_reducible refine xBg (n := ?_) ?_ ?_); rotate_left; exact rfl) | ((with_reducible refine xSg (n := ?_) ?_ ?_); rotate_left; exact rfl) | ((with_reducible refine xLg (n := ?_) (cs := ?_) ?_ ?_); rotate_left 2; exact rfl) | ((with_reducible refine xOg (n := ?_) (cs := ?_) ?_ ?_); rotate_left 2; exact rfl)
    obtain ⟨n, rfl, hn⟩ := pick_nat hv3 (by decide)
    refine xW (c70 code a3 n hc (by omega) (by omega)) ?_
    rintro _ ⟨_, a4, rfl, pa4, qa4, b, rfl, hb⟩
    repeat first | (with_reducible refine xT ?_) | ((with_reducible refine xIg (n := ?_) ?_ ?_); rotate_left; exact rfl) | ((with_reducible refine xBg (n := ?_) ?_ ?_); rotate_left; exact rfl) | ((with_reducible refine xSg (n := ?_) ?_ ?_); rotate_left; exact rfl) | ((with_reducible refine xLg (n := ?_) (cs := ?_) ?_ ?_); rotate_left 2; exact rfl) | ((with_reducible refine xOg (n := ?_) (cs := ?_) ?_ ?_); rotate_left 2; exact rfl)
    exact ⟨_, rfl, _, a4, rfl, by omega, by omega, ⟨x.hgt, x.tim, b, x.set, x.nxt⟩, rfl, by unfold fitH szH; dsimp only; omega⟩
  · refine xW (c94 code a1 [32, 33] (by decide) hc (by omega)) ?_
    rintro _ ⟨_, a3, rfl, p3, q3, v3, rfl, hv3⟩
    repeat first | (with_reducible refine xT ?_) | ((with_reducible refine xIg (n := ?_) ?_ ?_); rotate_left; exact rfl) | ((with_reducible refine xBg (n := ?_) ?_ ?_); rotate_left; exact rfl) | ((with_reducible refine xSg (n := ?_) ?_ ?_); rotate_left; exact rfl) | ((with_reducible refine xLg (n := ?_) (cs := ?_) ?_ ?_); rotate_left 2; exact rfl) | ((with_reducible refine xOg (n := ?_) (cs := ?_) ?_ ?_); rotate_left 2; exact rfl)
    obtain ⟨n, rfl, hn⟩ := pick_nat hv3 (by decide)
    refine xW (c70 code a3 n hc (by omega) (by omega)) ?_
    rintro _ ⟨_, a4, rfl, pa4, qa4, b, rfl, hb⟩
    repeat first | (with_reducible refine xT ?_) | ((with_reducible refine xIg (n := ?_) ?_ ?_); rotate_left; exact rfl) | ((with_reducible refine xBg (n := ?_) ?_ ?_); rotate_left; exact rfl) | ((with_reducible refine xSg (n := ?_) ?_ ?_); rotate_left; exact rfl) | ((with_reducible refine xLg (n := ?_) (cs := ?_) ?_ ?_); rotate_left 2; exact rfl) | ((with_reducible refine xOg (n := ?_) (cs := ?_) ?_ ?_); rotate_left 2; exact rfl)
    exact ⟨_, rfl, _, a4, rfl, by omega, by omega, ⟨x.hgt, x.tim, x.root, b, x.nxt⟩, rfl, by unfold fitH szH; dsimp only; omega⟩
  · refine xW (c94 code a1 [32, 0] (by decide) hc (by omega)) ?_
    rintro _ ⟨_, a3, rfl, p3, q3, v3, rfl, hv3⟩
    repeat first | (with_reducible refine xT ?_) | ((with_reducible refine xIg (n := ?_) ?_ ?_); rotate_left; exact rfl) | ((with_reducible refine xBg (n := ?_) ?_ ?_); rotate_left; exact rfl) | ((with_reducible refine xSg (n := ?_) ?_ ?_); rotate_left; exact rfl) | ((with_reducible refine xLg (n := ?_) (cs := ?_) ?_ ?_); rotate_left 2; exact rfl) | ((with_reducible refine xOg (n := ?_) (cs := ?_) ?_ ?_); rotate_left 2; exact rfl)
    obtain ⟨n, rfl, hn⟩ := pick_nat hv3 (by decide)
    refine xW (c70 code a3 n hc (by omega) (by omega)) ?_
    rintro _ ⟨_, a4, rfl, pa4, qa4, b, rfl, hb⟩
    repeat first | (with_reducible refine xT ?_) | ((with_reducible refine xIg (n := ?_) ?_ ?_); rotate_left; exact rfl) | ((with_reducible refine xBg (n := ?_) ?_ ?_); rotate_left; exact rfl) | ((with_reducible refine xSg (n := ?_) ?_ ?_); rotate_left; exact rfl) | ((with_reducible refine xLg (n := ?_) (cs := ?_) ?_ ?_); rotate_left 2; exact rfl) | ((with_reducible refine xOg (n := ?_) (cs := ?_) ?_ ?_); rotate_left 2; exact rfl)
    exact ⟨_, rfl, _, a4, rfl, by omega, by omega, ⟨x.hgt, x.tim, x.root, x.set, b⟩, rfl, by unfold fitH szH; dsimp only; omega⟩
  · exact ⟨_, rfl, _, a1, rfl, by omega, by omega, x, rfl, by unfold fitH szH; omega⟩
theorem c95 (code : List UInt8) (a : Nat) (t : Tr) (hc : code.length ≤ 1099511627776) (ha : a + 200 < 1099511000000) (h : okT t) :
    Ex (Drew code a 80 fun r => ∃ u : Tr, r = [V.int .i64 u.hd.hgt, V.int .i64 u.hd.tim, V.sl u.hd.root.length (bytesV u.hd.root), V.sl u.hd.set.length (bytesV u.hd.set), V.sl u.hd.nxt.length (bytesV u.hd.nxt), V.sl u.nx.length (vsS u.nx), V.int .i64 u.per, V.bool u.pau, V.sl u.roots.length (psS u.roots), V.int .i64 u.frm] ∧ fitT u) (runWE C 95 [] [.ptr 0 0, .agg [.int .i64 t.hd.hgt, .int .i64 t.hd.tim, .sl t.hd.root.length (bytesV t.hd.root), .sl t.hd.set.length (bytesV t.hd.set), .sl t.hd.nxt.length (bytesV t.hd.nxt), .sl t.nx.length (vsS t.nx), .int .i64 t.per, .bool t.pau, .sl t.roots.length (psS t.roots), .int .i64 t.frm]] [src code a]) := by
  unfold src
  have hf := okT_fit h
  obtain ⟨g1, g2, g3, g4, g5, g6, g7⟩ := h
  have hr : ∀ b ∈ t.roots, b.length ≤ 100 := fun b hb => by have := g6.2.2 b hb; omega
  refine Ex.run (fun h => E95 _ _ _ _ _ _ _ _ _ _ _ _ _ _ _ _ _ _ h) ?_
  unfold T95
  refine xN (c86 t hf.1 hf.2.1 hf.2.2) ?_
  repeat first | (with_reducible refine xT ?_) | ((with_reducible refine xIg (n := ?_) ?_ ?_); rotate_left; exact rfl) | ((with_reducible refine xBg (n := ?_) ?_ ?_); rotate_left; exact rfl) | ((with_reducible refine xSg (n := ?_) ?_ ?_); rotate_left; exact rfl) | ((with_reducible refine xLg (n := ?_) (cs := ?_) ?_ ?_); rotate_left 2; exact rfl) | ((with_reducible refine xOg (n := ?_) (cs := ?_) ?_ ?_); rotate_left 2; exact rfl)
  refine xW (c41 code a 9 hc (by omega)) ?_
  rintro _ ⟨_, a1, rfl, pa1, qa1, v1, rfl, _⟩
  repeat first | (with_reducible refine xT ?_) | ((with_reducible refine xIg (n := ?_) ?_ ?_); rotate_left; exact rfl) | ((with_reducible refine xBg (n := ?_) ?_ ?_); rotate_left; exact rfl) | ((with_reducible refine xSg (n := ?_) ?_ ?_); rotate_left; exact rfl) | ((with_reducible refine xLg (n := ?_) (cs := ?_) ?_ ?_); rotate_left 2; exact rfl) | ((with_reducible refine xOg (n := ?_) (cs := ?_) ?_ ?_); rotate_left 2; exact rfl)
  refine xQ (fun _ => ?_) (fun _ => xQ (fun _ => ?_) (fun _ => xQ (fun _ => ?_) (fun _ => xQ (fun _ => ?_) (fun _ => xQ (fun _ => ?_) (fun _ => xQ (fun _ => ?_) (fun _ => xQ (fun _ => ?_) (fun _ => xQ (fun _ => ?_) (fun _ => ?_))))))))
  · refine xW (c164 code a1 t.hd hc (by omega) g3) ?_
    rintro _ ⟨_, a2, rfl, p2, q2, y, rfl, hy⟩
    repeat first | (with_reducible refine xT ?_) | ((with_reducible refine xIg (n := ?_) ?_ ?_); rotate_left; exact rfl) | ((with_reducible refine xBg (n := ?_) ?_ ?_); rotate_left; exact rfl) | ((with_reducible refine xSg (n := ?_) ?_ ?_); rotate_left; exact rfl) | ((with_reducible refine xLg (n := ?_) (cs := ?_) ?_ ?_); rotate_left 2; exact rfl) | ((with_reducible refine xOg (n := ?_) (cs := ?_) ?_ ?_); rotate_left 2; exact rfl)
    exact ⟨_, rfl, _, a2, rfl, by omega, by omega, ⟨y, t.nx, t.per, t.pau, t.roots, t.frm⟩, rfl, hy, hf.2.1, hf.2.2⟩
  · refine xW (c163 code a1 t.nx hc (by omega) ⟨g4.1, g4.2.1⟩ g4.2.2) ?_
    rintro _ ⟨_, a2, rfl, p2, q2, y, rfl, hy⟩
    repeat first | (with_reducible refine xT ?_) | ((with_reducible refine xIg (n := ?_) ?_ ?_); rotate_left; exact rfl) | ((with_reducible refine xBg (n := ?_) ?_ ?_); rotate_left; exact rfl) | ((with_reducible refine xSg (n := ?_) ?_ ?_); rotate_left; exact rfl) | ((with_reducible refine xLg (n := ?_) (cs := ?_) ?_ ?_); rotate_left 2; exact rfl) | ((with_reducible refine xOg (n := ?_) (cs := ?_) ?_ ?_); rotate_left 2; exact rfl)
    exact ⟨_, rfl, _, a2, rfl, by omega, by omega, ⟨t.hd, y, t.per, t.pau, t.roots, t.frm⟩, rfl, hf.1, hy, hf.2.2⟩
  · refine xW (c94 code a1 [0, 1099511627776, 1099511627777, -1] (by decide) hc (by omega)) ?_
    rintro _ ⟨_, a2, rfl, p2, q2, v2, rfl, _⟩
    repeat first | (with_reducible refine xT ?_) | ((with_reducible refine xIg (n := ?_) ?_ ?_); rotate_left; exact rfl) | ((with_reducible refine xBg (n := ?_) ?_ ?_); rotate_left; exact rfl) | ((with_reducible refine xSg (n := ?_) ?_ ?_); rotate_left; exact rfl) | ((with_reducible refine xLg (n := ?_) (cs := ?_) ?_ ?_); rotate_left 2; exact rfl) | ((with_reducible refine xOg (n := ?_) (cs := ?_) ?_ ?_); rotate_left 2; exact rfl)
    exact ⟨_, rfl, _, a2, rfl, by omega, by omega, ⟨t.hd, t.nx, v2, t.pau, t.roots, t.frm⟩, rfl, hf⟩
  · refine xW (c94 code a1 [IntKind.i64.wrap (t.frm + 1), 0, -1, IntKind.i64.wrap (t.frm - 1)] (by simp) hc (by omega)) ?_
    rintro _ ⟨_, a2, rfl, p2, q2, v2, rfl, _⟩
    repeat first | (with_reducible refine xT ?_) | ((with_reducible refine xIg (n := ?_) ?_ ?_); rotate_left; exact rfl) | ((with_reducible refine xBg (n := ?_) ?_ ?_); rotate_left; exact rfl) | ((with_reducible refine xSg (n := ?_) ?_ ?_); rotate_left; exact rfl) | ((with_reducible refine xLg (n := ?_) (cs := ?_) ?_ ?_); rotate_left 2; exact rfl) | ((with_reducible refine xOg (n := ?_) (cs := ?_) ?_ ?_); rotate_left 2; exact rfl)
    exact ⟨_, rfl, _, a2, rfl, by omega, by omega, ⟨t.hd, t.nx, t.per, t.pau, t.roots, v2⟩, rfl, hf⟩
  · exact ⟨_, rfl, _, a1, rfl, by omega, by omega, ⟨t.hd, t.nx, t.per, t.pau, [], t.frm⟩, rfl, hf.1, hf.2.1, fitP_of (by simp) (by simp)⟩
  · refine xM (by simp only [Bool.true_and, ble_dec, Bool.and_eq_true, decide_eq_true_eq]; omega) ?_
    rw [show psS t.roots ++ [V.sl t.hd.root.length (bytesV t.hd.root)] = psS (t.roots ++ [t.hd.root]) by simp [psS, bS], show t.roots.length + 1 = (t.roots ++ [t.hd.root]).length by simp]
    exact ⟨_, rfl, _, a1, rfl, by omega, by omega, ⟨t.hd, t.nx, t.per, t.pau, t.roots ++ [t.hd.root], t.frm⟩, rfl, hf.1, hf.2.1, fitP_of (by simp; omega) (fun b hb => by rcases List.mem_append.1 hb with k | k; exact hr b k; simp at k; subst k; omega)⟩
  · refine xW (c94 code a1 [31, 32, 0] (by decide) hc (by omega)) ?_
    rintro _ ⟨_, a2, rfl, p2, q2, v2, rfl, hv2⟩
    repeat first | (with_reducible refine xT ?_) | ((with_reducible refine xIg (n := ?_) ?_ ?_); rotate_left; exact rfl) | ((with_reducible refine xBg (n := ?_) ?_ ?_); rotate_left; exact rfl) | ((with_reducible refine xSg (n := ?_) ?_ ?_); rotate_left; exact rfl) | ((with_reducible refine xLg (n := ?_) (cs := ?_) ?_ ?_); rotate_left 2; exact rfl) | ((with_reducible refine xOg (n := ?_) (cs := ?_) ?_ ?_); rotate_left 2; exact rfl)
    obtain ⟨n, rfl, hn⟩ := pick_nat hv2 (by decide)
    refine xW (c70 code a2 n hc (by omega) (by omega)) ?_
    rintro _ ⟨_, a3, rfl, pa3, qa3, b, rfl, hb⟩
    repeat first | (with_reducible refine xT ?_) | ((with_reducible refine xIg (n := ?_) ?_ ?_); rotate_left; exact rfl) | ((with_reducible refine xBg (n := ?_) ?_ ?_); rotate_left; exact rfl) | ((with_reducible refine xSg (n := ?_) ?_ ?_); rotate_left; exact rfl) | ((with_reducible refine xLg (n := ?_) (cs := ?_) ?_ ?_); rotate_left 2; exact rfl) | ((with_reducible refine xOg (n := ?_) (cs := ?_) ?_ ?_); rotate_left 2; exact rfl)
    have hps : (psS t.roots).length = t.roots.length := psS_length _
    obtain ⟨u0, us, hu⟩ : ∃ u0 us, t.roots = u0 :: us := by
      cases e : t.roots with
      | nil => rw [e] at g6; simp at g6
      | cons u0 us => exact ⟨u0, us, rfl⟩
    refine xM (by rw [hu]; exact decide_eq_true (by simp)) (xM (by rw [hps, Bool.and_eq_true]; exact ⟨rfl, by rw [ble_dec]; exact decide_eq_true (by simp only [List.length_cons, List.length_nil]; omega)⟩) ?_)
    rw [show splice (psS t.roots) 0 [V.sl b.length (bytesV b)] = psS (b :: us) by rw [hu]; simp [splice, psS, bS], show t.roots.length = (b :: us).length by rw [hu]; rfl]
    exact ⟨_, rfl, _, a3, rfl, by omega, by omega, ⟨t.hd, t.nx, t.per, t.pau, b :: us, t.frm⟩, rfl, hf.1, hf.2.1, fitP_of (by rw [hu] at g6; simp at g6 ⊢; omega) (fun w hw => (List.mem_cons.1 hw).elim (fun k => by rw [k]; omega) (fun k => hr w (by rw [hu]; simp [k])))⟩
  · exact ⟨_, rfl, _, a1, rfl, by omega, by omega, ⟨t.hd, t.nx, t.per, t.pau, List.replicate 25 [], t.frm⟩, rfl, hf.1, hf.2.1, fitP_of (by simp) (fun v hv => by rw [List.eq_of_mem_replicate hv]; simp)⟩
  · exact ⟨_, rfl, _, a1, rfl, by omega, by omega, t, rfl, hf⟩
theorem l66 (code : List UInt8) (hc : code.length ≤ 1099511627776) (sd : List (List UInt8)) (vs : List Vd) (hv : 1 ≤ vs.length ∧ vs.length ≤ 3) (hd : sd.length = vs.length) (ho : okD sd) (hs : okS vs) : ∀ (m a : Nat) (ev : List (List UInt8)), ev.length + m ≤ 3 → (∀ b ∈ ev, b.length ≤ 10) → a + 10 * m + 400 < 1099511000000 →
    Ex (Drew code a (10 * m + 200) fun r => ∃ (t : Tr) (sd ev : List (List UInt8)), r = [V.int .i64 t.hd.hgt, V.int .i64 t.hd.tim, V.sl t.hd.root.length (bytesV t.hd.root), V.sl t.hd.set.length (bytesV t.hd.set), V.sl t.hd.nxt.length (bytesV t.hd.nxt), V.sl t.nx.length (vsS t.nx), V.int .i64 t.per, V.bool t.pau, V.sl t.roots.length (psS t.roots), V.int .i64 t.frm, V.sl sd.length (psS sd), V.sl ev.length (psS ev)] ∧ okT t ∧ sd.length = t.nx.length ∧ okD sd) (loopWE C 66 [] [Ob.box 142 [V.u, V.u] false] 0 [true, true, true, true, false, true] [] [(0, V.ptr 0 0), (2, V.ptr 1 0), (4, V.sl sd.length (psS sd)), (5, V.sl vs.length (vsS vs)), (6, V.ref 9), (7, V.int .i64 (m : Int))] [src code a, Ob.box 106 [V.int .i64 0, V.int .i64 0, V.ref 2, V.ref 3, V.ref 4, V.ref 5, V.int .i64 0, V.bool false, V.ref 6, V.int .i64 0, V.ref 7, V.ref 8] false, Ob.row 5 0 [] false, Ob.row 5 0 [] false, Ob.row 5 0 [] false, Ob.row 161 0 [] false, Ob.nrow [] 22 0 [], Ob.nrow [] 22 0 [], Ob.nrow [] 22 0 [], Ob.row 22 ev.length (psS ev) false]) := by
  intro m
  induction m with
  | zero =>
    intro a ev h1 h2 h3
    unfold src
    refine Ex.run (fun h => E66l1 _ _ _ _ _ _ _ _ _ _ _ _ _ _ _ _ _ _ _ _ _ _ _ _ _ _ _ _ _ h) ?_
    unfold T66l1
    refine xD (fun h => by omega) (fun h => ?_)
    refine xW (c41 code a 4 hc (by omega)) ?_
    rintro _ ⟨_, a1, rfl, pa1, qa1, v1, rfl, hv10, hv11, _⟩
    repeat first | (with_reducible refine xT ?_) | ((with_reducible refine xIg (n := ?_) ?_ ?_); rotate_left; exact rfl) | ((with_reducible refine xBg (n := ?_) ?_ ?_); rotate_left; exact rfl) | ((with_reducible refine xSg (n := ?_) ?_ ?_); rotate_left; exact rfl) | ((with_reducible refine xLg (n := ?_) (cs := ?_) ?_ ?_); rotate_left 2; exact rfl) | ((with_reducible refine xOg (n := ?_) (cs := ?_) ?_ ?_); rotate_left 2; exact rfl)
    have hv11 := hv11 (by omega)
    refine xW (c41 code a1 20 hc (by omega)) ?_
    rintro _ ⟨_, a2, rfl, pa2, qa2, v2, rfl, hv20, hv21, _⟩
    repeat first | (with_reducible refine xT ?_) | ((with_reducible refine xIg (n := ?_) ?_ ?_); rotate_left; exact rfl) | ((with_reducible refine xBg (n := ?_) ?_ ?_); rotate_left; exact rfl) | ((with_reducible refine xSg (n := ?_) ?_ ?_); rotate_left; exact rfl) | ((with_reducible refine xLg (n := ?_) (cs := ?_) ?_ ?_); rotate_left 2; exact rfl) | ((with_reducible refine xOg (n := ?_) (cs := ?_) ?_ ?_); rotate_left 2; exact rfl)
    have hv21 := hv21 (by omega)
    have kr := c68 ev.length ev rfl (by omega) (fun w hw => by have := h2 w hw; omega)
    rw [← root_length ev] at kr
    have hrt := root_length ev
    generalize root ev = rt at kr hrt
    refine xN kr ?_
    repeat first | (with_reducible refine xT ?_) | ((with_reducible refine xIg (n := ?_) ?_ ?_); rotate_left; exact rfl) | ((with_reducible refine xBg (n := ?_) ?_ ?_); rotate_left; exact rfl) | ((with_reducible refine xSg (n := ?_) ?_ ?_); rotate_left; exact rfl) | ((with_reducible refine xLg (n := ?_) (cs := ?_) ?_ ?_); rotate_left 2; exact rfl) | ((with_reducible refine xOg (n := ?_) (cs := ?_) ?_ ?_); rotate_left 2; exact rfl)
    refine xW (c70 code a2 32 hc (by omega) (by omega)) ?_
    rintro _ ⟨_, a3, rfl, pa3, qa3, b1, rfl, hb1⟩
    repeat first | (with_reducible refine xT ?_) | ((with_reducible refine xIg (n := ?_) ?_ ?_); rotate_left; exact rfl) | ((with_reducible refine xBg (n := ?_) ?_ ?_); rotate_left; exact rfl) | ((with_reducible refine xSg (n := ?_) ?_ ?_); rotate_left; exact rfl) | ((with_reducible refine xLg (n := ?_) (cs := ?_) ?_ ?_); rotate_left 2; exact rfl) | ((with_reducible refine xOg (n := ?_) (cs := ?_) ?_ ?_); rotate_left 2; exact rfl)
    have kd := c69 vs (okS_small hv.2 hs)
    rw [← setDig_length vs] at kd
    have hsg := setDig_length vs
    generalize setDig vs = sg at kd hsg
    refine xN kd ?_
    repeat first | (with_reducible refine xT ?_) | ((with_reducible refine xIg (n := ?_) ?_ ?_); rotate_left; exact rfl) | ((with_reducible refine xBg (n := ?_) ?_ ?_); rotate_left; exact rfl) | ((with_reducible refine xSg (n := ?_) ?_ ?_); rotate_left; exact rfl) | ((with_reducible refine xLg (n := ?_) (cs := ?_) ?_ ?_); rotate_left 2; exact rfl) | ((with_reducible refine xOg (n := ?_) (cs := ?_) ?_ ?_); rotate_left 2; exact rfl)
    have w1 : IntKind.i64.wrap (1 + v1) = 1 + v1 := w64 (by omega) (by omega)
    have w2 : IntKind.i64.wrap (1 + v1 - 2) = 1 + v1 - 2 := w64 (by omega) (by omega)
    rw [w1, w2]
    simp only [both_self']
    refine xW (c94 code a3 [50, 20, 100] (by decide) hc (by omega)) ?_
    rintro _ ⟨_, a4, rfl, p4, q4, v3, rfl, hv3⟩
    repeat first | (with_reducible refine xT ?_) | ((with_reducible refine xIg (n := ?_) ?_ ?_); rotate_left; exact rfl) | ((with_reducible refine xBg (n := ?_) ?_ ?_); rotate_left; exact rfl) | ((with_reducible refine xSg (n := ?_) ?_ ?_); rotate_left; exact rfl) | ((with_reducible refine xLg (n := ?_) (cs := ?_) ?_ ?_); rotate_left 2; exact rfl) | ((with_reducible refine xOg (n := ?_) (cs := ?_) ?_ ?_); rotate_left 2; exact rfl)
    have hv3 : 0 ≤ v3 ∧ v3 ≤ 100 := by simp at hv3; omega
    refine xD (fun h => ?_) (fun h => ?_)
    · refine xW (c40 code a4 2 hc (by omega)) ?_
      rintro _ ⟨_, a5, rfl, p5, q5, z, rfl⟩
      repeat first | (with_reducible refine xT ?_) | ((with_reducible refine xIg (n := ?_) ?_ ?_); rotate_left; exact rfl) | ((with_reducible refine xBg (n := ?_) ?_ ?_); rotate_left; exact rfl) | ((with_reducible refine xSg (n := ?_) ?_ ?_); rotate_left; exact rfl) | ((with_reducible refine xLg (n := ?_) (cs := ?_) ?_ ?_); rotate_left 2; exact rfl) | ((with_reducible refine xOg (n := ?_) (cs := ?_) ?_ ?_); rotate_left 2; exact rfl)
      cases z
      · refine xW (c40 code a5 8 hc (by omega)) ?_
        rintro _ ⟨_, a6, rfl, p6, q6, z, rfl⟩
        repeat first | (with_reducible refine xT ?_) | ((with_reducible refine xIg (n := ?_) ?_ ?_); rotate_left; exact rfl) | ((with_reducible refine xBg (n := ?_) ?_ ?_); rotate_left; exact rfl) | ((with_reducible refine xSg (n := ?_) ?_ ?_); rotate_left; exact rfl) | ((with_reducible refine xLg (n := ?_) (cs := ?_) ?_ ?_); rotate_left 2; exact rfl) | ((with_reducible refine xOg (n := ?_) (cs := ?_) ?_ ?_); rotate_left 2; exact rfl)
        cases z
        · exact ⟨_, rfl, _, a6, rfl, by omega, by omega, ⟨⟨1 + v1, v2, rt, b1, sg⟩, vs, v3, false, [rt], 1 + v1⟩, sd, ev, rfl, ⟨by dsimp only; omega, by dsimp only; omega, ⟨hrt, hb1, hsg⟩, ⟨hv.1, hv.2, hs⟩, by dsimp only; omega, ⟨by simp, by simp, by simp; omega⟩, by dsimp only; omega⟩, hd, ho⟩
        · exact ⟨_, rfl, _, a6, rfl, by omega, by omega, ⟨⟨1 + v1, v2, rt, b1, sg⟩, vs, v3, true, [rt], 1 + v1⟩, sd, ev, rfl, ⟨by dsimp only; omega, by dsimp only; omega, ⟨hrt, hb1, hsg⟩, ⟨hv.1, hv.2, hs⟩, by dsimp only; omega, ⟨by simp, by simp, by simp; omega⟩, by dsimp only; omega⟩, hd, ho⟩
      · refine xW (c70 code a5 32 hc (by omega) (by omega)) ?_
        rintro _ ⟨_, a7, rfl, p7, q7, b2, rfl, hb2⟩
        repeat first | (with_reducible refine xT ?_) | ((with_reducible refine xIg (n := ?_) ?_ ?_); rotate_left; exact rfl) | ((with_reducible refine xBg (n := ?_) ?_ ?_); rotate_left; exact rfl) | ((with_reducible refine xSg (n := ?_) ?_ ?_); rotate_left; exact rfl) | ((with_reducible refine xLg (n := ?_) (cs := ?_) ?_ ?_); rotate_left 2; exact rfl) | ((with_reducible refine xOg (n := ?_) (cs := ?_) ?_ ?_); rotate_left 2; exact rfl)
        refine xW (c40 code a7 8 hc (by omega)) ?_
        rintro _ ⟨_, a6, rfl, p6, q6, z, rfl⟩
        repeat first | (with_reducible refine xT ?_) | ((with_reducible refine xIg (n := ?_) ?_ ?_); rotate_left; exact rfl) | ((with_reducible refine xBg (n := ?_) ?_ ?_); rotate_left; exact rfl) | ((with_reducible refine xSg (n := ?_) ?_ ?_); rotate_left; exact rfl) | ((with_reducible refine xLg (n := ?_) (cs := ?_) ?_ ?_); rotate_left 2; exact rfl) | ((with_reducible refine xOg (n := ?_) (cs := ?_) ?_ ?_); rotate_left 2; exact rfl)
        cases z
        · exact ⟨_, rfl, _, a6, rfl, by omega, by omega, ⟨⟨1 + v1, v2, rt, b1, sg⟩, vs, v3, false, [b2, [], rt], 1 + v1 - 2⟩, sd, ev, rfl, ⟨by dsimp only; omega, by dsimp only; omega, ⟨hrt, hb1, hsg⟩, ⟨hv.1, hv.2, hs⟩, by dsimp only; omega, ⟨by simp, by simp, by simp; omega⟩, by dsimp only; omega⟩, hd, ho⟩
        · exact ⟨_, rfl, _, a6, rfl, by omega, by omega, ⟨⟨1 + v1, v2, rt, b1, sg⟩, vs, v3, true, [b2, [], rt], 1 + v1 - 2⟩, sd, ev, rfl, ⟨by dsimp only; omega, by dsimp only; omega, ⟨hrt, hb1, hsg⟩, ⟨hv.1, hv.2, hs⟩, by dsimp only; omega, ⟨by simp, by simp, by simp; omega⟩, by dsimp only; omega⟩, hd, ho⟩
    · refine xW (c40 code a4 8 hc (by omega)) ?_
      rintro _ ⟨_, a6, rfl, p6, q6, z, rfl⟩
      repeat first | (with_reducible refine xT ?_) | ((with_reducible refine xIg (n := ?_) ?_ ?_); rotate_left; exact rfl) | ((with_reducible refine xBg (n := ?_) ?_ ?_); rotate_left; exact rfl) | ((with_reducible refine xSg (n := ?_) ?_ ?_); rotate_left; exact rfl) | ((with_reducible refine xLg (n := ?_) (cs := ?_) ?_ ?_); rotate_left 2; exact rfl) | ((with_reducible refine xOg (n := ?_) (cs := ?_) ?_ ?_); rotate_left 2; exact rfl)
      cases z
      · exact ⟨_, rfl, _, a6, rfl, by omega, by omega, ⟨⟨1 + v1, v2, rt, b1, sg⟩, vs, v3, false, [rt], 1 + v1⟩, sd, ev, rfl, ⟨by dsimp only; omega, by dsimp only; omega, ⟨hrt, hb1, hsg⟩, ⟨hv.1, hv.2, hs⟩, by dsimp only; omega, ⟨by simp, by simp, by simp; omega⟩, by dsimp only; omega⟩, hd, ho⟩
      · exact ⟨_, rfl, _, a6, rfl, by omega, by omega, ⟨⟨1 + v1, v2, rt, b1, sg⟩, vs, v3, true, [rt], 1 + v1⟩, sd, ev, rfl, ⟨by dsimp only; omega, by dsimp only; omega, ⟨hrt, hb1, hsg⟩, ⟨hv.1, hv.2, hs⟩, by dsimp only; omega, ⟨by simp, by simp, by simp; omega⟩, by dsimp only; omega⟩, hd, ho⟩
  | succ m ih =>
    intro a ev h1 h2 h3
    unfold src
    refine Ex.run (fun h => E66l1 _ _ _ _ _ _ _ _ _ _ _ _ _ _ _ _ _ _ _ _ _ _ _ _ _ _ _ _ _ h) ?_
    unfold T66l1
    refine xD (fun h => ?_) (fun h => by omega)
    refine xW (c41 code a 4 hc (by omega)) ?_
    rintro _ ⟨_, a1, rfl, pa1, qa1, v1, rfl, hv10, hv11, _⟩
    repeat first | (with_reducible refine xT ?_) | ((with_reducible refine xIg (n := ?_) ?_ ?_); rotate_left; exact rfl) | ((with_reducible refine xBg (n := ?_) ?_ ?_); rotate_left; exact rfl) | ((with_reducible refine xSg (n := ?_) ?_ ?_); rotate_left; exact rfl) | ((with_reducible refine xLg (n := ?_) (cs := ?_) ?_ ?_); rotate_left 2; exact rfl) | ((with_reducible refine xOg (n := ?_) (cs := ?_) ?_ ?_); rotate_left 2; exact rfl)
    have hv11 := hv11 (by omega)
    obtain ⟨j, rfl⟩ := Int.eq_ofNat_of_zero_le hv10
    have w1 : IntKind.i64.wrap (1 + (j : Int)) = ((1 + j : Nat) : Int) := by rw [w64 (by omega) (by omega)]; omega
    rw [w1]
    refine xW (c70 code a1 (1 + j) hc (by omega) (by omega)) ?_
    rintro _ ⟨_, a2, rfl, pa2, qa2, b1, rfl, hb1⟩
    repeat first | (with_reducible refine xT ?_) | ((with_reducible refine xIg (n := ?_) ?_ ?_); rotate_left; exact rfl) | ((with_reducible refine xBg (n := ?_) ?_ ?_); rotate_left; exact rfl) | ((with_reducible refine xSg (n := ?_) ?_ ?_); rotate_left; exact rfl) | ((with_reducible refine xLg (n := ?_) (cs := ?_) ?_ ?_); rotate_left 2; exact rfl) | ((with_reducible refine xOg (n := ?_) (cs := ?_) ?_ ?_); rotate_left 2; exact rfl)
    refine xM (by simp only [Bool.true_and, ble_dec, Bool.and_eq_true, decide_eq_true_eq]; omega) ?_
    have w : IntKind.i64.wrap (((m + 1 : Nat) : Int) - 1) = (m : Int) := by rw [w64 (by omega) (by omega)]; omega
    have k := ih a2 (ev ++ [b1]) (by simp; omega) (fun b hb => by
      rcases List.mem_append.1 hb with k | k
      · exact h2 b k
      · simp at k; subst k; omega) (by omega)
    rw [List.length_append, List.length_singleton] at k
    rw [w, show psS ev ++ [V.sl b1.length (bytesV b1)] = psS (ev ++ [b1]) by simp [psS, bS]]
    refine Ex.mono k ?_
    rintro _ ⟨l, a3, rfl, z1, z2, z3⟩
    exact ⟨_, a3, rfl, by omega, by omega, z3⟩
theorem c66 (code : List UInt8) (a : Nat) (hc : code.length ≤ 1099511627776) (ha : a + 500 < 1099511000000) :
    Ex (Drew code a 300 fun r => ∃ (t : Tr) (sd ev : List (List UInt8)), r = [V.int .i64 t.hd.hgt, V.int .i64 t.hd.tim, V.sl t.hd.root.length (bytesV t.hd.root), V.sl t.hd.set.length (bytesV t.hd.set), V.sl t.hd.nxt.length (bytesV t.hd.nxt), V.sl t.nx.length (vsS t.nx), V.int .i64 t.per, V.bool t.pau, V.sl t.roots.length (psS t.roots), V.int .i64 t.frm, V.sl sd.length (psS sd), V.sl ev.length (psS ev)] ∧ okT t ∧ sd.length = t.nx.length ∧ okD sd) (runWE C 66 [] [.ptr 0 0] [src code a]) := by
  unfold src
  refine Ex.run (fun h => E66 _ _ _ h) ?_
  unfold T66
  refine xW (c41 code a 3 hc (by omega)) ?_
  rintro _ ⟨_, a1, rfl, pa1, qa1, v1, rfl, hv10, hv11, _⟩
  repeat first | (with_reducible refine xT ?_) | ((with_reducible refine xIg (n := ?_) ?_ ?_); rotate_left; exact rfl) | ((with_reducible refine xBg (n := ?_) ?_ ?_); rotate_left; exact rfl) | ((with_reducible refine xSg (n := ?_) ?_ ?_); rotate_left; exact rfl) | ((with_reducible refine xLg (n := ?_) (cs := ?_) ?_ ?_); rotate_left 2; exact rfl) | ((with_reducible refine xOg (n := ?_) (cs := ?_) ?_ ?_); rotate_left 2; exact rfl)
  have hv11 := hv11 (by omega)
  obtain ⟨j, rfl⟩ := Int.eq_ofNat_of_zero_le hv10
  have w1 : IntKind.i64.wrap (1 + (j : Int)) = ((1 + j : Nat) : Int) := by rw [w64 (by omega) (by omega)]; omega
  rw [w1]
  refine xW (c67 code a1 (1 + j) 0 hc (by omega) (by omega) (by omega)) ?_
  rintro _ ⟨_, a2, rfl, p2, q2, sd, vs, rfl, hd, hv, ho, hs⟩
  repeat first | (with_reducible refine xT ?_) | ((with_reducible refine xIg (n := ?_) ?_ ?_); rotate_left; exact rfl) | ((with_reducible refine xBg (n := ?_) ?_ ?_); rotate_left; exact rfl) | ((with_reducible refine xSg (n := ?_) ?_ ?_); rotate_left; exact rfl) | ((with_reducible refine xLg (n := ?_) (cs := ?_) ?_ ?_); rotate_left 2; exact rfl) | ((with_reducible refine xOg (n := ?_) (cs := ?_) ?_ ?_); rotate_left 2; exact rfl)
  refine xW (c41 code a2 4 hc (by omega)) ?_
  rintro _ ⟨_, a3, rfl, pa3, qa3, v3, rfl, hv30, hv31, _⟩
  repeat first | (with_reducible refine xT ?_) | ((with_reducible refine xIg (n := ?_) ?_ ?_); rotate_left; exact rfl) | ((with_reducible refine xBg (n := ?_) ?_ ?_); rotate_left; exact rfl) | ((with_reducible refine xSg (n := ?_) ?_ ?_); rotate_left; exact rfl) | ((with_reducible refine xLg (n := ?_) (cs := ?_) ?_ ?_); rotate_left 2; exact rfl) | ((with_reducible refine xOg (n := ?_) (cs := ?_) ?_ ?_); rotate_left 2; exact rfl)
  have hv31 := hv31 (by omega)
  obtain ⟨k, rfl⟩ := Int.eq_ofNat_of_zero_le hv30
  refine Ex.mono (l66 code hc sd vs (by omega) (by omega) ho hs k a3 [] (by simp; omega) (by simp) (by omega)) ?_
  rintro _ ⟨l, a4, rfl, z1, z2, z3⟩
  exact ⟨_, a4, rfl, by omega, by omega, z3⟩
theorem c73 (code : List UInt8) (a : Nat) (t : Tr) (x : HB) (vs : List Vt) (hc : code.length ≤ 1099511627776) (ha : a + 100 < 1099511000000) :
    Ex (Drew code a 1 fun r => ∃ v : Int, r = [.int .i64 v]) (runWE C 73 [] [.ptr 0 0, .agg [.int .i64 t.hd.hgt, .int .i64 t.hd.tim, .sl t.hd.root.length (bytesV t.hd.root), .sl t.hd.set.length (bytesV t.hd.set), .sl t.hd.nxt.length (bytesV t.hd.nxt), .sl t.nx.length (vsS t.nx), .int .i64 t.per, .bool t.pau, .sl t.roots.length (psS t.roots), .int .i64 t.frm], .agg [.int .i64 x.hgt, .int .i64 x.tim, .sl x.root.length (bytesV x.root), .sl x.set.length (bytesV x.set), .sl x.nxt.length (bytesV x.nxt), .sl vs.length (vtsS vs)]] [src code a]) := by
  unfold src
  refine Ex.run (fun h => E73 _ _ _ _ _ _ _ _ _ _ _ _ _ _ _ _ _ _ _ _ _ _ _ _ _ _ _ _ h) ?_
  unfold T73
  refine xW (c94 code a [x.tim, IntKind.i64.wrap (x.tim + 2), IntKind.i64.wrap (x.tim + 2), IntKind.i64.wrap (t.hd.tim + t.per), IntKind.i64.wrap (IntKind.i64.wrap (t.hd.tim + t.per) + 1), IntKind.i64.wrap (x.tim - 1), -1] (by simp) hc (by omega)) ?_
  rintro _ ⟨_, a2, rfl, p2, q2, v2, rfl, _⟩
  repeat first | (with_reducible refine xT ?_) | ((with_reducible refine xIg (n := ?_) ?_ ?_); rotate_left; exact rfl) | ((with_reducible refine xBg (n := ?_) ?_ ?_); rotate_left; exact rfl) | ((with_reducible refine xSg (n := ?_) ?_ ?_); rotate_left; exact rfl) | ((with_reducible refine xLg (n := ?_) (cs := ?_) ?_ ?_); rotate_left 2; exact rfl) | ((with_reducible refine xOg (n := ?_) (cs := ?_) ?_ ?_); rotate_left 2; exact rfl)
  exact ⟨_, rfl, _, a2, rfl, by omega, by omega, v2, rfl⟩
theorem c93 (code : List UInt8) (a : Nat) (t : Tr) (se ev : List (List UInt8)) (hgt : Int) (l : List Vd) (sd : List (List UInt8)) (hc : code.length ≤ 1099511627776) (ha : a + 300 < 1099511000000) (ht : 0 ≤ t.hd.tim ∧ t.hd.tim ≤ 100) (hh : 1 ≤ hgt ∧ hgt ≤ 1000) (hl : 1 ≤ l.length ∧ l.length ≤ 3) (hs : okS l) (hd : sd.length ≤ 5) (ho : okD sd) :
    Ex (Drew code a 200 fun r => ∃ (x : HB) (us : List Vt) (p : List Vd), r = [V.int .i64 x.hgt, V.int .i64 x.tim, V.sl x.root.length (bytesV x.root), V.sl x.set.length (bytesV x.set), V.sl x.nxt.length (bytesV x.nxt), V.sl us.length (vtsS us), V.sl p.length (vsS p)] ∧ fitH x ∧ vtsfit us ∧ fitV p) (runWE C 93 [] [.ptr 0 0, .agg [.int .i64 t.hd.hgt, .int .i64 t.hd.tim, .sl t.hd.root.length (bytesV t.hd.root), .sl t.hd.set.length (bytesV t.hd.set), .sl t.hd.nxt.length (bytesV t.hd.nxt), .sl t.nx.length (vsS t.nx), .int .i64 t.per, .bool t.pau, .sl t.roots.length (psS t.roots), .int .i64 t.frm, .sl se.length (psS se), .sl ev.length (psS ev)], .int .i64 hgt, .sl l.length (vsS l), .sl sd.length (psS sd)] [src code a]) := by
  unfold src
  refine Ex.run (fun h => E93 _ _ _ _ _ _ _ _ _ _ _ _ _ _ _ _ _ _ _ _ _ _ _ _ _ _ _ h) ?_
  unfold T93
  refine xW (c40 code a 4 hc (by omega)) ?_
  rintro _ ⟨_, a1, rfl, p0, q0, z, rfl⟩
  repeat first | (with_reducible refine xT ?_) | ((with_reducible refine xIg (n := ?_) ?_ ?_); rotate_left; exact rfl) | ((with_reducible refine xBg (n := ?_) ?_ ?_); rotate_left; exact rfl) | ((with_reducible refine xSg (n := ?_) ?_ ?_); rotate_left; exact rfl) | ((with_reducible refine xLg (n := ?_) (cs := ?_) ?_ ?_); rotate_left 2; exact rfl) | ((with_reducible refine xOg (n := ?_) (cs := ?_) ?_ ?_); rotate_left 2; exact rfl)
  cases z
  · refine xW (c41 code a1 30 hc (by omega)) ?_
    rintro _ ⟨_, b1, rfl, p1, q1, v0, rfl, hv00, hv01, _⟩
    repeat first | (with_reducible refine xT ?_) | ((with_reducible refine xIg (n := ?_) ?_ ?_); rotate_left; exact rfl) | ((with_reducible refine xBg (n := ?_) ?_ ?_); rotate_left; exact rfl) | ((with_reducible refine xSg (n := ?_) ?_ ?_); rotate_left; exact rfl) | ((with_reducible refine xLg (n := ?_) (cs := ?_) ?_ ?_); rotate_left 2; exact rfl) | ((with_reducible refine xOg (n := ?_) (cs := ?_) ?_ ?_); rotate_left 2; exact rfl)
    have hv01 := hv01 (by omega)
    refine xW (c94 code b1 [1, 3, 0, v0] (by simp) hc (by omega)) ?_
    rintro _ ⟨_, b2, rfl, p2, q2, v, rfl, hv⟩
    repeat first | (with_reducible refine xT ?_) | ((with_reducible refine xIg (n := ?_) ?_ ?_); rotate_left; exact rfl) | ((with_reducible refine xBg (n := ?_) ?_ ?_); rotate_left; exact rfl) | ((with_reducible refine xSg (n := ?_) ?_ ?_); rotate_left; exact rfl) | ((with_reducible refine xLg (n := ?_) (cs := ?_) ?_ ?_); rotate_left 2; exact rfl) | ((with_reducible refine xOg (n := ?_) (cs := ?_) ?_ ?_); rotate_left 2; exact rfl)
    have hv : 0 ≤ v ∧ v ≤ 30 := by simp at hv; omega
    have kr := c68 0 [] rfl (by omega) (by simp)
    rw [← root_length []] at kr
    have hrt := root_length []
    generalize root [] = rt at kr hrt
    refine xN kr ?_
    repeat first | (with_reducible refine xT ?_) | ((with_reducible refine xIg (n := ?_) ?_ ?_); rotate_left; exact rfl) | ((with_reducible refine xBg (n := ?_) ?_ ?_); rotate_left; exact rfl) | ((with_reducible refine xSg (n := ?_) ?_ ?_); rotate_left; exact rfl) | ((with_reducible refine xLg (n := ?_) (cs := ?_) ?_ ?_); rotate_left 2; exact rfl) | ((with_reducible refine xOg (n := ?_) (cs := ?_) ?_ ?_); rotate_left 2; exact rfl)
    have kd := c69 l (okS_small hl.2 hs)
    rw [← setDig_length l] at kd
    have hgs := setDig_length l
    refine xN kd ?_
    repeat first | (with_reducible refine xT ?_) | ((with_reducible refine xIg (n := ?_) ?_ ?_); rotate_left; exact rfl) | ((with_reducible refine xBg (n := ?_) ?_ ?_); rotate_left; exact rfl) | ((with_reducible refine xSg (n := ?_) ?_ ?_); rotate_left; exact rfl) | ((with_reducible refine xLg (n := ?_) (cs := ?_) ?_ ?_); rotate_left 2; exact rfl) | ((with_reducible refine xOg (n := ?_) (cs := ?_) ?_ ?_); rotate_left 2; exact rfl)
    have ke := c69 l (okS_small hl.2 hs)
    rw [← setDig_length l] at ke
    have q : True := trivial
    refine xN ke ?_
    repeat first | (with_reducible refine xT ?_) | ((with_reducible refine xIg (n := ?_) ?_ ?_); rotate_left; exact rfl) | ((with_reducible refine xBg (n := ?_) ?_ ?_); rotate_left; exact rfl) | ((with_reducible refine xSg (n := ?_) ?_ ?_); rotate_left; exact rfl) | ((with_reducible refine xLg (n := ?_) (cs := ?_) ?_ ?_); rotate_left 2; exact rfl) | ((with_reducible refine xOg (n := ?_) (cs := ?_) ?_ ?_); rotate_left 2; exact rfl)
    generalize setDig l = gs at hgs
    refine xW (c72 code b2 sd.length hc (by omega) (by omega)) ?_
    rintro _ ⟨_, b3, rfl, p3, q3, pl, rfl, hpl, hpl2⟩
    repeat first | (with_reducible refine xT ?_) | ((with_reducible refine xIg (n := ?_) ?_ ?_); rotate_left; exact rfl) | ((with_reducible refine xBg (n := ?_) ?_ ?_); rotate_left; exact rfl) | ((with_reducible refine xSg (n := ?_) ?_ ?_); rotate_left; exact rfl) | ((with_reducible refine xLg (n := ?_) (cs := ?_) ?_ ?_); rotate_left 2; exact rfl) | ((with_reducible refine xOg (n := ?_) (cs := ?_) ?_ ?_); rotate_left 2; exact rfl)
    refine xW (c41 code b3 4 hc (by omega)) ?_
    rintro _ ⟨_, b4, rfl, p4, q4, lf, rfl, hlf0, hlf1, _⟩
    repeat first | (with_reducible refine xT ?_) | ((with_reducible refine xIg (n := ?_) ?_ ?_); rotate_left; exact rfl) | ((with_reducible refine xBg (n := ?_) ?_ ?_); rotate_left; exact rfl) | ((with_reducible refine xSg (n := ?_) ?_ ?_); rotate_left; exact rfl) | ((with_reducible refine xLg (n := ?_) (cs := ?_) ?_ ?_); rotate_left 2; exact rfl) | ((with_reducible refine xOg (n := ?_) (cs := ?_) ?_ ?_); rotate_left 2; exact rfl)
    have hlf1 := hlf1 (by omega)
    obtain ⟨lf, rfl⟩ := Int.eq_ofNat_of_zero_le hlf0
    have w5 : IntKind.i64.wrap (t.hd.tim + v) = t.hd.tim + v := w64 (by omega) (by omega)
    rw [w5]
    refine xN (c71 sd lf ⟨hgt, t.hd.tim + v, rt, gs, gs⟩ (by unfold hbFault; rw [if_neg (by simp only [Classical.not_not]; exact ⟨hrt, hgs, hgs⟩), if_neg (by simp only [Classical.not_not]; omega)]) (by omega) (by simp only [Bool.not_eq_true, List.any_eq_false]; intro b hb; have := ho b hb; unfold long; simp; omega) (by omega) pl (by omega) hpl2) ?_
    repeat first | (with_reducible refine xT ?_) | ((with_reducible refine xIg (n := ?_) ?_ ?_); rotate_left; exact rfl) | ((with_reducible refine xBg (n := ?_) ?_ ?_); rotate_left; exact rfl) | ((with_reducible refine xSg (n := ?_) ?_ ?_); rotate_left; exact rfl) | ((with_reducible refine xLg (n := ?_) (cs := ?_) ?_ ?_); rotate_left 2; exact rfl) | ((with_reducible refine xOg (n := ?_) (cs := ?_) ?_ ?_); rotate_left 2; exact rfl)
    have hvf := votes_fit sd (lf : Int) (hbDig ⟨hgt, t.hd.tim + v, rt, gs, gs⟩) pl
    have hvl : (pl.map (vote sd (lf : Int) (hbDig ⟨hgt, t.hd.tim + v, rt, gs, gs⟩))).length = pl.length := List.length_map _
    generalize pl.map (vote sd (lf : Int) (hbDig ⟨hgt, t.hd.tim + v, rt, gs, gs⟩)) = us at hvf hvl
    try simp only [vts_bare]
    refine xW (c40 code b4 12 hc (by omega)) ?_
    rintro _ ⟨_, b5, rfl, p5, q5, z, rfl⟩
    repeat first | (with_reducible refine xT ?_) | ((with_reducible refine xIg (n := ?_) ?_ ?_); rotate_left; exact rfl) | ((with_reducible refine xBg (n := ?_) ?_ ?_); rotate_left; exact rfl) | ((with_reducible refine xSg (n := ?_) ?_ ?_); rotate_left; exact rfl) | ((with_reducible refine xLg (n := ?_) (cs := ?_) ?_ ?_); rotate_left 2; exact rfl) | ((with_reducible refine xOg (n := ?_) (cs := ?_) ?_ ?_); rotate_left 2; exact rfl)
    have hvt : vtsfit us := ⟨by omega, by omega, by omega⟩
    cases z
    · refine xW (c40 code b5 14 hc (by omega)) ?_
      rintro _ ⟨_, b6, rfl, p6, q6, z, rfl⟩
      repeat first | (with_reducible refine xT ?_) | ((with_reducible refine xIg (n := ?_) ?_ ?_); rotate_left; exact rfl) | ((with_reducible refine xBg (n := ?_) ?_ ?_); rotate_left; exact rfl) | ((with_reducible refine xSg (n := ?_) ?_ ?_); rotate_left; exact rfl) | ((with_reducible refine xLg (n := ?_) (cs := ?_) ?_ ?_); rotate_left 2; exact rfl) | ((with_reducible refine xOg (n := ?_) (cs := ?_) ?_ ?_); rotate_left 2; exact rfl)
      cases z
      · exact ⟨_, rfl, _, b6, rfl, by omega, by omega, ⟨hgt, t.hd.tim + v, rt, gs, gs⟩, us, l, rfl, by unfold fitH szH; dsimp only; omega, hvt, okS_fit hl.2 hs⟩
      · refine xW (c163 code b6 l hc (by omega) hl hs) ?_
        rintro _ ⟨_, b7, rfl, p7, q7, pn, rfl, hpn⟩
        repeat first | (with_reducible refine xT ?_) | ((with_reducible refine xIg (n := ?_) ?_ ?_); rotate_left; exact rfl) | ((with_reducible refine xBg (n := ?_) ?_ ?_); rotate_left; exact rfl) | ((with_reducible refine xSg (n := ?_) ?_ ?_); rotate_left; exact rfl) | ((with_reducible refine xLg (n := ?_) (cs := ?_) ?_ ?_); rotate_left 2; exact rfl) | ((with_reducible refine xOg (n := ?_) (cs := ?_) ?_ ?_); rotate_left 2; exact rfl)
        exact ⟨_, rfl, _, b7, rfl, by omega, by omega, ⟨hgt, t.hd.tim + v, rt, gs, gs⟩, us, pn, rfl, by unfold fitH szH; dsimp only; omega, hvt, hpn⟩
    · refine xW (c40 code b5 14 hc (by omega)) ?_
      rintro _ ⟨_, b6, rfl, p6, q6, z, rfl⟩
      repeat first | (with_reducible refine xT ?_) | ((with_reducible refine xIg (n := ?_) ?_ ?_); rotate_left; exact rfl) | ((with_reducible refine xBg (n := ?_) ?_ ?_); rotate_left; exact rfl) | ((with_reducible refine xSg (n := ?_) ?_ ?_); rotate_left; exact rfl) | ((with_reducible refine xLg (n := ?_) (cs := ?_) ?_ ?_); rotate_left 2; exact rfl) | ((with_reducible refine xOg (n := ?_) (cs := ?_) ?_ ?_); rotate_left 2; exact rfl)
      cases z
      · exact ⟨_, rfl, _, b6, rfl, by omega, by omega, ⟨hgt, IntKind.i64.wrap (t.hd.tim + v + 1), rt, gs, gs⟩, us, l, rfl, by unfold fitH szH; dsimp only; omega, hvt, okS_fit hl.2 hs⟩
      · refine xW (c163 code b6 l hc (by omega) hl hs) ?_
        rintro _ ⟨_, b7, rfl, p7, q7, pn, rfl, hpn⟩
        repeat first | (with_reducible refine xT ?_) | ((with_reducible refine xIg (n := ?_) ?_ ?_); rotate_left; exact rfl) | ((with_reducible refine xBg (n := ?_) ?_ ?_); rotate_left; exact rfl) | ((with_reducible refine xSg (n := ?_) ?_ ?_); rotate_left; exact rfl) | ((with_reducible refine xLg (n := ?_) (cs := ?_) ?_ ?_); rotate_left 2; exact rfl) | ((with_reducible refine xOg (n := ?_) (cs := ?_) ?_ ?_); rotate_left 2; exact rfl)
        exact ⟨_, rfl, _, b7, rfl, by omega, by omega, ⟨hgt, IntKind.i64.wrap (t.hd.tim + v + 1), rt, gs, gs⟩, us, pn, rfl, by unfold fitH szH; dsimp only; omega, hvt, hpn⟩
  · refine xW (c41 code a1 3 hc (by omega)) ?_
    rintro _ ⟨_, a2, rfl, p8, q8, j, rfl, hj0, hj1, _⟩
    repeat first | (with_reducible refine xT ?_) | ((with_reducible refine xIg (n := ?_) ?_ ?_); rotate_left; exact rfl) | ((with_reducible refine xBg (n := ?_) ?_ ?_); rotate_left; exact rfl) | ((with_reducible refine xSg (n := ?_) ?_ ?_); rotate_left; exact rfl) | ((with_reducible refine xLg (n := ?_) (cs := ?_) ?_ ?_); rotate_left 2; exact rfl) | ((with_reducible refine xOg (n := ?_) (cs := ?_) ?_ ?_); rotate_left 2; exact rfl)
    have hj1 := hj1 (by omega)
    obtain ⟨j, rfl⟩ := Int.eq_ofNat_of_zero_le hj0
    have wj : IntKind.i64.wrap (1 + (j : Int)) = ((1 + j : Nat) : Int) := by rw [w64 (by omega) (by omega)]; omega
    rw [wj]
    refine xW (c67 code a2 (1 + j) 1 hc (by omega) (by omega) (by omega)) ?_
    rintro _ ⟨_, a3, rfl, p9, q9, sn', n, rfl, hsn', hn, hn2, hN⟩
    repeat first | (with_reducible refine xT ?_) | ((with_reducible refine xIg (n := ?_) ?_ ?_); rotate_left; exact rfl) | ((with_reducible refine xBg (n := ?_) ?_ ?_); rotate_left; exact rfl) | ((with_reducible refine xSg (n := ?_) ?_ ?_); rotate_left; exact rfl) | ((with_reducible refine xLg (n := ?_) (cs := ?_) ?_ ?_); rotate_left 2; exact rfl) | ((with_reducible refine xOg (n := ?_) (cs := ?_) ?_ ?_); rotate_left 2; exact rfl)
    have hn : 1 ≤ n.length ∧ n.length ≤ 3 := by omega
    refine xW (c41 code a3 30 hc (by omega)) ?_
    rintro _ ⟨_, b1, rfl, p1, q1, v0, rfl, hv00, hv01, _⟩
    repeat first | (with_reducible refine xT ?_) | ((with_reducible refine xIg (n := ?_) ?_ ?_); rotate_left; exact rfl) | ((with_reducible refine xBg (n := ?_) ?_ ?_); rotate_left; exact rfl) | ((with_reducible refine xSg (n := ?_) ?_ ?_); rotate_left; exact rfl) | ((with_reducible refine xLg (n := ?_) (cs := ?_) ?_ ?_); rotate_left 2; exact rfl) | ((with_reducible refine xOg (n := ?_) (cs := ?_) ?_ ?_); rotate_left 2; exact rfl)
    have hv01 := hv01 (by omega)
    refine xW (c94 code b1 [1, 3, 0, v0] (by simp) hc (by omega)) ?_
    rintro _ ⟨_, b2, rfl, p2, q2, v, rfl, hv⟩
    repeat first | (with_reducible refine xT ?_) | ((with_reducible refine xIg (n := ?_) ?_ ?_); rotate_left; exact rfl) | ((with_reducible refine xBg (n := ?_) ?_ ?_); rotate_left; exact rfl) | ((with_reducible refine xSg (n := ?_) ?_ ?_); rotate_left; exact rfl) | ((with_reducible refine xLg (n := ?_) (cs := ?_) ?_ ?_); rotate_left 2; exact rfl) | ((with_reducible refine xOg (n := ?_) (cs := ?_) ?_ ?_); rotate_left 2; exact rfl)
    have hv : 0 ≤ v ∧ v ≤ 30 := by simp at hv; omega
    have kr := c68 0 [] rfl (by omega) (by simp)
    rw [← root_length []] at kr
    have hrt := root_length []
    generalize root [] = rt at kr hrt
    refine xN kr ?_
    repeat first | (with_reducible refine xT ?_) | ((with_reducible refine xIg (n := ?_) ?_ ?_); rotate_left; exact rfl) | ((with_reducible refine xBg (n := ?_) ?_ ?_); rotate_left; exact rfl) | ((with_reducible refine xSg (n := ?_) ?_ ?_); rotate_left; exact rfl) | ((with_reducible refine xLg (n := ?_) (cs := ?_) ?_ ?_); rotate_left 2; exact rfl) | ((with_reducible refine xOg (n := ?_) (cs := ?_) ?_ ?_); rotate_left 2; exact rfl)
    have kd := c69 l (okS_small hl.2 hs)
    rw [← setDig_length l] at kd
    have hgs := setDig_length l
    refine xN kd ?_
    repeat first | (with_reducible refine xT ?_) | ((with_reducible refine xIg (n := ?_) ?_ ?_); rotate_left; exact rfl) | ((with_reducible refine xBg (n := ?_) ?_ ?_); rotate_left; exact rfl) | ((with_reducible refine xSg (n := ?_) ?_ ?_); rotate_left; exact rfl) | ((with_reducible refine xLg (n := ?_) (cs := ?_) ?_ ?_); rotate_left 2; exact rfl) | ((with_reducible refine xOg (n := ?_) (cs := ?_) ?_ ?_); rotate_left 2; exact rfl)
    have ke := c69 n (okS_small hn.2 hN)
    rw [← setDig_length n] at ke
    have hgn := setDig_length n
    refine xN ke ?_
    repeat first | (with_reducible refine xT ?_) | ((with_reducible refine xIg (n := ?_) ?_ ?_); rotate_left; exact rfl) | ((with_reducible refine xBg (n := ?_) ?_ ?_); rotate_left; exact rfl) | ((with_reducible refine xSg (n := ?_) ?_ ?_); rotate_left; exact rfl) | ((with_reducible refine xLg (n := ?_) (cs := ?_) ?_ ?_); rotate_left 2; exact rfl) | ((with_reducible refine xOg (n := ?_) (cs := ?_) ?_ ?_); rotate_left 2; exact rfl)
    generalize setDig l = gs at hgs
    generalize setDig n = gn at hgn
    refine xW (c72 code b2 sd.length hc (by omega) (by omega)) ?_
    rintro _ ⟨_, b3, rfl, p3, q3, pl, rfl, hpl, hpl2⟩
    repeat first | (with_reducible refine xT ?_) | ((with_reducible refine xIg (n := ?_) ?_ ?_); rotate_left; exact rfl) | ((with_reducible refine xBg (n := ?_) ?_ ?_); rotate_left; exact rfl) | ((with_reducible refine xSg (n := ?_) ?_ ?_); rotate_left; exact rfl) | ((with_reducible refine xLg (n := ?_) (cs := ?_) ?_ ?_); rotate_left 2; exact rfl) | ((with_reducible refine xOg (n := ?_) (cs := ?_) ?_ ?_); rotate_left 2; exact rfl)
    refine xW (c41 code b3 4 hc (by omega)) ?_
    rintro _ ⟨_, b4, rfl, p4, q4, lf, rfl, hlf0, hlf1, _⟩
    repeat first | (with_reducible refine xT ?_) | ((with_reducible refine xIg (n := ?_) ?_ ?_); rotate_left; exact rfl) | ((with_reducible refine xBg (n := ?_) ?_ ?_); rotate_left; exact rfl) | ((with_reducible refine xSg (n := ?_) ?_ ?_); rotate_left; exact rfl) | ((with_reducible refine xLg (n := ?_) (cs := ?_) ?_ ?_); rotate_left 2; exact rfl) | ((with_reducible refine xOg (n := ?_) (cs := ?_) ?_ ?_); rotate_left 2; exact rfl)
    have hlf1 := hlf1 (by omega)
    obtain ⟨lf, rfl⟩ := Int.eq_ofNat_of_zero_le hlf0
    have w5 : IntKind.i64.wrap (t.hd.tim + v) = t.hd.tim + v := w64 (by omega) (by omega)
    rw [w5]
    refine xN (c71 sd lf ⟨hgt, t.hd.tim + v, rt, gs, gn⟩ (by unfold hbFault; rw [if_neg (by simp only [Classical.not_not]; exact ⟨hrt, hgs, hgn⟩), if_neg (by simp only [Classical.not_not]; omega)]) (by omega) (by simp only [Bool.not_eq_true, List.any_eq_false]; intro b hb; have := ho b hb; unfold long; simp; omega) (by omega) pl (by omega) hpl2) ?_
    repeat first | (with_reducible refine xT ?_) | ((with_reducible refine xIg (n := ?_) ?_ ?_); rotate_left; exact rfl) | ((with_reducible refine xBg (n := ?_) ?_ ?_); rotate_left; exact rfl) | ((with_reducible refine xSg (n := ?_) ?_ ?_); rotate_left; exact rfl) | ((with_reducible refine xLg (n := ?_) (cs := ?_) ?_ ?_); rotate_left 2; exact rfl) | ((with_reducible refine xOg (n := ?_) (cs := ?_) ?_ ?_); rotate_left 2; exact rfl)
    have hvf := votes_fit sd (lf : Int) (hbDig ⟨hgt, t.hd.tim + v, rt, gs, gn⟩) pl
    have hvl : (pl.map (vote sd (lf : Int) (hbDig ⟨hgt, t.hd.tim + v, rt, gs, gn⟩))).length = pl.length := List.length_map _
    generalize pl.map (vote sd (lf : Int) (hbDig ⟨hgt, t.hd.tim + v, rt, gs, gn⟩)) = us at hvf hvl
    try simp only [vts_bare]
    refine xW (c40 code b4 12 hc (by omega)) ?_
    rintro _ ⟨_, b5, rfl, p5, q5, z, rfl⟩
    repeat first | (with_reducible refine xT ?_) | ((with_reducible refine xIg (n := ?_) ?_ ?_); rotate_left; exact rfl) | ((with_reducible refine xBg (n := ?_) ?_ ?_); rotate_left; exact rfl) | ((with_reducible refine xSg (n := ?_) ?_ ?_); rotate_left; exact rfl) | ((with_reducible refine xLg (n := ?_) (cs := ?_) ?_ ?_); rotate_left 2; exact rfl) | ((with_reducible refine xOg (n := ?_) (cs := ?_) ?_ ?_); rotate_left 2; exact rfl)
    have hvt : vtsfit us := ⟨by omega, by omega, by omega⟩
    cases z
    · refine xW (c40 code b5 14 hc (by omega)) ?_
      rintro _ ⟨_, b6, rfl, p6, q6, z, rfl⟩
      repeat first | (with_reducible refine xT ?_) | ((with_reducible refine xIg (n := ?_) ?_ ?_); rotate_left; exact rfl) | ((with_reducible refine xBg (n := ?_) ?_ ?_); rotate_left; exact rfl) | ((with_reducible refine xSg (n := ?_) ?_ ?_); rotate_left; exact rfl) | ((with_reducible refine xLg (n := ?_) (cs := ?_) ?_ ?_); rotate_left 2; exact rfl) | ((with_reducible refine xOg (n := ?_) (cs := ?_) ?_ ?_); rotate_left 2; exact rfl)
      cases z
      · exact ⟨_, rfl, _, b6, rfl, by omega, by omega, ⟨hgt, t.hd.tim + v, rt, gs, gn⟩, us, n, rfl, by unfold fitH szH; dsimp only; omega, hvt, okS_fit hn.2 hN⟩
      · refine xW (c163 code b6 n hc (by omega) hn hN) ?_
        rintro _ ⟨_, b7, rfl, p7, q7, pn, rfl, hpn⟩
        repeat first | (with_reducible refine xT ?_) | ((with_reducible refine xIg (n := ?_) ?_ ?_); rotate_left; exact rfl) | ((with_reducible refine xBg (n := ?_) ?_ ?_); rotate_left; exact rfl) | ((with_reducible refine xSg (n := ?_) ?_ ?_); rotate_left; exact rfl) | ((with_reducible refine xLg (n := ?_) (cs := ?_) ?_ ?_); rotate_left 2; exact rfl) | ((with_reducible refine xOg (n := ?_) (cs := ?_) ?_ ?_); rotate_left 2; exact rfl)
        exact ⟨_, rfl, _, b7, rfl, by omega, by omega, ⟨hgt, t.hd.tim + v, rt, gs, gn⟩, us, pn, rfl, by unfold fitH szH; dsimp only; omega, hvt, hpn⟩
    · refine xW (c40 code b5 14 hc (by omega)) ?_
      rintro _ ⟨_, b6, rfl, p6, q6, z, rfl⟩
      repeat first | (with_reducible refine xT ?_) | ((with_reducible refine xIg (n := ?_) ?_ ?_); rotate_left; exact rfl) | ((with_reducible refine xBg (n := ?_) ?_ ?_); rotate_left; exact rfl) | ((with_reducible refine xSg (n := ?_) ?_ ?_); rotate_left; exact rfl) | ((with_reducible refine xLg (n := ?_) (cs := ?_) ?_ ?_); rotate_left 2; exact rfl) | ((with_reducible refine xOg (n := ?_) (cs := ?_) ?_ ?_); rotate_left 2; exact rfl)
      cases z
      · exact ⟨_, rfl, _, b6, rfl, by omega, by omega, ⟨hgt, IntKind.i64.wrap (t.hd.tim + v + 1), rt, gs, gn⟩, us, n, rfl, by unfold fitH szH; dsimp only; omega, hvt, okS_fit hn.2 hN⟩
      · refine xW (c163 code b6 n hc (by omega) hn hN) ?_
        rintro _ ⟨_, b7, rfl, p7, q7, pn, rfl, hpn⟩
        repeat first | (with_reducible refine xT ?_) | ((with_reducible refine xIg (n := ?_) ?_ ?_); rotate_left; exact rfl) | ((with_reducible refine xBg (n := ?_) ?_ ?_); rotate_left; exact rfl) | ((with_reducible refine xSg (n := ?_) ?_ ?_); rotate_left; exact rfl) | ((with_reducible refine xLg (n := ?_) (cs := ?_) ?_ ?_); rotate_left 2; exact rfl) | ((with_reducible refine xOg (n := ?_) (cs := ?_) ?_ ?_); rotate_left 2; exact rfl)
        exact ⟨_, rfl, _, b7, rfl, by omega, by omega, ⟨hgt, IntKind.i64.wrap (t.hd.tim + v + 1), rt, gs, gn⟩, us, pn, rfl, by unfold fitH szH; dsimp only; omega, hvt, hpn⟩
end Go.Proofs.YtodapaplfjfnlaaGreat.Vote
