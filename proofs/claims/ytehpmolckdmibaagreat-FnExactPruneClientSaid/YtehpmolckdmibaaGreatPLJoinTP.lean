/-
  Heads behind heads: parents, ways, chains, the fault of a head behind others, both sides.
-/
import Derived.Test.YtehpmolckdmibaaGreatPLHeadTP
import Derived.Test.YtehpmolckdmibaaGreatPMJoin
namespace Go.Proofs.YtehpmolckdmibaaGreat.Cli
open Go Go.PI Go.PI.Sha Go.PI.Rel Go.PI.Nest Go.PI.Tru Go.PI.Set Go.PI.Cli Go.Proofs.YtehpmolckdmibaaGreat.Sha Go.Proofs.YtehpmolckdmibaaGreat.By Go.Proofs.YtehpmolckdmibaaGreat.Nest Go.Proofs.YtehpmolckdmibaaGreat.Set EqP
set_option maxHeartbeats 1000000
set_option linter.unusedVariables false
set_option linter.unusedSimpArgs false

theorem ok_len {hs : List Hd} (h : okH hs) : ∀ v ∈ hs, v.par.length ≤ 200 ∧ v.root.length ≤ 200 := fun v hv => by
  have := hdFault_ok (h v hv); omega
theorem c175 (b : Hd) (h1 : b.par.length ≤ 200) (h2 : b.root.length ≤ 200) (x : Hd) : runE C 175 [.agg [.sl b.par.length (bytesV b.par), .int .i64 b.hgt, .int .i64 b.tim, .int .i64 b.zer, .sl b.root.length (bytesV b.root), .int .i64 b.non], .pin [.sl x.par.length (bytesV x.par), .int .i64 x.hgt, .int .i64 x.tim, .int .i64 x.zer, .sl x.root.length (bytesV x.root), .int .i64 x.non] 0] = some (.tup [.bool (decide (hdDig b = x.par))]) := by
  have k := c78 (hdDig b) x.par
  rw [hdDig_length] at k
  refine E175 _ _ _ _ _ _ _ _ _ _ _ _ _ _ _ _ ?_
  unfold T175
  simp only [Int.ofNat_lt, decide_true, decide_false, cond_true, cond_false, inB_nat, inB_zero, must_true, Int.toNat_natCast, asInt_int, asBool_bool, asSl_sl, asOsl_osl, asStr_str, orcE_R, orcE_W, orcE_L, orcE_X, need_some', asTup_tup, List.getElem?_cons_zero, List.getElem?_cons_succ, Bool.not_true, Bool.not_false, Bool.true_and, Bool.and_true, Bool.false_or, ble_dec, beq_dec, List.length_cons, List.length_nil, Nat.mul_one, Nat.zero_add, Nat.add_zero, Nat.sub_zero, both_self', bytesV_length, bytesV_flat, bytesV_isU8, c53 b h1 h2, k]
theorem c110 (b : Hd) (h1 : b.par.length ≤ 200) (h2 : b.root.length ≤ 200) (k : List UInt8) : runE C 110 [.agg [.sl b.par.length (bytesV b.par), .int .i64 b.hgt, .int .i64 b.tim, .int .i64 b.zer, .sl b.root.length (bytesV b.root), .int .i64 b.non], .pin [.sl k.length (bytesV k)] 0] = some (.tup [.bool (decide (hdDig b = k))]) := by
  have e := c78 (hdDig b) k
  rw [hdDig_length] at e
  refine E110 _ _ _ _ _ _ _ _ _ _ ?_
  unfold T110
  simp only [Int.ofNat_lt, decide_true, decide_false, cond_true, cond_false, inB_nat, inB_zero, must_true, Int.toNat_natCast, asInt_int, asBool_bool, asSl_sl, asOsl_osl, asStr_str, orcE_R, orcE_W, orcE_L, orcE_X, need_some', asTup_tup, List.getElem?_cons_zero, List.getElem?_cons_succ, Bool.not_true, Bool.not_false, Bool.true_and, Bool.and_true, Bool.false_or, ble_dec, beq_dec, List.length_cons, List.length_nil, Nat.mul_one, Nat.zero_add, Nat.add_zero, Nat.sub_zero, both_self', bytesV_length, bytesV_flat, bytesV_isU8, c53 b h1 h2, e]
theorem lP (x : Hd) : ∀ (r d : List Hd) (n i : Nat), n = d.length + r.length → i = d.length → n < 1000000000 → (∀ v ∈ r, v.par.length ≤ 200 ∧ v.root.length ≤ 200) →
    loopE C 174 0 [true, false, true] [] [(0, V.sl n (hdsS (d ++ r))), (1, V.fn 175 [V.pin [V.sl x.par.length (bytesV x.par), V.int .i64 x.hgt, V.int .i64 x.tim, V.int .i64 x.zer, V.sl x.root.length (bytesV x.root), V.int .i64 x.non] 0]), (7, V.int .i64 (n : Int)), (8, V.int .i64 (i : Int))] [] = some (.tup [.int .i64 (dAt x.par (digs r) i)])
  | [], d, n, i, hn, hi, hq, hv => by
    refine E174l2 _ _ _ _ _ _ _ _ _ _ _ _ ?_
    unfold T174l2
    have : ¬ i < n := by simp at hn; omega
    simp [this, dAt, digs]
  | b :: r, d, n, i, hn, hi, hq, hv => by
    simp only [List.length_cons] at hn
    have hlt : i < n := by omega
    have hw := w64_succ (n := i) (by omega)
    have g0 := hdsS_at0 hi b r
    have g1 := hdsS_at1 hi b r
    have g2 := hdsS_at2 hi b r
    have g3 := hdsS_at3 hi b r
    have g4 := hdsS_at4 hi b r
    have g5 := hdsS_at5 hi b r
    have hb := hv b (by simp)
    have ih := lP x r (d ++ [b]) n (i + 1) (by simp; omega) (by simp; omega) hq (fun v h => hv v (by simp [h]))
    refine E174l2 _ _ _ _ _ _ _ _ _ _ _ _ ?_
    unfold T174l2
    simp only [List.append_assoc, List.singleton_append] at ih
    have ed : dAt x.par (digs (b :: r)) (i : Int) = if hdDig b = x.par then (i : Int) else dAt x.par (digs r) (i + 1) := by simp [dAt, digs]
    have ei : ((i + 1 : Nat) : Int) = (i : Int) + 1 := by omega
    rw [ed]
    simp only [Int.ofNat_lt, decide_true, decide_false, cond_true, cond_false, inB_nat, inB_zero, must_true, Int.toNat_natCast, asInt_int, asBool_bool, asSl_sl, asOsl_osl, asStr_str, orcE_R, orcE_W, orcE_L, orcE_X, need_some', asTup_tup, List.getElem?_cons_zero, List.getElem?_cons_succ, Bool.not_true, Bool.not_false, Bool.true_and, Bool.and_true, Bool.false_or, ble_dec, beq_dec, List.length_cons, List.length_nil, Nat.mul_one, Nat.zero_add, Nat.add_zero, Nat.sub_zero, both_self', bytesV_length, bytesV_flat, bytesV_isU8, hlt, g0, g1, g2, g3, g4, g5, c175 b hb.1 hb.2, hw, ih]
    by_cases e : hdDig b = x.par <;> simp [e]
theorem iP (x : Hd) (l : List Hd) (h : l.length < 1000000000) (hv : ∀ v ∈ l, v.par.length ≤ 200 ∧ v.root.length ≤ 200) : runE C 174 [.sl l.length (hdsS l), .fn 175 [.pin [V.sl x.par.length (bytesV x.par), V.int .i64 x.hgt, V.int .i64 x.tim, V.int .i64 x.zer, V.sl x.root.length (bytesV x.root), V.int .i64 x.non] 0]] = some (.tup [.int .i64 (dAt x.par (digs l) 0)]) := by
  refine E174s2 _ _ _ _ _ _ _ _ _ _ ?_
  unfold T174s2
  exact lP x l [] l.length 0 (by simp) rfl h hv
theorem lJ (k : List UInt8) : ∀ (r d : List Hd) (n i : Nat), n = d.length + r.length → i = d.length → n < 1000000000 → (∀ v ∈ r, v.par.length ≤ 200 ∧ v.root.length ≤ 200) →
    loopE C 174 0 [true, false, true] [] [(0, V.sl n (hdsS (d ++ r))), (1, V.fn 110 [V.pin [V.sl k.length (bytesV k)] 0]), (7, V.int .i64 (n : Int)), (8, V.int .i64 (i : Int))] [] = some (.tup [.int .i64 (dAt k (digs r) i)])
  | [], d, n, i, hn, hi, hq, hv => by
    refine E174l1 _ _ _ _ _ _ ?_
    unfold T174l1
    have : ¬ i < n := by simp at hn; omega
    simp [this, dAt, digs]
  | b :: r, d, n, i, hn, hi, hq, hv => by
    simp only [List.length_cons] at hn
    have hlt : i < n := by omega
    have hw := w64_succ (n := i) (by omega)
    have g0 := hdsS_at0 hi b r
    have g1 := hdsS_at1 hi b r
    have g2 := hdsS_at2 hi b r
    have g3 := hdsS_at3 hi b r
    have g4 := hdsS_at4 hi b r
    have g5 := hdsS_at5 hi b r
    have hb := hv b (by simp)
    have ih := lJ k r (d ++ [b]) n (i + 1) (by simp; omega) (by simp; omega) hq (fun v h => hv v (by simp [h]))
    refine E174l1 _ _ _ _ _ _ ?_
    unfold T174l1
    simp only [List.append_assoc, List.singleton_append] at ih
    have ed : dAt k (digs (b :: r)) (i : Int) = if hdDig b = k then (i : Int) else dAt k (digs r) (i + 1) := by simp [dAt, digs]
    have ei : ((i + 1 : Nat) : Int) = (i : Int) + 1 := by omega
    rw [ed]
    simp only [Int.ofNat_lt, decide_true, decide_false, cond_true, cond_false, inB_nat, inB_zero, must_true, Int.toNat_natCast, asInt_int, asBool_bool, asSl_sl, asOsl_osl, asStr_str, orcE_R, orcE_W, orcE_L, orcE_X, need_some', asTup_tup, List.getElem?_cons_zero, List.getElem?_cons_succ, Bool.not_true, Bool.not_false, Bool.true_and, Bool.and_true, Bool.false_or, ble_dec, beq_dec, List.length_cons, List.length_nil, Nat.mul_one, Nat.zero_add, Nat.add_zero, Nat.sub_zero, both_self', bytesV_length, bytesV_flat, bytesV_isU8, hlt, g0, g1, g2, g3, g4, g5, c110 b hb.1 hb.2, hw, ih]
    by_cases e : hdDig b = k <;> simp [e]
theorem iJ (k : List UInt8) (l : List Hd) (h : l.length < 1000000000) (hv : ∀ v ∈ l, v.par.length ≤ 200 ∧ v.root.length ≤ 200) : runE C 174 [.sl l.length (hdsS l), .fn 110 [.pin [V.sl k.length (bytesV k)] 0]] = some (.tup [.int .i64 (dAt k (digs l) 0)]) := by
  refine E174 _ _ _ _ ?_
  unfold T174
  exact lJ k l [] l.length 0 (by simp) rfl h hv
theorem c111 (hs : List Hd) (x : Hd) (h : hs.length < 1000000000) (hv : okH hs) : runE C 111 [.sl hs.length (hdsS hs), .agg [.sl x.par.length (bytesV x.par), .int .i64 x.hgt, .int .i64 x.tim, .int .i64 x.zer, .sl x.root.length (bytesV x.root), .int .i64 x.non]] = some (.tup [.int .i64 (dAt x.par (digs hs) 0)]) := by
  refine E111 _ _ _ _ _ _ _ _ _ _ ?_
  unfold T111
  simp only [Int.ofNat_lt, decide_true, decide_false, cond_true, cond_false, inB_nat, inB_zero, must_true, Int.toNat_natCast, asInt_int, asBool_bool, asSl_sl, asOsl_osl, asStr_str, orcE_R, orcE_W, orcE_L, orcE_X, need_some', asTup_tup, List.getElem?_cons_zero, List.getElem?_cons_succ, Bool.not_true, Bool.not_false, Bool.true_and, Bool.and_true, Bool.false_or, ble_dec, beq_dec, List.length_cons, List.length_nil, Nat.mul_one, Nat.zero_add, Nat.add_zero, Nat.sub_zero, both_self', bytesV_length, bytesV_flat, bytesV_isU8, iP x hs h (ok_len hv)]
theorem hds_take (hs : List Hd) (n : Nat) : (hdsS hs).take (n * 6) = hdsS (hs.take n) := rows_take hdS hdS6 n hs
/-! ### the way to a head -/
theorem lR : ∀ (n : Nat) (a m b : List Nat) (N : Nat), m.length = n → a.length = b.length → N = a.length + m.length + b.length → N < 1000000000 →
    loopWE C 172 [0] [Ob.row 2 0 [] false] 0 [true] [] [(0, V.ref 0), (2, V.int .i64 (a.length : Int)), (3, V.int .i64 (((a.length + m.length : Nat) : Int) - 1))] [Ob.row 2 N (nV (a ++ (m ++ b))) false] = some (.tup [.osl N (nV (a ++ (m.reverse ++ b)))]) := by
  intro n
  induction n using Nat.strongRecOn with
  | ind n ih =>
    intro a m b N hm hab hN hq
    refine E172l1 _ _ _ _ ?_
    unfold T172l1
    by_cases h2 : m.length < 2
    · have hr : m.reverse = m := by
        match m, h2 with
        | [], _ => rfl
        | [x], _ => rfl
      have hd : decide ((a.length : Int) < ((a.length + m.length : Nat) : Int) - 1) = false := decide_eq_false (by omega)
      rw [hr, hd]
      simp only [Int.ofNat_lt, decide_true, decide_false, cond_true, cond_false, inB_nat, inB_zero, must_true, Int.toNat_natCast, asInt_int, asBool_bool, asSl_sl, asOsl_osl, asStr_str, orcE_R, orcE_W, orcE_L, orcE_X, need_some', asTup_tup, List.getElem?_cons_zero, List.getElem?_cons_succ, Bool.not_true, Bool.not_false, Bool.true_and, Bool.and_true, Bool.false_or, ble_dec, beq_dec, List.length_cons, List.length_nil, Nat.mul_one, Nat.zero_add, Nat.add_zero, Nat.sub_zero, both_self', bytesV_length, bytesV_flat, bytesV_isU8, nV_flat]
    · obtain ⟨x, m1, rfl⟩ : ∃ x m1, m = x :: m1 := by
        cases m with
        | nil => simp at h2
        | cons x m1 => exact ⟨x, m1, rfl⟩
      obtain ⟨m2, y, rfl⟩ : ∃ m2 y, m1 = m2 ++ [y] := by
        rcases List.eq_nil_or_concat m1 with e | ⟨m2, y, e⟩
        · subst e; simp at h2
        · exact ⟨m2, y, by simpa using e⟩
      have e1 : ((a.length + (x :: (m2 ++ [y])).length : Nat) : Int) - 1 = ((a.length + m2.length + 1 : Nat) : Int) := by simp; omega
      simp only [List.length_cons, List.length_append, List.length_nil] at hm hN
      have ih := ih m2.length (by omega) (a ++ [y]) m2 (x :: b) N rfl (by simp; omega) (by simp; omega) hq
      have hlt : a.length < a.length + m2.length + 1 := by omega
      have hb1 : a.length + m2.length + 1 < N := by omega
      have hb2 : a.length < N := by omega
      have g1 : (nV (a ++ (x :: (m2 ++ [y]) ++ b)))[a.length]? = some (.int .i64 (x : Int)) := nV_at rfl x (m2 ++ [y] ++ b)
      have g2 : (nV (a ++ (x :: (m2 ++ [y]) ++ b)))[a.length + m2.length + 1]? = some (.int .i64 (y : Int)) := by
        have := nV_at (i := a.length + m2.length + 1) (d := a ++ x :: m2) (by simp; omega) y b
        simpa using this
      have s1 : splice (nV (a ++ (x :: (m2 ++ [y]) ++ b))) a.length [.int .i64 (y : Int)] = nV (a ++ (y :: (m2 ++ [y]) ++ b)) := nV_set rfl x y (m2 ++ [y] ++ b)
      have s2 : splice (nV (a ++ (y :: (m2 ++ [y]) ++ b))) (a.length + m2.length + 1) [.int .i64 (x : Int)] = nV (a ++ [y] ++ (m2 ++ x :: b)) := by
        have := nV_set (i := a.length + m2.length + 1) (d := a ++ y :: m2) (by simp; omega) y x b
        simpa using this
      have l1 : (nV (a ++ (x :: (m2 ++ [y]) ++ b))).length = N := by rw [nV_length]; simp; omega
      have l2 : (nV (a ++ (y :: (m2 ++ [y]) ++ b))).length = N := by rw [nV_length]; simp; omega
      have w1 := w64_succ (n := a.length) (by omega)
      have w2 : IntKind.i64.wrap (((a.length + m2.length + 1 : Nat) : Int) - 1) = ((a.length + 1 + m2.length : Nat) : Int) - 1 := by rw [w64 (by omega) (by omega)]; omega
      have b1 : a.length + 1 ≤ N := by omega
      have b2 : a.length + m2.length + 1 + 1 ≤ N := by omega
      have er : a ++ [y] ++ (m2.reverse ++ x :: b) = a ++ ((x :: (m2 ++ [y])).reverse ++ b) := by simp
      rw [List.length_append, List.length_singleton, er] at ih
      rw [e1]
      simp only [Int.ofNat_lt, decide_true, decide_false, cond_true, cond_false, inB_nat, inB_zero, must_true, Int.toNat_natCast, asInt_int, asBool_bool, asSl_sl, asOsl_osl, asStr_str, orcE_R, orcE_W, orcE_L, orcE_X, need_some', asTup_tup, List.getElem?_cons_zero, List.getElem?_cons_succ, Bool.not_true, Bool.not_false, Bool.true_and, Bool.and_true, Bool.false_or, ble_dec, beq_dec, List.length_cons, List.length_nil, Nat.mul_one, Nat.zero_add, Nat.add_zero, Nat.sub_zero, both_self', bytesV_length, bytesV_flat, bytesV_isU8, hlt, hb1, hb2, g1, g2, s1, s2, l1, l2, w1, w2, ih]
      simp only [b1, b2, Int.ofNat_lt, decide_true, decide_false, cond_true, cond_false, inB_nat, inB_zero, must_true, Int.toNat_natCast, asInt_int, asBool_bool, asSl_sl, asOsl_osl, asStr_str, orcE_R, orcE_W, orcE_L, orcE_X, need_some', asTup_tup, List.getElem?_cons_zero, List.getElem?_cons_succ, Bool.not_true, Bool.not_false, Bool.true_and, Bool.and_true, Bool.false_or, ble_dec, beq_dec, List.length_cons, List.length_nil, Nat.mul_one, Nat.zero_add, Nat.add_zero, Nat.sub_zero, both_self', bytesV_length, bytesV_flat, bytesV_isU8]
theorem c172 (l : List Nat) (h : l.length < 1000000000) : runWE C 172 [0] [.ref 0] [.row 2 l.length (nV l) false] = some (.tup [.osl l.length (nV l.reverse)]) := by
  have k := lR l.length [] l [] l.length rfl rfl (by simp) h
  simp only [List.length_nil, Nat.zero_add, List.nil_append, List.append_nil] at k
  refine E172 _ _ ?_
  unfold T172
  rw [w64 (n := (l.length : Int) - 1) (by omega) (by omega)]
  exact k
theorem l107 (hs : List Hd) (hq : hs.length ≤ 100000) (hv : okH hs) (hw : wf hs) : ∀ (f a : Nat) (out : List Nat), a ≤ f → a < hs.length → out.length + f ≤ 1000000 →
    loopE C 107 0 [true, true] [] [(0, V.sl hs.length (hdsS hs)), (1, V.int .i64 (a : Int)), (5, V.ref 0)] [Ob.row 2 out.length (nV out) false] = some (.tup [.osl (pre hs f a ++ a :: out.reverse).length (nV (pre hs f a ++ a :: out.reverse))]) := by
  intro f
  induction f with
  | zero =>
    intro a out h1 h2 h3
    have e : a = 0 := by omega
    subst e
    have d1 : out.length + 1 ≤ 140737488355328 := by omega
    have d2 : (out.length + 1) * 8 ≤ 140737488355328 := by omega
    have k := c172 (out ++ [0]) (by simp; omega)
    rw [List.length_append, List.length_singleton] at k
    have e0 : nV out ++ [V.int .i64 0] = nV (out ++ [0]) := nV_snoc out 0
    refine E107l1 _ _ _ _ _ ?_
    unfold T107l1
    simp only [Int.natCast_zero, beq_self_eq_true, Int.ofNat_lt, decide_true, decide_false, cond_true, cond_false, inB_nat, inB_zero, must_true, Int.toNat_natCast, asInt_int, asBool_bool, asSl_sl, asOsl_osl, asStr_str, orcE_R, orcE_W, orcE_L, orcE_X, need_some', asTup_tup, List.getElem?_cons_zero, List.getElem?_cons_succ, Bool.not_true, Bool.not_false, Bool.true_and, Bool.and_true, Bool.false_or, ble_dec, beq_dec, List.length_cons, List.length_nil, Nat.mul_one, Nat.zero_add, Nat.add_zero, Nat.sub_zero, both_self', bytesV_length, bytesV_flat, bytesV_isU8, d1, d2, e0, k, nV_flat]
    simp [pre]
  | succ f ih =>
    intro a out h1 h2 h3
    have d1 : out.length + 1 ≤ 140737488355328 := by omega
    have d2 : (out.length + 1) * 8 ≤ 140737488355328 := by omega
    refine E107l1 _ _ _ _ _ ?_
    unfold T107l1
    by_cases h0 : a = 0
    · subst h0
      have k := c172 (out ++ [0]) (by simp; omega)
      rw [List.length_append, List.length_singleton] at k
      have e0 : nV out ++ [V.int .i64 0] = nV (out ++ [0]) := nV_snoc out 0
      simp only [Int.natCast_zero, beq_self_eq_true, Int.ofNat_lt, decide_true, decide_false, cond_true, cond_false, inB_nat, inB_zero, must_true, Int.toNat_natCast, asInt_int, asBool_bool, asSl_sl, asOsl_osl, asStr_str, orcE_R, orcE_W, orcE_L, orcE_X, need_some', asTup_tup, List.getElem?_cons_zero, List.getElem?_cons_succ, Bool.not_true, Bool.not_false, Bool.true_and, Bool.and_true, Bool.false_or, ble_dec, beq_dec, List.length_cons, List.length_nil, Nat.mul_one, Nat.zero_add, Nat.add_zero, Nat.sub_zero, both_self', bytesV_length, bytesV_flat, bytesV_isU8, d1, d2, e0, k, nV_flat]
      simp [pre]
    · have h0' : ((a : Int) == 0) = false := beq_f (by omega)
      have hp := hw a (by omega) h2
      have hl := par_lt (hs := hs) (a := a) (by omega)
      obtain ⟨p, hpp⟩ : ∃ p : Nat, par hs a = (p : Int) := ⟨(par hs a).toNat, by omega⟩
      have ep : pre hs (f + 1) a = pre hs f p ++ [p] := by rw [pre_succ, if_neg h0, if_neg (by omega), hpp, Int.toNat_natCast]
      have ht : (hs.take a).length = a := by rw [List.length_take]; omega
      have k := c111 (hs.take a) (hs.getD a noHd) (by omega) (fun v h => hv v (List.mem_of_mem_take h))
      rw [ht] at k
      have k : runE C 111 _ = some (.tup [.int .i64 (par hs a)]) := k
      rw [hpp] at k
      have hle : (a : Int) ≤ (hs.length : Int) := by omega
      have g0 := hdsS_i0 (l := hs) h2
      have g1 := hdsS_i1 (l := hs) h2
      have g2 := hdsS_i2 (l := hs) h2
      have g3 := hdsS_i3 (l := hs) h2
      have g4 := hdsS_i4 (l := hs) h2
      have g5 := hdsS_i5 (l := hs) h2
      have ih := ih p (out ++ [a]) (by omega) (by omega) (by simp; omega)
      rw [List.length_append, List.length_singleton] at ih
      simp only [h0', Int.ofNat_lt, decide_true, decide_false, cond_true, cond_false, inB_nat, inB_zero, must_true, Int.toNat_natCast, asInt_int, asBool_bool, asSl_sl, asOsl_osl, asStr_str, orcE_R, orcE_W, orcE_L, orcE_X, need_some', asTup_tup, List.getElem?_cons_zero, List.getElem?_cons_succ, Bool.not_true, Bool.not_false, Bool.true_and, Bool.and_true, Bool.false_or, ble_dec, beq_dec, List.length_cons, List.length_nil, Nat.mul_one, Nat.zero_add, Nat.add_zero, Nat.sub_zero, both_self', bytesV_length, bytesV_flat, bytesV_isU8, d1, d2, hle, Int.natCast_nonneg, h2, g0, g1, g2, g3, g4, g5, List.drop_zero, hds_take, k, nV_snoc, ih, ep]
      simp
theorem c107 (hs : List Hd) (hq : hs.length ≤ 100000) (hv : okH hs) (hw : wf hs) (a : Nat) (ha : a < hs.length) : runE C 107 [.sl hs.length (hdsS hs), .int .i64 (a : Int)] = some (.tup [.osl (way hs a).length (nV (way hs a))]) := by
  refine E107 _ _ _ ?_
  unfold T107
  exact l107 hs hq hv hw a a [] (Nat.le_refl _) ha (by simp; omega)
theorem l106 (hs : List Hd) : ∀ (r d : List Nat) (n i : Nat), n = d.length + r.length → i = d.length → n < 1000000000 → (∀ j ∈ r, j < hs.length) →
    loopE C 106 0 [true, true, false, true] [] [(0, V.sl hs.length (hdsS hs)), (5, V.ref 0), (9, V.sl n (nV (d ++ r))), (10, V.int .i64 (n : Int)), (11, V.int .i64 (i : Int))] [Ob.row 28 i (hdsS (d.map (atH hs))) false] = some (.tup [.sl n (hdsS ((d ++ r).map (atH hs)))])
  | [], d, n, i, hn, hi, hq, hr => by
    refine E106l1 _ _ _ _ _ _ _ _ ?_
    unfold T106l1
    have e : i = n := by simp at hn; omega
    have : ¬ n < n := by omega
    subst e
    simp [this]
  | b :: r, d, n, i, hn, hi, hq, hr => by
    simp only [List.length_cons] at hn
    have ih := l106 hs r (d ++ [b]) n (i + 1) (by simp; omega) (by simp; omega) hq (fun j h => hr j (by simp [h]))
    refine E106l1 _ _ _ _ _ _ _ _ ?_
    unfold T106l1
    have hlt : i < n := by omega
    have hbl := hr b (by simp)
    have hw := w64_succ (n := i) (by omega)
    have gp := nV_at hi b r
    have g0 := hdsS_i0 (l := hs) hbl
    have g1 := hdsS_i1 (l := hs) hbl
    have g2 := hdsS_i2 (l := hs) hbl
    have g3 := hdsS_i3 (l := hs) hbl
    have g4 := hdsS_i4 (l := hs) hbl
    have g5 := hdsS_i5 (l := hs) hbl
    have d1 : i + 1 ≤ 140737488355328 := by omega
    have d2 : (i + 1) * 80 ≤ 140737488355328 := by omega
    have es : hdsS (d.map (atH hs)) ++ [V.sl (hs.getD b noHd).par.length (bytesV (hs.getD b noHd).par), V.int .i64 (hs.getD b noHd).hgt, V.int .i64 (hs.getD b noHd).tim, V.int .i64 (hs.getD b noHd).zer, V.sl (hs.getD b noHd).root.length (bytesV (hs.getD b noHd).root), V.int .i64 (hs.getD b noHd).non] = hdsS ((d ++ [b]).map (atH hs)) := by rw [List.map_append]; exact hdsS_snoc _ (atH hs b)
    simp only [List.append_assoc, List.singleton_append] at ih
    simp only [Int.ofNat_lt, decide_true, decide_false, cond_true, cond_false, inB_nat, inB_zero, must_true, Int.toNat_natCast, asInt_int, asBool_bool, asSl_sl, asOsl_osl, asStr_str, orcE_R, orcE_W, orcE_L, orcE_X, need_some', asTup_tup, List.getElem?_cons_zero, List.getElem?_cons_succ, Bool.not_true, Bool.not_false, Bool.true_and, Bool.and_true, Bool.false_or, ble_dec, beq_dec, List.length_cons, List.length_nil, Nat.mul_one, Nat.zero_add, Nat.add_zero, Nat.sub_zero, both_self', bytesV_length, bytesV_flat, bytesV_isU8, hlt, hbl, gp, g0, g1, g2, g3, g4, g5, hw, d1, d2, es, ih]
theorem c106 (hs : List Hd) (l : List Nat) (h : l.length < 1000000000) (hl : ∀ j ∈ l, j < hs.length) : runE C 106 [.sl hs.length (hdsS hs), .sl l.length (nV l)] = some (.tup [.sl l.length (hdsS (l.map (atH hs)))]) := by
  refine E106 _ _ _ _ ?_
  unfold T106
  exact l106 hs l [] l.length 0 (by simp) rfl h hl
/-! ### zeros behind a chain -/
theorem c112 (c : List Hd) (h0 : 0 < c.length) (h : c.length ≤ 100000) (hv : okH c) : runE C 112 [.sl c.length (hdsS c)] = some (.tup [.int .i64 (nz c)]) := by
  refine E112 _ _ ?_
  unfold T112
  obtain ⟨m, hm⟩ : ∃ m, c.length = m + 1 := ⟨c.length - 1, by omega⟩
  have w1 : IntKind.i64.wrap ((c.length : Int) - 1) = (m : Int) := by rw [w64 (by omega) (by omega)]; omega
  have hml : m < c.length := by omega
  have g0 := hdsS_i0 (l := c) hml
  have g1 := hdsS_i1 (l := c) hml
  have g2 := hdsS_i2 (l := c) hml
  have g3 := hdsS_i3 (l := c) hml
  have g4 := hdsS_i4 (l := c) hml
  have g5 := hdsS_i5 (l := c) hml
  have o1 := hdFault_ok (hv _ (atH_mem hml))
  unfold nz
  rw [show c.length - 1 = m by omega]
  unfold atH at o1 ⊢
  simp only [w1, Int.ofNat_lt, decide_true, decide_false, cond_true, cond_false, inB_nat, inB_zero, must_true, Int.toNat_natCast, asInt_int, asBool_bool, asSl_sl, asOsl_osl, asStr_str, orcE_R, orcE_W, orcE_L, orcE_X, need_some', asTup_tup, List.getElem?_cons_zero, List.getElem?_cons_succ, Bool.not_true, Bool.not_false, Bool.true_and, Bool.and_true, Bool.false_or, ble_dec, beq_dec, List.length_cons, List.length_nil, Nat.mul_one, Nat.zero_add, Nat.add_zero, Nat.sub_zero, both_self', bytesV_length, bytesV_flat, bytesV_isU8, hml, g0, g1, g2, g3, g4, g5]
  by_cases c1 : c.length ≤ 4
  · have c1' : (c.length : Int) ≤ 4 := by omega
    simp [c1, c1']
  · have c1' : ¬ (c.length : Int) ≤ 4 := by omega
    rw [if_neg c1, decide_eq_false c1']
    by_cases c2 : (c.getD m noHd).hgt.tmod 4 = 0
    case neg => rw [if_pos c2, bne_t c2]; rfl
    rw [if_neg (show ¬ ((c.getD m noHd).hgt.tmod 4 ≠ 0) from fun h => h c2), c2]
    have w2 : IntKind.i64.wrap ((m : Int) - 4) = ((c.length - 5 : Nat) : Int) := by rw [w64 (by omega) (by omega)]; omega
    have hk : c.length - 5 < c.length := by omega
    have f2 := hdsS_i2n (l := c) hk
    have o2 := hdFault_ok (hv _ (atH_mem hk))
    unfold atH at o2
    have w3 : IntKind.i64.wrap ((c.getD m noHd).tim - (c.getD (c.length - 5) noHd).tim) = (c.getD m noHd).tim - (c.getD (c.length - 5) noHd).tim := w64 (by omega) (by omega)
    have w4 : IntKind.i64.wrap ((c.getD m noHd).zer + 1) = (c.getD m noHd).zer + 1 := w64 (by omega) (by omega)
    have w5 : IntKind.i64.wrap ((c.getD m noHd).zer - 1) = (c.getD m noHd).zer - 1 := w64 (by omega) (by omega)
    simp only [bne_f, Int.ofNat_lt, decide_true, decide_false, cond_true, cond_false, inB_nat, inB_zero, must_true, Int.toNat_natCast, asInt_int, asBool_bool, asSl_sl, asOsl_osl, asStr_str, orcE_R, orcE_W, orcE_L, orcE_X, need_some', asTup_tup, List.getElem?_cons_zero, List.getElem?_cons_succ, Bool.not_true, Bool.not_false, Bool.true_and, Bool.and_true, Bool.false_or, ble_dec, beq_dec, List.length_cons, List.length_nil, Nat.mul_one, Nat.zero_add, Nat.add_zero, Nat.sub_zero, both_self', bytesV_length, bytesV_flat, bytesV_isU8, w2, hk, f2, w3, w4, w5]
    by_cases c3 : (c.getD m noHd).tim - (c.getD (c.length - 5) noHd).tim < 20
    · simp only [c3, decide_true, decide_false, and_self, and_true, true_and, and_false, false_and, or_true, true_or, or_false, false_or, not_true_eq_false, not_false_eq_true, if_true, if_false, Bool.true_eq_false, Bool.false_eq_true, Bool.true_and, Bool.false_and, Bool.and_false, Bool.and_true, Bool.or_true, Bool.true_or, Bool.not_true, Bool.not_false, cond_true, cond_false]
    · by_cases c4 : (c.getD m noHd).tim - (c.getD (c.length - 5) noHd).tim > 80 <;> simp only [c3, c4, decide_true, decide_false, and_self, and_true, true_and, and_false, false_and, or_true, true_or, or_false, false_or, not_true_eq_false, not_false_eq_true, if_true, if_false, Bool.true_eq_false, Bool.false_eq_true, Bool.true_and, Bool.false_and, Bool.and_false, Bool.and_true, Bool.or_true, Bool.true_or, Bool.not_true, Bool.not_false, cond_true, cond_false]
theorem c169 (c : List Hd) (h0 : 0 < c.length) (h : c.length ≤ 100000) (hv : okH c) : runE C 169 [.sl c.length (hdsS c)] = some (.tup [.int .i64 (nz c)]) := by
  have kmin : ∀ b : Int, runE C 207 [.int .i64 40, .int .i64 b] = some (.tup [.int .i64 (if 40 < b then 40 else b)]) := fun b => by
    refine E207 _ _ ?_
    unfold T207
    by_cases g : 40 < b <;> simp [g]
  have kmax : ∀ b : Int, runE C 208 [.int .i64 0, .int .i64 b] = some (.tup [.int .i64 (if 0 > b then 0 else b)]) := fun b => by
    refine E208 _ _ ?_
    unfold T208
    by_cases g : 0 > b <;> simp [g]
  refine E169 _ _ ?_
  unfold T169
  obtain ⟨m, hm⟩ : ∃ m, c.length = m + 1 := ⟨c.length - 1, by omega⟩
  have w1 : IntKind.i64.wrap ((c.length : Int) - 1) = (m : Int) := by rw [w64 (by omega) (by omega)]; omega
  have hml : m < c.length := by omega
  have g0 := hdsS_i0 (l := c) hml
  have g1 := hdsS_i1 (l := c) hml
  have g2 := hdsS_i2 (l := c) hml
  have g3 := hdsS_i3 (l := c) hml
  have g4 := hdsS_i4 (l := c) hml
  have g5 := hdsS_i5 (l := c) hml
  have o1 := hdFault_ok (hv _ (atH_mem hml))
  unfold nz
  rw [show c.length - 1 = m by omega]
  unfold atH at o1 ⊢
  simp only [w1, Int.ofNat_lt, decide_true, decide_false, cond_true, cond_false, inB_nat, inB_zero, must_true, Int.toNat_natCast, asInt_int, asBool_bool, asSl_sl, asOsl_osl, asStr_str, orcE_R, orcE_W, orcE_L, orcE_X, need_some', asTup_tup, List.getElem?_cons_zero, List.getElem?_cons_succ, Bool.not_true, Bool.not_false, Bool.true_and, Bool.and_true, Bool.false_or, ble_dec, beq_dec, List.length_cons, List.length_nil, Nat.mul_one, Nat.zero_add, Nat.add_zero, Nat.sub_zero, both_self', bytesV_length, bytesV_flat, bytesV_isU8, hml, g0, g1, g2, g3, g4, g5]
  by_cases c1 : c.length ≤ 4
  · have c1' : (c.length : Int) ≤ 4 := by omega
    simp [c1, c1']
  · have c1' : ¬ (c.length : Int) ≤ 4 := by omega
    rw [if_neg c1, decide_eq_false c1']
    by_cases c2 : (c.getD m noHd).hgt.tmod 4 = 0
    case neg => rw [if_pos c2, bne_t c2]; rfl
    rw [if_neg (show ¬ ((c.getD m noHd).hgt.tmod 4 ≠ 0) from fun h => h c2), c2]
    have w2 : IntKind.i64.wrap ((m : Int) - 4) = ((c.length - 5 : Nat) : Int) := by rw [w64 (by omega) (by omega)]; omega
    have hk : c.length - 5 < c.length := by omega
    have f2 := hdsS_i2n (l := c) hk
    have o2 := hdFault_ok (hv _ (atH_mem hk))
    unfold atH at o2
    have w3 : IntKind.i64.wrap ((c.getD m noHd).tim - (c.getD (c.length - 5) noHd).tim) = (c.getD m noHd).tim - (c.getD (c.length - 5) noHd).tim := w64 (by omega) (by omega)
    have w4 : IntKind.i64.wrap ((c.getD m noHd).zer + 1) = (c.getD m noHd).zer + 1 := w64 (by omega) (by omega)
    have w5 : IntKind.i64.wrap ((c.getD m noHd).zer - 1) = (c.getD m noHd).zer - 1 := w64 (by omega) (by omega)
    simp only [bne_f, Int.ofNat_lt, decide_true, decide_false, cond_true, cond_false, inB_nat, inB_zero, must_true, Int.toNat_natCast, asInt_int, asBool_bool, asSl_sl, asOsl_osl, asStr_str, orcE_R, orcE_W, orcE_L, orcE_X, need_some', asTup_tup, List.getElem?_cons_zero, List.getElem?_cons_succ, Bool.not_true, Bool.not_false, Bool.true_and, Bool.and_true, Bool.false_or, ble_dec, beq_dec, List.length_cons, List.length_nil, Nat.mul_one, Nat.zero_add, Nat.add_zero, Nat.sub_zero, both_self', bytesV_length, bytesV_flat, bytesV_isU8, w2, hk, f2, w3, w4, w5, kmin, kmax]
    by_cases c3 : (c.getD m noHd).tim - (c.getD (c.length - 5) noHd).tim < 20
    · simp only [c3, decide_true, decide_false, and_self, and_true, true_and, and_false, false_and, or_true, true_or, or_false, false_or, not_true_eq_false, not_false_eq_true, if_true, if_false, Bool.true_eq_false, Bool.false_eq_true, Bool.true_and, Bool.false_and, Bool.and_false, Bool.and_true, Bool.or_true, Bool.true_or, Bool.not_true, Bool.not_false, cond_true, cond_false]
    · by_cases c4 : (c.getD m noHd).tim - (c.getD (c.length - 5) noHd).tim > 80 <;> simp only [c3, c4, decide_true, decide_false, and_self, and_true, true_and, and_false, false_and, or_true, true_or, or_false, false_or, not_true_eq_false, not_false_eq_true, if_true, if_false, Bool.true_eq_false, Bool.false_eq_true, Bool.true_and, Bool.false_and, Bool.and_false, Bool.and_true, Bool.or_true, Bool.true_or, Bool.not_true, Bool.not_false, cond_true, cond_false]
end Go.Proofs.YtehpmolckdmibaaGreat.Cli
