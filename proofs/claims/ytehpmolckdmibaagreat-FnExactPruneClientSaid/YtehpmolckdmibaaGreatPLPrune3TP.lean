/-
  PruneClient of the reference.
-/
import Derived.Test.YtehpmolckdmibaaGreatPLPrune2TP
namespace Go.Proofs.YtehpmolckdmibaaGreat.Cli
open Go Go.PI Go.PI.Sha Go.PI.Rel Go.PI.Nest Go.PI.Tru Go.PI.Set Go.PI.Cli Go.Proofs.YtehpmolckdmibaaGreat.Sha Go.Proofs.YtehpmolckdmibaaGreat.By Go.Proofs.YtehpmolckdmibaaGreat.Nest Go.Proofs.YtehpmolckdmibaaGreat.Set EqP
set_option maxHeartbeats 1000000
set_option linter.unusedVariables false
set_option linter.unusedSimpArgs false
theorem l60 (v : Nat) : ∀ (r d : List Nat) (n i : Nat), n = d.length + r.length → i = d.length → n < 1000000000 →
    loopE C 60 0 [true, false, true] [] [(0, V.sl n (nV (d ++ r))), (1, V.int .i64 (v : Int)), (5, V.int .i64 (i : Int))] [] = some (.tup [.bool (decide (v ∈ r))])
  | [], d, n, i, hn, hi, hq => by
    refine E60l1 _ _ _ _ ?_
    unfold T60l1
    have : ¬ i < n := by simp at hn; omega
    simp [this]
  | b :: r, d, n, i, hn, hi, hq => by
    simp only [List.length_cons] at hn
    have hlt : i < n := by omega
    have hw := w64_succ (n := i) (by omega)
    have gp := nV_at hi b r
    have ih := l60 v r (d ++ [b]) n (i + 1) (by simp; omega) (by simp; omega) hq
    refine E60l1 _ _ _ _ ?_
    unfold T60l1
    simp only [List.append_assoc, List.singleton_append] at ih
    simp only [Int.ofNat_lt, decide_true, decide_false, cond_true, cond_false, inB_nat, inB_zero, must_true, Int.toNat_natCast, asInt_int, asBool_bool, asSl_sl, asOsl_osl, asStr_str, orcE_R, orcE_W, orcE_L, orcE_X, need_some', asTup_tup, List.getElem?_cons_zero, List.getElem?_cons_succ, Bool.not_true, Bool.not_false, Bool.true_and, Bool.and_true, Bool.false_or, ble_dec, beq_dec, List.length_cons, List.length_nil, Nat.mul_one, Nat.zero_add, Nat.add_zero, Nat.sub_zero, both_self', bytesV_length, bytesV_flat, bytesV_isU8, hlt, gp, hw, ih]
    by_cases e : b = v
    · simp [e]
    · have h1 : ((b : Int) == (v : Int)) = false := beq_f (by omega)
      have h2 : v ≠ b := fun h => e h.symm
      rw [h1]; simp [h2]
theorem c60 (l : List Nat) (v : Nat) (h : l.length < 1000000000) : runE C 60 [.sl l.length (nV l), .int .i64 (v : Int)] = some (.tup [.bool (decide (v ∈ l))]) := by
  refine E60 _ _ _ ?_
  unfold T60
  exact l60 v l [] l.length 0 (by simp) rfl h
theorem l181 (c : List Hd) (hv : okH c) (hq : c.length ≤ 1000) : ∀ (r d : List Hd) (i : Nat), c = d ++ r → i = d.length →
    loopE C 181 0 [true, true, false, true] [] [(0, V.sl c.length (hdsS c)), (3, V.int .i64 (wtL d : Int)), (4, V.int .i64 (i : Int))] [] = some (.tup [.int .i64 (wtL c : Int)])
  | [], d, i, hc, hi => by
    refine E181l1 _ _ _ _ ?_
    unfold T181l1
    rw [List.append_nil] at hc
    subst hc
    have : ¬ i < c.length := by omega
    simp [this]
  | x :: r, d, i, hc, hi => by
    have hl : c.length = d.length + (r.length + 1) := by rw [hc]; simp
    have ih := l181 c hv hq r (d ++ [x]) (i + 1) (by rw [hc]; simp) (by simp; omega)
    have hlt : i < c.length := by omega
    have hw := w64_succ (n := i) (by omega)
    have hx : hdFault x = 0 := hv x (by rw [hc]; simp)
    have hz := hdFault_ok hx
    have hu : IntKind.u64.wrap x.zer = x.zer := IntWalk.u64_in _ (by omega)
    have hz0 : 0 ≤ x.zer := by omega
    have ws := wt_add (d := d) (r := r) (x := x) (hc ▸ hv) (hc ▸ hq)
    have g3 := hdsS_at3n hi x r
    rw [← hc] at g3
    refine E181l1 _ _ _ _ ?_
    unfold T181l1
    simp only [Int.ofNat_lt, decide_true, decide_false, cond_true, cond_false, inB_nat, inB_zero, must_true, Int.toNat_natCast, asInt_int, asBool_bool, asSl_sl, asOsl_osl, asStr_str, orcE_R, orcE_W, orcE_L, orcE_X, need_some', asTup_tup, List.getElem?_cons_zero, List.getElem?_cons_succ, Bool.not_true, Bool.not_false, Bool.true_and, Bool.and_true, Bool.false_or, ble_dec, beq_dec, List.length_cons, List.length_nil, Nat.mul_one, Nat.zero_add, Nat.add_zero, Nat.sub_zero, both_self', bytesV_length, bytesV_flat, bytesV_isU8, hlt, g3, hu, hz0, shl64 hx, ws, hw, ih]
theorem c181 (c : List Hd) (hv : okH c) (hq : c.length ≤ 1000) : runE C 181 [.sl c.length (hdsS c)] = some (.tup [.int .i64 (wtL c : Int)]) := by
  refine E181 _ _ ?_
  unfold T181
  exact l181 c hv hq c [] 0 rfl rfl
theorem l121 (hs : List Hd) (hq : hs.length ≤ 1000) (hv : okH hs) : ∀ (m i a : Nat) (most : Int), i + m = hs.length →
    loopE C 121 0 [true, true, true, false, true] [] [(0, V.sl hs.length (hdsS hs)), (1, V.sl hs.length (psS (digs hs))), (5, V.int .i64 (a : Int)), (6, V.int .i64 most), (7, V.int .i64 (i : Int))] [] = some (.tup [.int .i64 (hvy hs m i a most : Int)])
  | 0, i, a, most, hi => by
    refine E121l1 _ _ _ _ _ _ _ ?_
    unfold T121l1
    have : ¬ i < hs.length := by omega
    simp [this, hvy]
  | m + 1, i, a, most, hi => by
    have hlt : i < hs.length := by omega
    have hww := w64_succ (n := i) (by omega)
    have wl := way_length hlt
    have k1 := c170 hs (by omega) i hlt
    have k2 := c181 (chain hs i) (okH_way hv hlt) (by rw [chain_length]; omega)
    rw [chain_length] at k2
    have k2 : runE C 181 [.sl (way hs i).length (hdsS (chain hs i))] = some (.tup [.int .i64 (wt hs i : Int)]) := k2
    refine E121l1 _ _ _ _ _ _ _ ?_
    unfold T121l1
    simp only [hvy]
    by_cases g : (wt hs i : Int) > most
    · rw [if_pos g]
      simp only [Int.ofNat_lt, decide_true, decide_false, cond_true, cond_false, inB_nat, inB_zero, must_true, Int.toNat_natCast, asInt_int, asBool_bool, asSl_sl, asOsl_osl, asStr_str, orcE_R, orcE_W, orcE_L, orcE_X, need_some', asTup_tup, List.getElem?_cons_zero, List.getElem?_cons_succ, Bool.not_true, Bool.not_false, Bool.true_and, Bool.and_true, Bool.false_or, ble_dec, beq_dec, List.length_cons, List.length_nil, Nat.mul_one, Nat.zero_add, Nat.add_zero, Nat.sub_zero, both_self', bytesV_length, bytesV_flat, bytesV_isU8, hlt, k1, k2, g, hww, l121 hs hq hv m (i + 1) i _ (by omega)]
    · rw [if_neg g]
      simp only [Int.ofNat_lt, decide_true, decide_false, cond_true, cond_false, inB_nat, inB_zero, must_true, Int.toNat_natCast, asInt_int, asBool_bool, asSl_sl, asOsl_osl, asStr_str, orcE_R, orcE_W, orcE_L, orcE_X, need_some', asTup_tup, List.getElem?_cons_zero, List.getElem?_cons_succ, Bool.not_true, Bool.not_false, Bool.true_and, Bool.and_true, Bool.false_or, ble_dec, beq_dec, List.length_cons, List.length_nil, Nat.mul_one, Nat.zero_add, Nat.add_zero, Nat.sub_zero, both_self', bytesV_length, bytesV_flat, bytesV_isU8, hlt, k1, k2, g, hww, l121 hs hq hv m (i + 1) a most (by omega)]
theorem c121 (hs : List Hd) (hq : hs.length ≤ 1000) (hv : okH hs) : runE C 121 [.sl hs.length (hdsS hs), .sl hs.length (psS (digs hs))] = some (.tup [.int .i64 (hvst hs : Int)]) := by
  refine E121 _ _ _ _ ?_
  unfold T121
  exact l121 hs hq hv hs.length 0 0 (-1) (by omega)
theorem c56 (x : Cl) (g : clFault x.hds x.dep = 0) : runWE C 56 [] [.ptr 0 0] [.box 26 [.sl x.hds.length (hdsS x.hds), .int .i64 x.dep] false] = some (.tup [.sl (mn x.hds).length (nV (mn x.hds)), .sl x.hds.length (hdsS x.hds), .int .i64 x.dep]) := by
  obtain ⟨q1, q2, q3, q4, q5⟩ := clFault_ok g
  refine E56 _ _ _ ?_
  unfold T56
  have kd := c58 x.hds (by omega)
  rw [map_hdg q1] at kd
  simp only [Int.ofNat_lt, decide_true, decide_false, cond_true, cond_false, inB_nat, inB_zero, must_true, Int.toNat_natCast, asInt_int, asBool_bool, asSl_sl, asOsl_osl, asStr_str, orcE_R, orcE_W, orcE_L, orcE_X, need_some', asTup_tup, List.getElem?_cons_zero, List.getElem?_cons_succ, Bool.not_true, Bool.not_false, Bool.true_and, Bool.and_true, Bool.false_or, ble_dec, beq_dec, List.length_cons, List.length_nil, Nat.mul_one, Nat.zero_add, Nat.add_zero, Nat.sub_zero, both_self', bytesV_length, bytesV_flat, bytesV_isU8, kd, ps_bare, c121 x.hds (by omega) q1, c59 x.hds (by omega) (hvst x.hds) (hvst_lt q3)]
  rfl
theorem deep_le (hs : List Hd) (dep : Int) (j : Nat) : deep hs dep j = decide ((atH hs j).hgt ≤ (atH hs (hvst hs)).hgt - dep) := by
  unfold deep
  rw [Bool.eq_iff_iff]; simp
theorem l57 (hs : List Hd) (dep : Int) (hd : IntKind.i64.wrap ((atH hs (hvst hs)).hgt - dep) = (atH hs (hvst hs)).hgt - dep) : ∀ (r d : List Nat) (n i : Nat), n = d.length + r.length → i = d.length → n < 1000000000 → (∀ j ∈ r, j < hs.length) →
    loopWE C 57 [] [Ob.box 26 [V.u, V.u] false] 0 [true, true, true, true, false, true] [] [(0, V.ptr 0 0), (3, V.sl n (nV (d ++ r))), (4, V.int .i64 (atH hs (hvst hs)).hgt), (5, V.ref 1), (6, V.int .i64 (i : Int))] [Ob.box 26 [V.sl hs.length (hdsS hs), V.int .i64 dep] false, Ob.row 2 (d.filter (deep hs dep)).length (nV (d.filter (deep hs dep))) false] =
      some (.tup [.sl ((d ++ r).filter (deep hs dep)).length (nV ((d ++ r).filter (deep hs dep))), .sl hs.length (hdsS hs), .int .i64 dep])
  | [], d, n, i, hn, hi, hq, hr => by
    refine E57l1 _ _ _ _ _ _ _ _ _ ?_
    unfold T57l1
    have : ¬ i < n := by simp at hn; omega
    simp [this]
  | b :: r, d, n, i, hn, hi, hq, hr => by
    simp only [List.length_cons] at hn
    have hlt : i < n := by omega
    have hw := w64_succ (n := i) (by omega)
    have gp := nV_at hi b r
    have hb := hr b (by simp)
    have g1 := hdsS_i1 (l := hs) hb
    have hfl : (d.filter (deep hs dep)).length ≤ d.length := List.length_filter_le _ _
    have d1 : (d.filter (deep hs dep)).length + 1 ≤ 140737488355328 := by omega
    have d2 : ((d.filter (deep hs dep)).length + 1) * 8 ≤ 140737488355328 := by omega
    have ih := l57 hs dep hd r (d ++ [b]) n (i + 1) (by simp; omega) (by simp; omega) hq (fun v h => hr v (by simp [h]))
    have ed := deep_le hs dep b
    refine E57l1 _ _ _ _ _ _ _ _ _ ?_
    unfold T57l1
    rw [List.filter_append] at ih
    simp only [List.append_assoc, List.singleton_append] at ih
    unfold atH at ed hd
    unfold atH at ih ⊢
    by_cases c1 : (hs.getD b noHd).hgt ≤ (hs.getD (hvst hs) noHd).hgt - dep
    · rw [decide_eq_true c1] at ed
      rw [List.filter_cons_of_pos ed, List.filter_nil, List.length_append, List.length_singleton] at ih
      simp only [Int.ofNat_lt, decide_true, decide_false, cond_true, cond_false, inB_nat, inB_zero, must_true, Int.toNat_natCast, asInt_int, asBool_bool, asSl_sl, asOsl_osl, asStr_str, orcE_R, orcE_W, orcE_L, orcE_X, need_some', asTup_tup, List.getElem?_cons_zero, List.getElem?_cons_succ, Bool.not_true, Bool.not_false, Bool.true_and, Bool.and_true, Bool.false_or, ble_dec, beq_dec, List.length_cons, List.length_nil, Nat.mul_one, Nat.zero_add, Nat.add_zero, Nat.sub_zero, both_self', bytesV_length, bytesV_flat, bytesV_isU8, hlt, gp, hb, g1, hd, c1, d1, d2, nV_snoc, hw, ih]
    · rw [decide_eq_false c1] at ed
      rw [List.filter_cons_of_neg (by rw [ed]; simp), List.filter_nil, List.append_nil] at ih
      simp only [Int.ofNat_lt, decide_true, decide_false, cond_true, cond_false, inB_nat, inB_zero, must_true, Int.toNat_natCast, asInt_int, asBool_bool, asSl_sl, asOsl_osl, asStr_str, orcE_R, orcE_W, orcE_L, orcE_X, need_some', asTup_tup, List.getElem?_cons_zero, List.getElem?_cons_succ, Bool.not_true, Bool.not_false, Bool.true_and, Bool.and_true, Bool.false_or, ble_dec, beq_dec, List.length_cons, List.length_nil, Nat.mul_one, Nat.zero_add, Nat.add_zero, Nat.sub_zero, both_self', bytesV_length, bytesV_flat, bytesV_isU8, hlt, gp, hb, g1, hd, c1, hw, ih]
theorem c57 (x : Cl) (g : clFault x.hds x.dep = 0) : runWE C 57 [] [.ptr 0 0] [.box 26 [.sl x.hds.length (hdsS x.hds), .int .i64 x.dep] false] = some (.tup [.sl (cnf x.hds x.dep).length (nV (cnf x.hds x.dep)), .sl x.hds.length (hdsS x.hds), .int .i64 x.dep]) := by
  obtain ⟨q1, q2, q3, q4, q5⟩ := clFault_ok g
  have hp := mn_pos x.hds
  have hl := mn_length q3
  have hv := hvst_lt q3
  have ho := hdFault_ok (q1 _ (atH_mem hv))
  have hd : IntKind.i64.wrap ((atH x.hds (hvst x.hds)).hgt - x.dep) = (atH x.hds (hvst x.hds)).hgt - x.dep := w64 (by omega) (by omega)
  have w1 : IntKind.i64.wrap (((mn x.hds).length : Int) - 1) = (((mn x.hds).length - 1 : Nat) : Int) := by rw [w64 (by omega) (by omega)]; omega
  have hlt : (mn x.hds).length - 1 < (mn x.hds).length := by omega
  have g1 := hdsS_i1 (l := x.hds) hv
  have kk := l57 x.hds x.dep hd (mn x.hds) [] (mn x.hds).length 0 (by simp) rfl (by omega) (mn_lt q3)
  refine E57 _ _ _ ?_
  unfold T57
  simp only [Int.ofNat_lt, decide_true, decide_false, cond_true, cond_false, inB_nat, inB_zero, must_true, Int.toNat_natCast, asInt_int, asBool_bool, asSl_sl, asOsl_osl, asStr_str, orcE_R, orcE_W, orcE_L, orcE_X, need_some', asTup_tup, List.getElem?_cons_zero, List.getElem?_cons_succ, Bool.not_true, Bool.not_false, Bool.true_and, Bool.and_true, Bool.false_or, ble_dec, beq_dec, List.length_cons, List.length_nil, Nat.mul_one, Nat.zero_add, Nat.add_zero, Nat.sub_zero, both_self', bytesV_length, bytesV_flat, bytesV_isU8, c56 x g, w1, hlt, mn_at, hv, g1]
  exact kk
theorem l218 (hs : List Hd) (dep : Int) (i : Nat) (K : List Hd) (hi : i < hs.length) (h0 : 0 < hs.length) (hq : hs.length ≤ 1000) (hK : K.length ≤ 1000) (hf : hdfit (hs.getD i noHd)) {res : Option V}
    (h1 : keep hs dep i = true → loopE C 18 0 [true, true, true, true, true, true, false, true] [] [(1, V.ptr 0 0), (2, V.ptr 1 0), (4, V.sl (mn hs).length (nV (mn hs))), (5, V.sl (cnf hs dep).length (nV (cnf hs dep))), (6, V.ref 3), (7, V.ptr 4 0), (8, V.int .i64 (IntKind.i64.wrap ((i : Int) + 1)))] [Ob.box 26 [V.sl hs.length (hdsS hs), V.int .i64 dep] false, Ob.box 32 [V.int .i64 0, V.ref 2, V.int .i64 0] false, Ob.nrow [] 28 0 [], Ob.row 22 hs.length (psS (digs hs)) true, Ob.box 26 [V.ref 5, V.int .i64 dep] false, Ob.nrow [] 28 (K.length + 1) (hdsO (K ++ [hs.getD i noHd]))] = res)
    (h2 : keep hs dep i = false → loopE C 18 0 [true, true, true, true, true, true, false, true] [] [(1, V.ptr 0 0), (2, V.ptr 1 0), (4, V.sl (mn hs).length (nV (mn hs))), (5, V.sl (cnf hs dep).length (nV (cnf hs dep))), (6, V.ref 3), (7, V.ptr 4 0), (8, V.int .i64 (IntKind.i64.wrap ((i : Int) + 1)))] [Ob.box 26 [V.sl hs.length (hdsS hs), V.int .i64 dep] false, Ob.box 32 [V.int .i64 0, V.ref 2, V.int .i64 0] false, Ob.nrow [] 28 0 [], Ob.row 22 hs.length (psS (digs hs)) true, Ob.box 26 [V.ref 5, V.int .i64 dep] false, Ob.nrow [] 28 K.length (hdsO K)] = res) (hres : ∃ v, res = some v) :
    ∀ (r d : List Nat) (N j lf : Nat), N = d.length + r.length → j = d.length → N < 1000000 → lst (mn hs) r lf = lst (mn hs) (way hs i) 0 →
      loopE C 18 2 [true, true, true, true, true, true, false, true, false, true, false, false, true, true, false, true] [0] [(1, V.ptr 0 0), (2, V.ptr 1 0), (4, V.sl (mn hs).length (nV (mn hs))), (5, V.sl (cnf hs dep).length (nV (cnf hs dep))), (6, V.ref 3), (7, V.ptr 4 0), (8, V.int .i64 (i : Int)), (9, V.sl N (nV (d ++ r))), (10, V.int .i64 (lf : Int)), (11, V.int .i64 (j : Int))] [Ob.box 26 [V.sl hs.length (hdsS hs), V.int .i64 dep] false, Ob.box 32 [V.int .i64 0, V.ref 2, V.int .i64 0] false, Ob.nrow [] 28 0 [], Ob.row 22 hs.length (psS (digs hs)) true, Ob.box 26 [V.ref 5, V.int .i64 dep] false, Ob.nrow [] 28 K.length (hdsO K)] = res
  | [], d, N, j, lf, hN, hj, hM, hl => by
    obtain ⟨v, rfl⟩ := hres
    refine E18l2 _ _ _ _ _ _ _ _ _ _ _ _ _ _ _ _ _ _ _ _ _ ?_
    unfold T18l2
    have hlt : ¬ j < N := by simp at hN; omega
    have ml := mn_length h0
    have cl := cnf_length h0 dep
    have k1 := c60 (mn hs) i (by omega)
    have k2 := c60 (cnf hs dep) lf (by omega)
    have g0 := hdsS_i0 (l := hs) hi
    have g1 := hdsS_i1 (l := hs) hi
    have g2 := hdsS_i2 (l := hs) hi
    have g3 := hdsS_i3 (l := hs) hi
    have g4 := hdsS_i4 (l := hs) hi
    have g5 := hdsS_i5 (l := hs) hi
    have kc := c61 (hs.getD i noHd) hf
    have d1 : K.length + 1 ≤ 140737488355328 := by omega
    have d2 : (K.length + 1) * 80 ≤ 140737488355328 := by omega
    have ek := keep_eq hs dep i
    have hl : lf = lst (mn hs) (way hs i) 0 := hl
    rw [← hl] at ek
    by_cases c1 : i ∈ mn hs
    · rw [decide_eq_true c1] at k1 ek
      simp only [Int.ofNat_lt, decide_true, decide_false, cond_true, cond_false, inB_nat, inB_zero, must_true, Int.toNat_natCast, asInt_int, asBool_bool, asSl_sl, asOsl_osl, asStr_str, orcE_R, orcE_W, orcE_L, orcE_X, need_some', asTup_tup, List.getElem?_cons_zero, List.getElem?_cons_succ, Bool.not_true, Bool.not_false, Bool.true_and, Bool.and_true, Bool.false_or, ble_dec, beq_dec, List.length_cons, List.length_nil, Nat.mul_one, Nat.zero_add, Nat.add_zero, Nat.sub_zero, both_self', bytesV_length, bytesV_flat, bytesV_isU8, hlt, k1, hi, g0, g1, g2, g3, g4, g5, kc, d1, d2, hdsO_snoc, h1 (by rw [ek]; rfl)]
    · rw [decide_eq_false c1] at k1 ek
      by_cases c2 : lf ∈ cnf hs dep
      · rw [decide_eq_true c2] at k2 ek
        simp only [Int.ofNat_lt, decide_true, decide_false, cond_true, cond_false, inB_nat, inB_zero, must_true, Int.toNat_natCast, asInt_int, asBool_bool, asSl_sl, asOsl_osl, asStr_str, orcE_R, orcE_W, orcE_L, orcE_X, need_some', asTup_tup, List.getElem?_cons_zero, List.getElem?_cons_succ, Bool.not_true, Bool.not_false, Bool.true_and, Bool.and_true, Bool.false_or, ble_dec, beq_dec, List.length_cons, List.length_nil, Nat.mul_one, Nat.zero_add, Nat.add_zero, Nat.sub_zero, both_self', bytesV_length, bytesV_flat, bytesV_isU8, hlt, k1, k2, h2 (by rw [ek]; rfl)]
      · rw [decide_eq_false c2] at k2 ek
        simp only [Int.ofNat_lt, decide_true, decide_false, cond_true, cond_false, inB_nat, inB_zero, must_true, Int.toNat_natCast, asInt_int, asBool_bool, asSl_sl, asOsl_osl, asStr_str, orcE_R, orcE_W, orcE_L, orcE_X, need_some', asTup_tup, List.getElem?_cons_zero, List.getElem?_cons_succ, Bool.not_true, Bool.not_false, Bool.true_and, Bool.and_true, Bool.false_or, ble_dec, beq_dec, List.length_cons, List.length_nil, Nat.mul_one, Nat.zero_add, Nat.add_zero, Nat.sub_zero, both_self', bytesV_length, bytesV_flat, bytesV_isU8, hlt, k1, k2, hi, g0, g1, g2, g3, g4, g5, kc, d1, d2, hdsO_snoc, h1 (by rw [ek]; rfl)]
  | x :: r, d, N, j, lf, hN, hj, hM, hl => by
    obtain ⟨v, rfl⟩ := hres
    simp only [List.length_cons] at hN
    have hlt : j < N := by omega
    have hw := w64_succ (n := j) (by omega)
    have gp := nV_at hj x r
    have ml := mn_length h0
    have k1 := c60 (mn hs) x (by omega)
    have hl : lst (mn hs) r (if x ∈ mn hs then x else lf) = lst (mn hs) (way hs i) 0 := hl
    have ih := l218 hs dep i K hi h0 hq hK hf h1 h2 ⟨v, rfl⟩ r (d ++ [x]) N (j + 1) (if x ∈ mn hs then x else lf) (by simp; omega) (by simp; omega) hM hl
    simp only [List.append_assoc, List.singleton_append] at ih
    refine E18l2 _ _ _ _ _ _ _ _ _ _ _ _ _ _ _ _ _ _ _ _ _ ?_
    unfold T18l2
    by_cases c1 : x ∈ mn hs
    · rw [decide_eq_true c1] at k1
      rw [if_pos c1] at ih
      simp only [Int.ofNat_lt, decide_true, decide_false, cond_true, cond_false, inB_nat, inB_zero, must_true, Int.toNat_natCast, asInt_int, asBool_bool, asSl_sl, asOsl_osl, asStr_str, orcE_R, orcE_W, orcE_L, orcE_X, need_some', asTup_tup, List.getElem?_cons_zero, List.getElem?_cons_succ, Bool.not_true, Bool.not_false, Bool.true_and, Bool.and_true, Bool.false_or, ble_dec, beq_dec, List.length_cons, List.length_nil, Nat.mul_one, Nat.zero_add, Nat.add_zero, Nat.sub_zero, both_self', bytesV_length, bytesV_flat, bytesV_isU8, hlt, gp, k1, hw, ih]
    · rw [decide_eq_false c1] at k1
      rw [if_neg c1] at ih
      simp only [Int.ofNat_lt, decide_true, decide_false, cond_true, cond_false, inB_nat, inB_zero, must_true, Int.toNat_natCast, asInt_int, asBool_bool, asSl_sl, asOsl_osl, asStr_str, orcE_R, orcE_W, orcE_L, orcE_X, need_some', asTup_tup, List.getElem?_cons_zero, List.getElem?_cons_succ, Bool.not_true, Bool.not_false, Bool.true_and, Bool.and_true, Bool.false_or, ble_dec, beq_dec, List.length_cons, List.length_nil, Nat.mul_one, Nat.zero_add, Nat.add_zero, Nat.sub_zero, both_self', bytesV_length, bytesV_flat, bytesV_isU8, hlt, gp, k1, hw, ih]
theorem m18 (hs : List Hd) (dep : Int) (h0 : 0 < hs.length) (hq : hs.length ≤ 100) (hv : okH hs) (b : Hd) (r d K : List Hd) (i : Nat) (hd : hs = d ++ b :: r) (hi : i = d.length) (hK : K.length ≤ d.length)
    (iK : loopE C 18 0 [true, true, true, true, true, true, false, true] [] [(1, V.ptr 0 0), (2, V.ptr 1 0), (4, V.sl (mn hs).length (nV (mn hs))), (5, V.sl (cnf hs dep).length (nV (cnf hs dep))), (6, V.ref 3), (7, V.ptr 4 0), (8, V.int .i64 ((i + 1 : Nat) : Int))] [Ob.box 26 [V.sl hs.length (hdsS hs), V.int .i64 dep] false, Ob.box 32 [V.int .i64 0, V.ref 2, V.int .i64 0] false, Ob.nrow [] 28 0 [], Ob.row 22 hs.length (psS (digs hs)) true, Ob.box 26 [V.ref 5, V.int .i64 dep] false, Ob.nrow [] 28 (K ++ [b]).length (hdsO (K ++ [b]))] = some (.tup [.int .i64 0, .osl (K ++ [b] ++ prn hs dep r (i + 1)).length (hdsO (K ++ [b] ++ prn hs dep r (i + 1))), .int .i64 dep]))
    (iN : loopE C 18 0 [true, true, true, true, true, true, false, true] [] [(1, V.ptr 0 0), (2, V.ptr 1 0), (4, V.sl (mn hs).length (nV (mn hs))), (5, V.sl (cnf hs dep).length (nV (cnf hs dep))), (6, V.ref 3), (7, V.ptr 4 0), (8, V.int .i64 ((i + 1 : Nat) : Int))] [Ob.box 26 [V.sl hs.length (hdsS hs), V.int .i64 dep] false, Ob.box 32 [V.int .i64 0, V.ref 2, V.int .i64 0] false, Ob.nrow [] 28 0 [], Ob.row 22 hs.length (psS (digs hs)) true, Ob.box 26 [V.ref 5, V.int .i64 dep] false, Ob.nrow [] 28 K.length (hdsO K)] = some (.tup [.int .i64 0, .osl (K ++ prn hs dep r (i + 1)).length (hdsO (K ++ prn hs dep r (i + 1))), .int .i64 dep])) :
    loopE C 18 2 [true, true, true, true, true, true, false, true, false, true, false, false, true, true, false, true] [0] [(1, V.ptr 0 0), (2, V.ptr 1 0), (4, V.sl (mn hs).length (nV (mn hs))), (5, V.sl (cnf hs dep).length (nV (cnf hs dep))), (6, V.ref 3), (7, V.ptr 4 0), (8, V.int .i64 (i : Int)), (9, V.sl (way hs i).length (nV (way hs i))), (10, V.int .i64 0), (11, V.int .i64 0)] [Ob.box 26 [V.sl hs.length (hdsS hs), V.int .i64 dep] false, Ob.box 32 [V.int .i64 0, V.ref 2, V.int .i64 0] false, Ob.nrow [] 28 0 [], Ob.row 22 hs.length (psS (digs hs)) true, Ob.box 26 [V.ref 5, V.int .i64 dep] false, Ob.nrow [] 28 K.length (hdsO K)] = some (.tup [.int .i64 0, .osl (K ++ prn hs dep (b :: r) i).length (hdsO (K ++ prn hs dep (b :: r) i)), .int .i64 dep]) := by
  have hl : hs.length = d.length + (r.length + 1) := by rw [hd]; simp
  have hlt : i < hs.length := by omega
  have hww := w64_succ (n := i) (by omega)
  have hb : hs.getD i noHd = b := by rw [hd, hi, List.getD_eq_getElem?_getD]; simp
  have hbf : hdFault b = 0 := hv b (by rw [hd]; simp)
  have wl := way_length hlt
  rw [List.length_append, List.length_singleton] at iK
  exact l218 hs dep i K hlt h0 (by omega) (by omega) (by rw [hb]; unfold hdfit; rw [hd_fit hbf]; omega)
    (fun g => by rw [hww, hb, iK, prn_cons, if_pos g, List.append_assoc]; rfl)
    (fun g => by rw [hww, iN, prn_cons, if_neg (by rw [g]; simp)]) ⟨_, rfl⟩
    (way hs i) [] (way hs i).length 0 0 (by simp) rfl (by omega) rfl
theorem l18 (hs : List Hd) (dep : Int) (h0 : 0 < hs.length) (hq : hs.length ≤ 100) (hv : okH hs) : ∀ (r d K : List Hd) (i : Nat), hs = d ++ r → i = d.length → K.length ≤ d.length →
    loopE C 18 0 [true, true, true, true, true, true, false, true] [] [(1, V.ptr 0 0), (2, V.ptr 1 0), (4, V.sl (mn hs).length (nV (mn hs))), (5, V.sl (cnf hs dep).length (nV (cnf hs dep))), (6, V.ref 3), (7, V.ptr 4 0), (8, V.int .i64 (i : Int))] [Ob.box 26 [V.sl hs.length (hdsS hs), V.int .i64 dep] false, Ob.box 32 [V.int .i64 0, V.ref 2, V.int .i64 0] false, Ob.nrow [] 28 0 [], Ob.row 22 hs.length (psS (digs hs)) true, Ob.box 26 [V.ref 5, V.int .i64 dep] false, Ob.nrow [] 28 K.length (hdsO K)] = some (.tup [.int .i64 0, .osl (K ++ prn hs dep r i).length (hdsO (K ++ prn hs dep r i)), .int .i64 dep])
  | [], d, K, i, hd, hi, hK => by
    have hl : hs.length = d.length := by rw [hd]; simp
    have hlt : ¬ i < hs.length := by omega
    refine E18l3 _ _ _ _ _ _ _ _ _ _ _ _ _ _ _ _ _ ?_
    unfold T18l3
    simp only [Int.ofNat_lt, decide_true, decide_false, cond_true, cond_false, inB_nat, inB_zero, must_true, Int.toNat_natCast, asInt_int, asBool_bool, asSl_sl, asOsl_osl, asStr_str, orcE_R, orcE_W, orcE_L, orcE_X, need_some', asTup_tup, List.getElem?_cons_zero, List.getElem?_cons_succ, Bool.not_true, Bool.not_false, Bool.true_and, Bool.and_true, Bool.false_or, ble_dec, beq_dec, List.length_cons, List.length_nil, Nat.mul_one, Nat.zero_add, Nat.add_zero, Nat.sub_zero, both_self', bytesV_length, bytesV_flat, bytesV_isU8, hlt, prn, List.append_nil]
  | b :: r, d, K, i, hd, hi, hK => by
    have hl : hs.length = d.length + (r.length + 1) := by rw [hd]; simp
    have hlt : i < hs.length := by omega
    have k1 := c59 hs (by omega) i hlt
    have kk := m18 hs dep h0 hq hv b r d K i hd hi hK
      (l18 hs dep h0 hq hv r (d ++ [b]) (K ++ [b]) (i + 1) (by rw [hd]; simp) (by simp; omega) (by simp; omega))
      (l18 hs dep h0 hq hv r (d ++ [b]) K (i + 1) (by rw [hd]; simp) (by simp; omega) (by simp; omega))
    refine E18l3 _ _ _ _ _ _ _ _ _ _ _ _ _ _ _ _ _ ?_
    unfold T18l3
    simp only [Int.ofNat_lt, decide_true, decide_false, cond_true, cond_false, inB_nat, inB_zero, must_true, Int.toNat_natCast, asInt_int, asBool_bool, asSl_sl, asOsl_osl, asStr_str, orcE_R, orcE_W, orcE_L, orcE_X, need_some', asTup_tup, List.getElem?_cons_zero, List.getElem?_cons_succ, Bool.not_true, Bool.not_false, Bool.true_and, Bool.and_true, Bool.false_or, ble_dec, beq_dec, List.length_cons, List.length_nil, Nat.mul_one, Nat.zero_add, Nat.add_zero, Nat.sub_zero, both_self', bytesV_length, bytesV_flat, bytesV_isU8, hlt, k1]
    exact kk
theorem c18 (x : Cl) (h : hdsfit x.hds) : runE C 18 [.agg [.sl x.hds.length (hdsS x.hds), .int .i64 x.dep]] = some (.tup [.int .i64 (prC x).1, .osl (prC x).2.1.length (hdsO (prC x).2.1), .int .i64 (prC x).2.2]) := by
  refine E18 _ _ _ ?_
  unfold T18
  have k0 := c42 x.hds x.dep h.1
  by_cases g0 : clFault x.hds x.dep = 0
  case neg =>
    simp only [Int.ofNat_lt, decide_true, decide_false, cond_true, cond_false, inB_nat, inB_zero, must_true, Int.toNat_natCast, asInt_int, asBool_bool, asSl_sl, asOsl_osl, asStr_str, orcE_R, orcE_W, orcE_L, orcE_X, need_some', asTup_tup, List.getElem?_cons_zero, List.getElem?_cons_succ, Bool.not_true, Bool.not_false, Bool.true_and, Bool.and_true, Bool.false_or, ble_dec, beq_dec, List.length_cons, List.length_nil, Nat.mul_one, Nat.zero_add, Nat.add_zero, Nat.sub_zero, both_self', bytesV_length, bytesV_flat, bytesV_isU8, k0, bne_t g0]
    unfold prC; rw [if_pos g0]; rfl
  obtain ⟨q1, q2, q3, q4, q5⟩ := clFault_ok g0
  have k1 := c56 x g0
  have k2 := c57 x g0
  have kd := c58 x.hds (by omega)
  rw [map_hdg q1] at kd
  rw [g0] at k0
  obtain ⟨b, r, hb⟩ : ∃ b r, x.hds = b :: r := by
    cases hx : x.hds with
    | nil => rw [hx] at q3; simp at q3
    | cons b r => exact ⟨b, r, rfl⟩
  have kw := c59 x.hds (by omega) 0 q3
  have kk := m18 x.hds x.dep q3 (by omega) q1 b r [] [] 0 (by simpa using hb) rfl (by simp)
    (l18 x.hds x.dep q3 (by omega) q1 r [b] [b] 1 (by simpa using hb) rfl (by simp))
    (l18 x.hds x.dep q3 (by omega) q1 r [b] [] 1 (by simpa using hb) rfl (by simp))
  have e : prC x = (0, prn x.hds x.dep (b :: r) 0, x.dep) := by unfold prC; rw [if_neg (fun h => h g0), ← hb]
  rw [e]
  simp only [Int.ofNat_lt, decide_true, decide_false, cond_true, cond_false, inB_nat, inB_zero, must_true, Int.toNat_natCast, asInt_int, asBool_bool, asSl_sl, asOsl_osl, asStr_str, orcE_R, orcE_W, orcE_L, orcE_X, need_some', asTup_tup, List.getElem?_cons_zero, List.getElem?_cons_succ, Bool.not_true, Bool.not_false, Bool.true_and, Bool.and_true, Bool.false_or, ble_dec, beq_dec, List.length_cons, List.length_nil, Nat.mul_one, Nat.zero_add, Nat.add_zero, Nat.sub_zero, both_self', bytesV_length, bytesV_flat, bytesV_isU8, k0, bne_f, k1, k2, kd]
  refine E18l1 _ _ _ _ _ _ _ _ _ _ _ _ _ _ _ _ _ ?_
  unfold T18l1
  simp only [Int.natCast_zero] at kw
  have q3' : (0 : Int) < (x.hds.length : Int) := by omega
  simp only [Int.ofNat_lt, decide_true, decide_false, cond_true, cond_false, inB_nat, inB_zero, must_true, Int.toNat_natCast, asInt_int, asBool_bool, asSl_sl, asOsl_osl, asStr_str, orcE_R, orcE_W, orcE_L, orcE_X, need_some', asTup_tup, List.getElem?_cons_zero, List.getElem?_cons_succ, Bool.not_true, Bool.not_false, Bool.true_and, Bool.and_true, Bool.false_or, ble_dec, beq_dec, List.length_cons, List.length_nil, Nat.mul_one, Nat.zero_add, Nat.add_zero, Nat.sub_zero, both_self', bytesV_length, bytesV_flat, bytesV_isU8, q3', ps_bare, kw]
  exact kk
end Go.Proofs.YtehpmolckdmibaaGreat.Cli
