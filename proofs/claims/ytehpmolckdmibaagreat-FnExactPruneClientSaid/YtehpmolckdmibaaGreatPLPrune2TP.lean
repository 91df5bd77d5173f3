/-
  PruneClient of both sides.
-/
import Derived.Test.YtehpmolckdmibaaGreatPLPruneTP
namespace Go.Proofs.YtehpmolckdmibaaGreat.Cli
open Go Go.PI Go.PI.Sha Go.PI.Rel Go.PI.Nest Go.PI.Tru Go.PI.Set Go.PI.Cli Go.Proofs.YtehpmolckdmibaaGreat.Sha Go.Proofs.YtehpmolckdmibaaGreat.By Go.Proofs.YtehpmolckdmibaaGreat.Nest Go.Proofs.YtehpmolckdmibaaGreat.Set EqP
set_option maxHeartbeats 1000000
set_option linter.unusedVariables false
set_option linter.unusedSimpArgs false
def iAt (v : Nat) : List Nat → Int → Int
  | [], _ => -1
  | j :: r, i => if j = v then i else iAt v r (i + 1)
theorem iAt_iff (v : Nat) : ∀ (l : List Nat) (i : Int), 0 ≤ i → (0 ≤ iAt v l i ↔ v ∈ l)
  | [], i, h => by simp [iAt]
  | j :: r, i, h => by
    simp only [iAt]
    by_cases e : j = v
    · simp [e, h]
    · rw [if_neg e, iAt_iff v r (i + 1) (by omega)]
      have : v ≠ j := fun h => e h.symm
      simp [this]
theorem iAt_has (v : Nat) (l : List Nat) (i : Int) (h : 0 ≤ i) : decide (iAt v l i ≥ 0) = decide (v ∈ l) := by
  rw [Bool.eq_iff_iff, decide_eq_true_eq, decide_eq_true_eq]
  exact iAt_iff v l i h
theorem l177 (v : Nat) : ∀ (r d : List Nat) (n i : Nat), n = d.length + r.length → i = d.length → n < 1000000000 →
    loopE C 177 0 [true, false, true] [] [(0, V.sl n (nV (d ++ r))), (1, V.int .i64 (v : Int)), (7, V.int .i64 (n : Int)), (8, V.int .i64 (i : Int))] [] = some (.tup [.int .i64 (iAt v r i)])
  | [], d, n, i, hn, hi, hq => by
    refine E177l1 _ _ _ _ _ ?_
    unfold T177l1
    have : ¬ i < n := by simp at hn; omega
    simp [this, iAt]
  | b :: r, d, n, i, hn, hi, hq => by
    simp only [List.length_cons] at hn
    have hlt : i < n := by omega
    have hw := w64_succ (n := i) (by omega)
    have gp := nV_at hi b r
    have ih := l177 v r (d ++ [b]) n (i + 1) (by simp; omega) (by simp; omega) hq
    refine E177l1 _ _ _ _ _ ?_
    unfold T177l1
    simp only [List.append_assoc, List.singleton_append] at ih
    have ei : ((i + 1 : Nat) : Int) = (i : Int) + 1 := by omega
    simp only [Int.ofNat_lt, decide_true, decide_false, cond_true, cond_false, inB_nat, inB_zero, must_true, Int.toNat_natCast, asInt_int, asBool_bool, asSl_sl, asOsl_osl, asStr_str, orcE_R, orcE_W, orcE_L, orcE_X, need_some', asTup_tup, List.getElem?_cons_zero, List.getElem?_cons_succ, Bool.not_true, Bool.not_false, Bool.true_and, Bool.and_true, Bool.false_or, ble_dec, beq_dec, List.length_cons, List.length_nil, Nat.mul_one, Nat.zero_add, Nat.add_zero, Nat.sub_zero, both_self', bytesV_length, bytesV_flat, bytesV_isU8, hlt, gp, hw, ih, iAt]
    by_cases e : b = v
    · have : ((v : Int) == (b : Int)) = true := by rw [e]; simp
      simp [e]
    · have : ((v : Int) == (b : Int)) = false := beq_f (by omega)
      rw [this, if_neg e]; rfl
theorem c114 (l : List Nat) (v : Nat) (h : l.length < 1000000000) : runE C 114 [.sl l.length (nV l), .int .i64 (v : Int)] = some (.tup [.bool (decide (v ∈ l))]) := by
  have k : runE C 177 [.sl l.length (nV l), .int .i64 (v : Int)] = some (.tup [.int .i64 (iAt v l 0)]) := by
    refine E177 _ _ _ ?_
    unfold T177
    exact l177 v l [] l.length 0 (by simp) rfl h
  refine E114 _ _ _ ?_
  unfold T114
  simp only [Int.ofNat_lt, decide_true, decide_false, cond_true, cond_false, inB_nat, inB_zero, must_true, Int.toNat_natCast, asInt_int, asBool_bool, asSl_sl, asOsl_osl, asStr_str, orcE_R, orcE_W, orcE_L, orcE_X, need_some', asTup_tup, List.getElem?_cons_zero, List.getElem?_cons_succ, Bool.not_true, Bool.not_false, Bool.true_and, Bool.and_true, Bool.false_or, ble_dec, beq_dec, List.length_cons, List.length_nil, Nat.mul_one, Nat.zero_add, Nat.add_zero, Nat.sub_zero, both_self', bytesV_length, bytesV_flat, bytesV_isU8, k, iAt_has v l 0 (by omega)]
theorem prn_cons (hs : List Hd) (dep : Int) (x : Hd) (r : List Hd) (i : Nat) : prn hs dep (x :: r) i = if keep hs dep i = true then x :: prn hs dep r (i + 1) else prn hs dep r (i + 1) := rfl
theorem keep_eq (hs : List Hd) (dep : Int) (i : Nat) : keep hs dep i = (decide (i ∈ mn hs) || !decide (lst (mn hs) (way hs i) 0 ∈ cnf hs dep)) := rfl
theorem l255 (hs : List Hd) (dep : Int) (n i : Nat) (K : List Hd) (b : Hd) (h0 : 0 < hs.length) (hq : hs.length ≤ 1000) (hK : K.length ≤ 1000) {res : Option V}
    (h1 : keep hs dep i = true → loopE C 55 0 [true, true, false, true] [] [(1, V.ptr 0 0), (2, V.ptr 1 0), (3, V.ref 3), (4, V.sl (cnf hs dep).length (nV (cnf hs dep))), (5, V.ref 4), (17, V.sl hs.length (hdsS hs)), (18, V.int .i64 (n : Int)), (19, V.int .i64 (IntKind.i64.wrap ((i : Int) + 1)))] [Ob.box 26 [V.sl hs.length (hdsS hs), V.int .i64 dep] false, Ob.box 26 [V.ref 2, V.int .i64 0] false, Ob.nrow [] 28 0 [], Ob.row 2 (mn hs).length (nV (mn hs)) false, Ob.row 28 (K.length + 1) (hdsS (K ++ [b])) false] = res)
    (h2 : keep hs dep i = false → loopE C 55 0 [true, true, false, true] [] [(1, V.ptr 0 0), (2, V.ptr 1 0), (3, V.ref 3), (4, V.sl (cnf hs dep).length (nV (cnf hs dep))), (5, V.ref 4), (17, V.sl hs.length (hdsS hs)), (18, V.int .i64 (n : Int)), (19, V.int .i64 (IntKind.i64.wrap ((i : Int) + 1)))] [Ob.box 26 [V.sl hs.length (hdsS hs), V.int .i64 dep] false, Ob.box 26 [V.ref 2, V.int .i64 0] false, Ob.nrow [] 28 0 [], Ob.row 2 (mn hs).length (nV (mn hs)) false, Ob.row 28 K.length (hdsS K) false] = res) (hres : ∃ v, res = some v) :
    ∀ (r d : List Nat) (N j lf : Nat), N = d.length + r.length → j = d.length → N < 1000000 → lst (mn hs) r lf = lst (mn hs) (way hs i) 0 →
      loopE C 55 2 [true, true, false, true, false, true, true, false, false, true, true, false, true] [0] [(1, V.ptr 0 0), (2, V.ptr 1 0), (3, V.ref 3), (4, V.sl (cnf hs dep).length (nV (cnf hs dep))), (5, V.ref 4), (6, V.int .i64 (i : Int)), (7, V.ptr 5 0), (8, V.int .i64 (lf : Int)), (17, V.sl hs.length (hdsS hs)), (18, V.int .i64 (n : Int)), (19, V.int .i64 (i : Int)), (27, V.ref 6), (28, V.int .i64 (N : Int)), (29, V.int .i64 (j : Int))] [Ob.box 26 [V.sl hs.length (hdsS hs), V.int .i64 dep] false, Ob.box 26 [V.ref 2, V.int .i64 0] false, Ob.nrow [] 28 0 [], Ob.row 2 (mn hs).length (nV (mn hs)) false, Ob.row 28 K.length (hdsS K) false, Ob.box 28 [V.sl b.par.length (bytesV b.par), V.int .i64 b.hgt, V.int .i64 b.tim, V.int .i64 b.zer, V.sl b.root.length (bytesV b.root), V.int .i64 b.non] false, Ob.row 2 N (nV (d ++ r)) false] = res
  | [], d, N, j, lf, hN, hj, hM, hl => by
    obtain ⟨v, rfl⟩ := hres
    refine E55l2 _ _ _ _ _ _ _ _ _ _ _ _ _ _ _ _ _ _ _ _ _ _ _ _ _ _ _ _ _ _ ?_
    unfold T55l2
    have hlt : ¬ j < N := by simp at hN; omega
    have ml := mn_length h0
    have cl := cnf_length h0 dep
    have k1 := c114 (mn hs) i (by omega)
    have k2 := c114 (cnf hs dep) lf (by omega)
    have d1 : K.length + 1 ≤ 140737488355328 := by omega
    have d2 : (K.length + 1) * 80 ≤ 140737488355328 := by omega
    have ek := keep_eq hs dep i
    have hl : lf = lst (mn hs) (way hs i) 0 := hl
    rw [← hl] at ek
    by_cases c1 : i ∈ mn hs
    · rw [decide_eq_true c1] at k1 ek
      simp only [Int.ofNat_lt, decide_true, decide_false, cond_true, cond_false, inB_nat, inB_zero, must_true, Int.toNat_natCast, asInt_int, asBool_bool, asSl_sl, asOsl_osl, asStr_str, orcE_R, orcE_W, orcE_L, orcE_X, need_some', asTup_tup, List.getElem?_cons_zero, List.getElem?_cons_succ, Bool.not_true, Bool.not_false, Bool.true_and, Bool.and_true, Bool.false_or, ble_dec, beq_dec, List.length_cons, List.length_nil, Nat.mul_one, Nat.zero_add, Nat.add_zero, Nat.sub_zero, both_self', bytesV_length, bytesV_flat, bytesV_isU8, hlt, k1, d1, d2, hdsS_snoc, h1 (by rw [ek]; rfl)]
    · rw [decide_eq_false c1] at k1 ek
      by_cases c2 : lf ∈ cnf hs dep
      · rw [decide_eq_true c2] at k2 ek
        simp only [Int.ofNat_lt, decide_true, decide_false, cond_true, cond_false, inB_nat, inB_zero, must_true, Int.toNat_natCast, asInt_int, asBool_bool, asSl_sl, asOsl_osl, asStr_str, orcE_R, orcE_W, orcE_L, orcE_X, need_some', asTup_tup, List.getElem?_cons_zero, List.getElem?_cons_succ, Bool.not_true, Bool.not_false, Bool.true_and, Bool.and_true, Bool.false_or, ble_dec, beq_dec, List.length_cons, List.length_nil, Nat.mul_one, Nat.zero_add, Nat.add_zero, Nat.sub_zero, both_self', bytesV_length, bytesV_flat, bytesV_isU8, hlt, k1, k2, h2 (by rw [ek]; rfl)]
      · rw [decide_eq_false c2] at k2 ek
        simp only [Int.ofNat_lt, decide_true, decide_false, cond_true, cond_false, inB_nat, inB_zero, must_true, Int.toNat_natCast, asInt_int, asBool_bool, asSl_sl, asOsl_osl, asStr_str, orcE_R, orcE_W, orcE_L, orcE_X, need_some', asTup_tup, List.getElem?_cons_zero, List.getElem?_cons_succ, Bool.not_true, Bool.not_false, Bool.true_and, Bool.and_true, Bool.false_or, ble_dec, beq_dec, List.length_cons, List.length_nil, Nat.mul_one, Nat.zero_add, Nat.add_zero, Nat.sub_zero, both_self', bytesV_length, bytesV_flat, bytesV_isU8, hlt, k1, k2, d1, d2, hdsS_snoc, h1 (by rw [ek]; rfl)]
  | x :: r, d, N, j, lf, hN, hj, hM, hl => by
    obtain ⟨v, rfl⟩ := hres
    simp only [List.length_cons] at hN
    have hlt : j < N := by omega
    have hw := w64_succ (n := j) (by omega)
    have gp := nV_at hj x r
    have ml := mn_length h0
    have k1 := c114 (mn hs) x (by omega)
    have hl : lst (mn hs) r (if x ∈ mn hs then x else lf) = lst (mn hs) (way hs i) 0 := hl
    have ih := l255 hs dep n i K b h0 hq hK h1 h2 ⟨v, rfl⟩ r (d ++ [x]) N (j + 1) (if x ∈ mn hs then x else lf) (by simp; omega) (by simp; omega) hM hl
    simp only [List.append_assoc, List.singleton_append] at ih
    refine E55l2 _ _ _ _ _ _ _ _ _ _ _ _ _ _ _ _ _ _ _ _ _ _ _ _ _ _ _ _ _ _ ?_
    unfold T55l2
    by_cases c1 : x ∈ mn hs
    · rw [decide_eq_true c1] at k1
      rw [if_pos c1] at ih
      simp only [Int.ofNat_lt, decide_true, decide_false, cond_true, cond_false, inB_nat, inB_zero, must_true, Int.toNat_natCast, asInt_int, asBool_bool, asSl_sl, asOsl_osl, asStr_str, orcE_R, orcE_W, orcE_L, orcE_X, need_some', asTup_tup, List.getElem?_cons_zero, List.getElem?_cons_succ, Bool.not_true, Bool.not_false, Bool.true_and, Bool.and_true, Bool.false_or, ble_dec, beq_dec, List.length_cons, List.length_nil, Nat.mul_one, Nat.zero_add, Nat.add_zero, Nat.sub_zero, both_self', bytesV_length, bytesV_flat, bytesV_isU8, hlt, gp, k1, hw, ih]
    · rw [decide_eq_false c1] at k1
      rw [if_neg c1] at ih
      simp only [Int.ofNat_lt, decide_true, decide_false, cond_true, cond_false, inB_nat, inB_zero, must_true, Int.toNat_natCast, asInt_int, asBool_bool, asSl_sl, asOsl_osl, asStr_str, orcE_R, orcE_W, orcE_L, orcE_X, need_some', asTup_tup, List.getElem?_cons_zero, List.getElem?_cons_succ, Bool.not_true, Bool.not_false, Bool.true_and, Bool.and_true, Bool.false_or, ble_dec, beq_dec, List.length_cons, List.length_nil, Nat.mul_one, Nat.zero_add, Nat.add_zero, Nat.sub_zero, both_self', bytesV_length, bytesV_flat, bytesV_isU8, hlt, gp, k1, hw, ih]
theorem l55 (hs : List Hd) (dep : Int) (h0 : 0 < hs.length) (hq : hs.length ≤ 100) (hv : okH hs) (hw : wf hs) : ∀ (r d K : List Hd) (i : Nat), hs = d ++ r → i = d.length → K.length ≤ d.length → okH K →
    loopE C 55 0 [true, true, false, true] [] [(1, V.ptr 0 0), (2, V.ptr 1 0), (3, V.ref 3), (4, V.sl (cnf hs dep).length (nV (cnf hs dep))), (5, V.ref 4), (17, V.sl hs.length (hdsS hs)), (18, V.int .i64 (hs.length : Int)), (19, V.int .i64 (i : Int))] [Ob.box 26 [V.sl hs.length (hdsS hs), V.int .i64 dep] false, Ob.box 26 [V.ref 2, V.int .i64 0] false, Ob.nrow [] 28 0 [], Ob.row 2 (mn hs).length (nV (mn hs)) false, Ob.row 28 K.length (hdsS K) false] = some (.tup [.osl (K ++ prn hs dep r i).length (hdsO (K ++ prn hs dep r i)), .int .i64 dep])
  | [], d, K, i, hd, hi, hK, hok => by
    have hl : hs.length = d.length := by rw [hd]; simp
    have hlt : ¬ i < hs.length := by omega
    have k := c40 K dep (ok_fit hok (by omega))
    refine E55l1 _ _ _ _ _ _ _ _ _ _ _ _ _ _ _ _ ?_
    unfold T55l1
    simp only [Int.ofNat_lt, decide_true, decide_false, cond_true, cond_false, inB_nat, inB_zero, must_true, Int.toNat_natCast, asInt_int, asBool_bool, asSl_sl, asOsl_osl, asStr_str, orcE_R, orcE_W, orcE_L, orcE_X, need_some', asTup_tup, List.getElem?_cons_zero, List.getElem?_cons_succ, Bool.not_true, Bool.not_false, Bool.true_and, Bool.and_true, Bool.false_or, ble_dec, beq_dec, List.length_cons, List.length_nil, Nat.mul_one, Nat.zero_add, Nat.add_zero, Nat.sub_zero, both_self', bytesV_length, bytesV_flat, bytesV_isU8, hlt, k, prn, List.append_nil]
  | b :: r, d, K, i, hd, hi, hK, hok => by
    have hl : hs.length = d.length + (r.length + 1) := by rw [hd]; simp
    have hlt : i < hs.length := by omega
    have hww := w64_succ (n := i) (by omega)
    have hb : hdFault b = 0 := hv b (by rw [hd]; simp)
    have g0 := hdsS_at0 hi b r
    have g1 := hdsS_at1 hi b r
    have g2 := hdsS_at2 hi b r
    have g3 := hdsS_at3 hi b r
    have g4 := hdsS_at4 hi b r
    have g5 := hdsS_at5 hi b r
    rw [← hd] at g0 g1 g2 g3 g4 g5
    have k1 := c107 hs (by omega) hv hw i hlt
    have wl := way_length hlt
    have iK := fun (_ : Unit) => l55 hs dep h0 hq hv hw r (d ++ [b]) (K ++ [b]) (i + 1) (by rw [hd]; simp) (by simp; omega) (by simp; omega) (fun v h => by
      rcases List.mem_append.1 h with h | h
      · exact hok v h
      · rw [List.mem_singleton.1 h]; exact hb)
    have iN := l55 hs dep h0 hq hv hw r (d ++ [b]) K (i + 1) (by rw [hd]; simp) (by simp; omega) (by simp; omega) hok
    have kk := l255 hs dep hs.length i K b h0 (by omega) (by omega) (res := some (.tup [.osl (K ++ prn hs dep (b :: r) i).length (hdsO (K ++ prn hs dep (b :: r) i)), .int .i64 dep]))
      (fun g => by
        have := iK ()
        rw [List.length_append, List.length_singleton] at this
        rw [hww, this, prn_cons, if_pos g, List.append_assoc]; rfl)
      (fun g => by rw [hww, iN, prn_cons, if_neg (by rw [g]; simp)]) ⟨_, rfl⟩
      (way hs i) [] (way hs i).length 0 0 (by simp) rfl (by omega) rfl
    simp only [List.nil_append] at kk
    refine E55l1 _ _ _ _ _ _ _ _ _ _ _ _ _ _ _ _ ?_
    unfold T55l1
    simp only [Int.ofNat_lt, decide_true, decide_false, cond_true, cond_false, inB_nat, inB_zero, must_true, Int.toNat_natCast, asInt_int, asBool_bool, asSl_sl, asOsl_osl, asStr_str, orcE_R, orcE_W, orcE_L, orcE_X, need_some', asTup_tup, List.getElem?_cons_zero, List.getElem?_cons_succ, Bool.not_true, Bool.not_false, Bool.true_and, Bool.and_true, Bool.false_or, ble_dec, beq_dec, List.length_cons, List.length_nil, Nat.mul_one, Nat.zero_add, Nat.add_zero, Nat.sub_zero, both_self', bytesV_length, bytesV_flat, bytesV_isU8, hlt, g0, g1, g2, g3, g4, g5, k1]
    exact kk
theorem c55 (x : Cl) (g : clFault x.hds x.dep = 0) : runE C 55 [.agg [.sl x.hds.length (hdsS x.hds), .int .i64 x.dep]] = some (.tup [.osl (prn x.hds x.dep x.hds 0).length (hdsO (prn x.hds x.dep x.hds 0)), .int .i64 x.dep]) := by
  obtain ⟨q1, q2, q3, q4, q5⟩ := clFault_ok g
  have k1 := c103 x g
  have k2 := c45 x g
  have kk := l55 x.hds x.dep q3 (by omega) q1 q2 x.hds [] [] 0 rfl rfl (by simp) (fun v h => by simp at h)
  refine E55 _ _ _ ?_
  unfold T55
  simp only [Int.ofNat_lt, decide_true, decide_false, cond_true, cond_false, inB_nat, inB_zero, must_true, Int.toNat_natCast, asInt_int, asBool_bool, asSl_sl, asOsl_osl, asStr_str, orcE_R, orcE_W, orcE_L, orcE_X, need_some', asTup_tup, List.getElem?_cons_zero, List.getElem?_cons_succ, Bool.not_true, Bool.not_false, Bool.true_and, Bool.and_true, Bool.false_or, ble_dec, beq_dec, List.length_cons, List.length_nil, Nat.mul_one, Nat.zero_add, Nat.add_zero, Nat.sub_zero, both_self', bytesV_length, bytesV_flat, bytesV_isU8, k1, k2]
  have kk : loopE C 55 0 [true, true, false, true] [] _ _ = _ := kk
  simp only [List.length_nil, List.nil_append, hdsS, List.flatMap_nil, Int.natCast_zero] at kk ⊢
  simp only [kk, both_self]
theorem c17 (x : Cl) (h : hdsfit x.hds) : runE C 17 [.agg [.sl x.hds.length (hdsS x.hds), .int .i64 x.dep]] = some (.tup [.int .i64 (prC x).1, .osl (prC x).2.1.length (hdsO (prC x).2.1), .int .i64 (prC x).2.2]) := by
  refine E17 _ _ _ ?_
  unfold T17
  have k0 := c13 x.hds x.dep h.1
  by_cases g0 : clFault x.hds x.dep = 0
  case neg =>
    simp only [Int.ofNat_lt, decide_true, decide_false, cond_true, cond_false, inB_nat, inB_zero, must_true, Int.toNat_natCast, asInt_int, asBool_bool, asSl_sl, asOsl_osl, asStr_str, orcE_R, orcE_W, orcE_L, orcE_X, need_some', asTup_tup, List.getElem?_cons_zero, List.getElem?_cons_succ, Bool.not_true, Bool.not_false, Bool.true_and, Bool.and_true, Bool.false_or, ble_dec, beq_dec, List.length_cons, List.length_nil, Nat.mul_one, Nat.zero_add, Nat.add_zero, Nat.sub_zero, both_self', bytesV_length, bytesV_flat, bytesV_isU8, k0, bne_t g0]
    unfold prC; rw [if_pos g0]; rfl
  have k1 := c55 x g0
  rw [g0] at k0
  simp only [Int.ofNat_lt, decide_true, decide_false, cond_true, cond_false, inB_nat, inB_zero, must_true, Int.toNat_natCast, asInt_int, asBool_bool, asSl_sl, asOsl_osl, asStr_str, orcE_R, orcE_W, orcE_L, orcE_X, need_some', asTup_tup, List.getElem?_cons_zero, List.getElem?_cons_succ, Bool.not_true, Bool.not_false, Bool.true_and, Bool.and_true, Bool.false_or, ble_dec, beq_dec, List.length_cons, List.length_nil, Nat.mul_one, Nat.zero_add, Nat.add_zero, Nat.sub_zero, both_self', bytesV_length, bytesV_flat, bytesV_isU8, k0, bne_f, k1]
  unfold prC; rw [if_neg (fun h => h g0)]
theorem prC_fit (x : Cl) (_ : hdsfit x.hds) : hdsfit (prC x).2.1 := by
  unfold prC
  by_cases g0 : clFault x.hds x.dep = 0
  · rw [if_neg (fun h => h g0)]
    obtain ⟨q1, q2, q3, q4, q5⟩ := clFault_ok g0
    have sb := prn_sub x.hds x.dep x.hds 0
    have := sb.length_le
    exact ok_fit (fun v h => q1 v (sb.subset h)) (by show (prn x.hds x.dep x.hds 0).length ≤ 1000; omega)
  · rw [if_pos g0]; exact ⟨by simp, by simp [tot]⟩
end Go.Proofs.YtehpmolckdmibaaGreat.Cli
