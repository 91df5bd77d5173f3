/-
  Chapter 8: the faults of trusts, both sides; NewTrust.
-/
import Derived.Test.YtodapaplfjfnlaaGreatPLSet2TQ
namespace Go.Proofs.YtodapaplfjfnlaaGreat.Set
open Go Go.PI Go.PI.Sha Go.PI.Rel Go.PI.Nest Go.PI.Tru Go.PI.Set Go.Proofs.YtodapaplfjfnlaaGreat.Sha Go.Proofs.YtodapaplfjfnlaaGreat.By Go.Proofs.YtodapaplfjfnlaaGreat.Nest Go.Proofs.YtodapaplfjfnlaaGreat.Tru EqQ
set_option maxHeartbeats 1000000
set_option linter.unusedVariables false
set_option linter.unusedSimpArgs false
theorem c105 (b : List UInt8) : runE C 105 [.sl b.length (bytesV b)] = some (.tup [.bool (badR b)]) := by
  refine E105 _ _ ?_
  unfold T105
  unfold badR
  by_cases h : b.length = 0
  · have h' : ¬ (b.length : Int) > 0 := by omega
    simp [h]
  · have h' : (b.length : Int) > 0 := by omega
    simp only [S0, h', c106]
    simp [h]
theorem lR : ∀ (r d : List (List UInt8)) (n i : Nat), n = d.length + r.length → i = d.length → n < 1000000000 →
    ∃ x : Int, (decide (x ≥ 0) = r.any badR) ∧ loopE C 167 0 [true, false, true] [] [(0, V.sl n (psS (d ++ r))), (1, V.fn 105 []), (7, V.int .i64 (n : Int)), (8, V.int .i64 (i : Int))] [] = some (.tup [.int .i64 x])
  | [], d, n, i, hn, hi, hq => by
    refine ⟨-1, by simp, E167l1 _ _ _ _ ?_⟩
    unfold T167l1
    have : ¬ i < n := by simp at hn; omega
    simp [this]
  | b :: r, d, n, i, hn, hi, hq => by
    simp only [List.length_cons] at hn
    have hlt : i < n := by omega
    have hw := w64_succ (n := i) (by omega)
    have hg : (psS (d ++ b :: r))[i]? = some (bS b) := by subst hi; exact psS_at d b r
    have hl : (psS (d ++ b :: r)).length = n := by rw [psS_length]; simp; omega
    by_cases e : badR b = true
    · refine ⟨i, by simp [e], E167l1 _ _ _ _ ?_⟩
      unfold T167l1
      simp only [S0, hlt, hg, hl, bS, c105, e]
    · obtain ⟨x, h1, ih⟩ := lR r (d ++ [b]) n (i + 1) (by simp; omega) (by simp; omega) hq
      refine ⟨x, by rw [h1]; simp [e], E167l1 _ _ _ _ ?_⟩
      unfold T167l1
      have e : badR b = false := by simpa using e
      simp only [List.append_assoc, List.singleton_append] at ih
      simp only [S0, hlt, hg, hl, bS, c105, e, hw, ih]
theorem iR (l : List (List UInt8)) (h : l.length < 1000000000) : ∃ x : Int, (decide (x ≥ 0) = l.any badR) ∧ runE C 167 [.sl l.length (psS l), .fn 105 []] = some (.tup [.int .i64 x]) := by
  obtain ⟨x, h1, h2⟩ := lR l [] l.length 0 (by simp) rfl h
  refine ⟨x, h1, E167 _ _ ?_⟩
  unfold T167
  exact h2
theorem setDig_length (l : List Vd) : (setDig l).length = 32 := sha_length _
theorem cRG {n : Nat} {cs : List V} (x : Int) (h : runE C 167 [.sl n cs, .fn 105 []] = some (.tup [.int .i64 x])) : runE C 104 [.sl n cs, .fn 105 []] = some (.tup [.bool (decide (x ≥ 0))]) := by
  refine E104 _ _ ?_
  unfold T104
  simp only [S0, h]
theorem c31 (t : Tr) (h : fitH t.hd) (h1 : fitV t.nx) (h2 : fitP t.roots) : runE C 31 [.agg [.int .i64 t.hd.hgt, .int .i64 t.hd.tim, .sl t.hd.root.length (bytesV t.hd.root), .sl t.hd.set.length (bytesV t.hd.set), .sl t.hd.nxt.length (bytesV t.hd.nxt), .sl t.nx.length (vsS t.nx), .int .i64 t.per, .bool t.pau, .sl t.roots.length (psS t.roots), .int .i64 t.frm]] = some (.tup [.int .i64 (tFault t)]) := by
  refine E31 _ _ _ _ _ _ _ _ _ _ _ _ _ _ _ ?_
  unfold T31 tFault
  have k1 := c101 t.hd
  by_cases g1 : hbFault t.hd = 0
  case neg => simp [k1, bne_t g1, g1]
  have hb := hbFault_ok g1
  rw [g1] at k1
  rw [g1, if_neg (by simp)]
  have k2 := c102 t.nx (by have := h1.1; omega)
  by_cases g2 : setFault t.nx = 0
  case neg => simp [k1, k2, bne_t g2, g2]
  rw [g2] at k2
  rw [g2, if_neg (by simp)]
  have k3 := c103 t.nx (set_small g2)
  have k4 := c76 t.hd.nxt (setDig t.nx)
  rw [setDig_length] at k4
  have k5 := c51 t.per 1 1099511627776
  by_cases g3 : t.hd.nxt = setDig t.nx
  case neg => simp [k1, k2, k3, k4, g3]
  rw [if_neg (by simp [g3])]
  rw [decide_eq_true g3] at k4
  by_cases g4 : 1 ≤ t.per ∧ t.per ≤ 1099511627776
  case neg => simp [k1, k2, k3, k4, k5, g4]
  rw [if_neg (by simp [g4])]
  rw [decide_eq_true g4] at k5
  by_cases g5 : 24 < t.roots.length
  · have g5' : (t.roots.length : Int) > 24 := by omega
    simp [k1, k2, k3, k4, k5, g5, g5']
  have g5' : ¬ (t.roots.length : Int) > 24 := by omega
  rw [if_neg g5]
  simp only [S0, k1, bne_f, k2, k3, k4, k5, g5']
  by_cases g6 : t.roots.length = 0
  · simp [g6]
  have g6' : ((t.roots.length : Int) == 0) = false := beq_f (by omega)
  by_cases g7 : t.frm < 1
  · simp [g6', g7]
  by_cases g8 : t.frm > 1000000
  · have e : t.frm + (t.roots.length : Int) - 1 ≠ t.hd.hgt := by omega
    simp [g6', g7, g8, e]
  have w1 : IntKind.i64.wrap (IntKind.i64.wrap (t.frm + (t.roots.length : Int)) - 1) = t.frm + (t.roots.length : Int) - 1 := by
    rw [w64 (n := t.frm + (t.roots.length : Int)) (by omega) (by omega), w64 (by omega) (by omega)]
  by_cases g9 : t.frm + (t.roots.length : Int) - 1 = t.hd.hgt
  case neg => simp [g6', g7, g8, w1, bne_t g9, g9]
  rw [if_neg (by simp [g6, g7, g9])]
  obtain ⟨d, b, hr⟩ : ∃ d b, t.roots = d ++ [b] := by
    rcases List.eq_nil_or_concat t.roots with e | ⟨d, b, e⟩
    · rw [e] at g6; simp at g6
    · exact ⟨d, b, by simpa using e⟩
  have hln : t.roots.length = d.length + 1 := by rw [hr]; simp
  have w2 : IntKind.i64.wrap ((t.roots.length : Int) - 1) = (d.length : Int) := by rw [w64 (by omega) (by omega), hln]; omega
  have hg : (psS t.roots)[d.length]? = some (bS b) := by rw [hr]; exact psS_at d b []
  have hlt : d.length < t.roots.length := by omega
  have hl : (psS t.roots).length = t.roots.length := psS_length _
  have hlast : t.roots.getLastD [] = b := by rw [hr]; simp
  obtain ⟨x, q1, q2⟩ := iR t.roots (by omega)
  rw [hlast]
  simp only [S0, g6', g7, g8, w1, g9, bne_f, w2, hl, hlt, hg, bS, c76 b t.hd.root, cRG x q2, q1]
  unfold rEnd
  by_cases g10 : b = t.hd.root <;> by_cases g11 : t.roots.any badR = true <;> simp [g10, g11]
theorem l29 (t : Tr) (hq : t.roots.length < 1000000000) (hs : tot List.length t.roots < 1000000000) (h0 : 0 < t.roots.length) : ∀ (r d : List (List UInt8)) (i : Nat), t.roots = d ++ r → i = d.length →
    loopE C 29 0 [true, true, true, true, true, true, true, true, false, true] [] [(1, V.ptr 0 0), (5, V.int .i64 (t.roots.length : Int)), (6, V.int .i64 (i : Int))] [Ob.box 52 [V.int .i64 t.hd.hgt, V.int .i64 t.hd.tim, V.sl t.hd.root.length (bytesV t.hd.root), V.sl t.hd.set.length (bytesV t.hd.set), V.sl t.hd.nxt.length (bytesV t.hd.nxt), V.sl t.nx.length (vsS t.nx), V.int .i64 t.per, V.bool t.pau, V.sl t.roots.length (psS t.roots), V.int .i64 t.frm] false] = some (.tup [.int .i64 (rEnd r (t.roots.getLastD []) t.hd.root)])
  | [], d, i, hr, hi => by
    refine E29l1 _ _ _ _ _ _ _ _ _ _ _ _ _ _ _ _ _ ?_
    unfold T29l1
    have hn : ¬ i < t.roots.length := by rw [hr]; simp; omega
    obtain ⟨d', b, hr'⟩ : ∃ d b, t.roots = d ++ [b] := by
      rcases List.eq_nil_or_concat t.roots with e | ⟨d, b, e⟩
      · rw [e] at h0; simp at h0
      · exact ⟨d, b, by simpa using e⟩
    have hln : t.roots.length = d'.length + 1 := by rw [hr']; simp
    have w2 : IntKind.i64.wrap ((t.roots.length : Int) - 1) = (d'.length : Int) := by rw [w64 (by omega) (by omega), hln]; omega
    have hg : (psS t.roots)[d'.length]? = some (bS b) := by rw [hr']; exact psS_at d' b []
    have hlt : d'.length < t.roots.length := by omega
    have hl : (psS t.roots).length = t.roots.length := psS_length _
    have hlast : t.roots.getLastD [] = b := by rw [hr']; simp
    have hb : b.length < 1000000000 := by
      have := le_tot List.length (l := t.roots) (x := b) (by rw [hr']; simp)
      omega
    rw [hlast]
    simp only [S0, hn, w2, hl, hlt, hg, bS, c82 b t.hd.root (by omega)]
    unfold rEnd
    by_cases g10 : b = t.hd.root <;> simp [g10]
  | b :: r, d, i, hr, hi => by
    have hlt : i < t.roots.length := by rw [hr]; simp; omega
    have hw := w64_succ (n := i) (by omega)
    have ih := l29 t hq hs h0 r (d ++ [b]) (i + 1) (by rw [hr]; simp) (by simp; omega)
    have hg : (psS t.roots)[i]? = some (bS b) := by rw [hr]; subst hi; exact psS_at d b r
    have hl : (psS t.roots).length = t.roots.length := psS_length _
    refine E29l1 _ _ _ _ _ _ _ _ _ _ _ _ _ _ _ _ _ ?_
    unfold T29l1
    have e : rEnd (b :: r) (t.roots.getLastD []) t.hd.root = bif badR b then 1 else rEnd r (t.roots.getLastD []) t.hd.root := by unfold rEnd; rw [List.any_cons]; cases badR b <;> rfl
    rw [e]
    simp only [S0, hlt, hl, hg, bS, hw, ih]
    unfold badR
    by_cases c1 : b.length = 32
    · simp [c1]
    · by_cases c2 : b.length = 0
      · simp [c2]
      · have c1' : ((b.length : Int) != 32) = true := bne_t (by omega)
        have c2' : ((b.length : Int) != 0) = true := bne_t (by omega)
        simp [c1, c2, c1', c2']
theorem c29 (t : Tr) (h : fitH t.hd) (h1 : fitV t.nx) (h2 : fitP t.roots) : runE C 29 [.agg [.int .i64 t.hd.hgt, .int .i64 t.hd.tim, .sl t.hd.root.length (bytesV t.hd.root), .sl t.hd.set.length (bytesV t.hd.set), .sl t.hd.nxt.length (bytesV t.hd.nxt), .sl t.nx.length (vsS t.nx), .int .i64 t.per, .bool t.pau, .sl t.roots.length (psS t.roots), .int .i64 t.frm]] = some (.tup [.int .i64 (tFault t)]) := by
  refine E29 _ _ _ _ _ _ _ _ _ _ _ _ _ _ _ ?_
  unfold T29 tFault
  have k1 := c96 t.hd
  by_cases g1 : hbFault t.hd = 0
  case neg => simp [k1, bne_t g1, g1]
  have hb := hbFault_ok g1
  rw [g1] at k1
  rw [g1, if_neg (by simp)]
  have k2 := c97 t.nx h1
  by_cases g2 : setFault t.nx = 0
  case neg => simp [k1, k2, bne_t g2, g2]
  rw [g2] at k2
  rw [g2, if_neg (by simp)]
  have k3 := c69 t.nx (set_small g2)
  have k4 := c82 t.hd.nxt (setDig t.nx) (by omega)
  rw [setDig_length] at k4
  have k5 := c98 t.per 1 1099511627776
  by_cases g3 : t.hd.nxt = setDig t.nx
  case neg => simp [k1, k2, k3, k4, g3]
  rw [if_neg (by simp [g3])]
  rw [decide_eq_true g3] at k4
  by_cases g4 : 1 ≤ t.per ∧ t.per ≤ 1099511627776
  case neg => simp [k1, k2, k3, k4, k5, g4]
  rw [if_neg (by simp [g4])]
  rw [decide_eq_true g4] at k5
  by_cases g5 : 24 < t.roots.length
  · have g5' : (t.roots.length : Int) > 24 := by omega
    simp [k1, k2, k3, k4, k5, g5, g5']
  have g5' : ¬ (t.roots.length : Int) > 24 := by omega
  rw [if_neg g5]
  simp only [S0, k1, bne_f, k2, k3, k4, k5, g5']
  by_cases g6 : t.roots.length = 0
  · simp [g6]
  have g6' : ((t.roots.length : Int) == 0) = false := beq_f (by omega)
  by_cases g7 : t.frm < 1
  · simp [g6', g7]
  by_cases g8 : t.frm > t.hd.hgt
  · have e : t.frm + (t.roots.length : Int) - 1 ≠ t.hd.hgt := by omega
    simp [g6', g7, g8, e]
  have w1 : IntKind.i64.wrap (IntKind.i64.wrap (t.frm + (t.roots.length : Int)) - 1) = t.frm + (t.roots.length : Int) - 1 := by
    rw [w64 (n := t.frm + (t.roots.length : Int)) (by omega) (by omega), w64 (by omega) (by omega)]
  by_cases g9 : t.frm + (t.roots.length : Int) - 1 = t.hd.hgt
  case neg => simp [g6', g7, g8, w1, bne_t g9, g9]
  rw [if_neg (by simp [g6, g7, g9])]
  have lp := l29 t (by omega) (by have := h2.2; omega) (by omega) t.roots [] 0 (by simp) rfl
  have lp : loopE C 29 0 [true, true, true, true, true, true, true, true, false, true] [] [(1, V.ptr 0 0), (5, V.int .i64 (t.roots.length : Int)), (6, V.int .i64 0)] [Ob.box 52 [V.int .i64 t.hd.hgt, V.int .i64 t.hd.tim, V.sl t.hd.root.length (bytesV t.hd.root), V.sl t.hd.set.length (bytesV t.hd.set), V.sl t.hd.nxt.length (bytesV t.hd.nxt), V.sl t.nx.length (vsS t.nx), V.int .i64 t.per, V.bool t.pau, V.sl t.roots.length (psS t.roots), V.int .i64 t.frm] false] = _ := lp
  simp only [S0, g6', g7, g8, w1, g9, bne_f, lp]
end Go.Proofs.YtodapaplfjfnlaaGreat.Set
