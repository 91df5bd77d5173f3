/-
  FnSteps: what it comes to.
-/
import Derived.Test.YtodapaplfjfnlaaGreatPLStepTQ
import Derived.Test.YtodapaplfjfnlaaGreatPLDrawTTQ
namespace Go.Proofs.YtodapaplfjfnlaaGreat.Vote
open Go Go.PI Go.PI.Sha Go.PI.Rel Go.PI.Nest Go.PI.Tru Go.PI.Set Go.PI.Tree Go.PI.Vote Go.Proofs.YtodapaplfjfnlaaGreat.Sha Go.Proofs.YtodapaplfjfnlaaGreat.By Go.Proofs.YtodapaplfjfnlaaGreat.Nest Go.Proofs.YtodapaplfjfnlaaGreat.Tru Go.Proofs.YtodapaplfjfnlaaGreat.Set Go.Proofs.YtodapaplfjfnlaaGreat.Tree EqQ
set_option maxHeartbeats 1000000
set_option linter.unusedVariables false
set_option linter.unusedSimpArgs false
theorem tFault_all {t : Tr} (h : tFault t = 0) : 1 ≤ t.frm ∧ t.roots.length ≠ 0 ∧ t.hd.nxt = setDig t.nx ∧ (∀ b ∈ t.roots, badR b = false) ∧ t.roots.getLastD [] = t.hd.root := by
  obtain ⟨g0, g1, g3⟩ := tFault_parts h
  unfold tFault at h
  rw [if_neg (fun k => k g0), if_neg (fun k => k g1)] at h
  by_cases g2 : t.hd.nxt = setDig t.nx
  case neg => rw [if_pos g2] at h; cases h
  rw [if_neg (fun h => h g2), if_neg (fun h => h g3)] at h
  by_cases g4 : 24 < t.roots.length
  · rw [if_pos g4] at h; cases h
  rw [if_neg g4] at h
  by_cases g5 : t.roots.length = 0 ∨ t.frm < 1 ∨ t.frm + t.roots.length - 1 ≠ t.hd.hgt
  · rw [if_pos g5] at h; cases h
  rw [if_neg g5] at h
  unfold rEnd at h
  cases e : t.roots.any badR with
  | true => rw [e] at h; cases h
  | false =>
    rw [e] at h
    by_cases g6 : t.roots.getLastD [] = t.hd.root
    · refine ⟨by omega, by omega, g2, fun b hb => ?_, g6⟩
      simpa using List.any_eq_false.1 e b hb
    · rw [decide_eq_false g6] at h; cases h
theorem rEnd_zero {l : List (List UInt8)} {b : List UInt8} (h : ∀ x ∈ l, badR x = false) (h2 : l.getLastD [] = b) : rEnd l (l.getLastD []) b = 0 := by
  unfold rEnd
  rw [List.any_eq_false.2 (fun x hx => by rw [h x hx]; decide), decide_eq_true h2]; rfl
theorem badR_32 {b : List UInt8} (h : b.length = 32) : badR b = false := by unfold badR; rw [decide_eq_false (by omega)]
theorem rcut_last (l : List (List UInt8)) (b : List UInt8) : rcut (l ++ [b]) = l.drop (l.length + 1 - 24) ++ [b] := by
  unfold rcut
  rw [List.length_append, List.length_singleton, List.drop_append_of_le_length (by omega)]
theorem stT_ok {t : Tr} {x : HB} {nx : List Vd} (h : tFault t = 0) (hx : hbFault x = 0) (hg : t.hd.hgt < x.hgt) (hs : setFault nx = 0) (hd : x.nxt = setDig nx) : tFault (stT t x nx) = 0 := by
  obtain ⟨a1, a2, a3⟩ := tFault_more h
  obtain ⟨b1, b2, b3, b4, b5⟩ := tFault_all h
  obtain ⟨q1, q2, q3⟩ := tFault_parts h
  have x1 := Go.PI.Set.hbFault_ok hx
  have er := rcut_length (rts t x)
  have el := rts_length t x
  have es : ((sk t x : Nat) : Int) = x.hgt - t.hd.hgt - 1 := by unfold sk; omega
  have e : rts t x = (t.roots ++ List.replicate (min (sk t x) 24) []) ++ [x.root] := by unfold rts; rw [List.append_assoc]
  have ec := rcut_last (t.roots ++ List.replicate (min (sk t x) 24) []) x.root
  rw [← e] at ec
  unfold tFault stT
  dsimp only
  rw [if_neg (fun k => k hx), if_neg (fun k => k hs), if_neg (fun k => k hd), if_neg (fun k => k q3), if_neg (by omega), if_neg (by omega)]
  refine rEnd_zero (fun b hb => ?_) ?_
  · rw [ec] at hb
    rcases List.mem_append.1 hb with k | k
    · rcases List.mem_append.1 (List.mem_of_mem_drop k) with k | k
      · exact b4 b k
      · rw [List.eq_of_mem_replicate k]; rfl
    · simp at k; subst k; exact badR_32 x1.1
  · rw [ec]; simp
theorem c107 (code : List UInt8) (low : Int) (hc : code.length ≤ 1099511627776) (hlo : 1 ≤ low ∧ low ≤ 2) :
    Ex (fun r => ∃ (t : Tr) (l : List Vd) (x : HB) (us : List Vt) (p : List Vd) (n : Int), r = .tup [V.int .i64 t.hd.hgt, V.int .i64 t.hd.tim, V.sl t.hd.root.length (bytesV t.hd.root), V.sl t.hd.set.length (bytesV t.hd.set), V.sl t.hd.nxt.length (bytesV t.hd.nxt), V.sl t.nx.length (vsS t.nx), V.int .i64 t.per, V.bool t.pau, V.sl t.roots.length (psS t.roots), V.int .i64 t.frm, V.sl l.length (vsS l), V.int .i64 x.hgt, V.int .i64 x.tim, V.sl x.root.length (bytesV x.root), V.sl x.set.length (bytesV x.set), V.sl x.nxt.length (bytesV x.nxt), V.sl us.length (vtsS us), V.sl p.length (vsS p), V.int .i64 n] ∧ fitT t ∧ fitV l ∧ fitH x ∧ vtsfit us ∧ fitV p) (runE C 107 [.sl code.length (bytesV code), .int .i64 low]) := by
  refine Ex.run (fun h => E107 _ _ _ h) ?_
  unfold T107
  refine xW (c66 code 0 hc (by omega)) ?_
  rintro _ ⟨_, a1, rfl, p1, q1, t, sd, ev, rfl, ht, hd0, ho0⟩
  repeat first | (with_reducible refine xT ?_) | ((with_reducible refine xIg (n := ?_) ?_ ?_); rotate_left; exact rfl) | ((with_reducible refine xBg (n := ?_) ?_ ?_); rotate_left; exact rfl) | ((with_reducible refine xSg (n := ?_) ?_ ?_); rotate_left; exact rfl) | ((with_reducible refine xLg (n := ?_) (cs := ?_) ?_ ?_); rotate_left 2; exact rfl) | ((with_reducible refine xOg (n := ?_) (cs := ?_) ?_ ?_); rotate_left 2; exact rfl)
  have hf := okT_fit ht
  obtain ⟨g1, g2, g3, g4, g5, g6, g7⟩ := id ht
  refine xW (c40 code a1 2 hc (by omega)) ?_
  rintro _ ⟨_, a2, rfl, p2, q2, z, rfl⟩
  repeat first | (with_reducible refine xT ?_) | ((with_reducible refine xIg (n := ?_) ?_ ?_); rotate_left; exact rfl) | ((with_reducible refine xBg (n := ?_) ?_ ?_); rotate_left; exact rfl) | ((with_reducible refine xSg (n := ?_) ?_ ?_); rotate_left; exact rfl) | ((with_reducible refine xLg (n := ?_) (cs := ?_) ?_ ?_); rotate_left 2; exact rfl) | ((with_reducible refine xOg (n := ?_) (cs := ?_) ?_ ?_); rotate_left 2; exact rfl)
  cases z
  · have hl : 1 ≤ t.nx.length ∧ t.nx.length ≤ 3 := ⟨g4.1, g4.2.1⟩
    have hs := g4.2.2
    have hd : sd.length ≤ 5 := by omega
    have ho := ho0
    try simp only [both_self']
    refine xW (c94 code a2 [0, 1, 2, 30, -1] (by decide) hc (by omega)) ?_
    rintro _ ⟨_, b1, rfl, pb1, qb1, v, rfl, hv⟩
    repeat first | (with_reducible refine xT ?_) | ((with_reducible refine xIg (n := ?_) ?_ ?_); rotate_left; exact rfl) | ((with_reducible refine xBg (n := ?_) ?_ ?_); rotate_left; exact rfl) | ((with_reducible refine xSg (n := ?_) ?_ ?_); rotate_left; exact rfl) | ((with_reducible refine xLg (n := ?_) (cs := ?_) ?_ ?_); rotate_left 2; exact rfl) | ((with_reducible refine xOg (n := ?_) (cs := ?_) ?_ ?_); rotate_left 2; exact rfl)
    have hv : -1 ≤ v ∧ v ≤ 30 := by simp at hv; omega
    have w1 : IntKind.i64.wrap (t.hd.hgt + low) = t.hd.hgt + low := w64 (by omega) (by omega)
    have w2 : IntKind.i64.wrap (t.hd.hgt + low + v) = t.hd.hgt + low + v := w64 (by omega) (by omega)
    simp only [w1, w2]
    refine xW (c93 code b1 t sd ev (t.hd.hgt + low + v) t.nx sd hc (by omega) g2 (by omega) hl hs hd ho) ?_
    rintro _ ⟨_, b2, rfl, pb2, qb2, x, us, p, rfl, hx, hu, hp⟩
    repeat first | (with_reducible refine xT ?_) | ((with_reducible refine xIg (n := ?_) ?_ ?_); rotate_left; exact rfl) | ((with_reducible refine xBg (n := ?_) ?_ ?_); rotate_left; exact rfl) | ((with_reducible refine xSg (n := ?_) ?_ ?_); rotate_left; exact rfl) | ((with_reducible refine xLg (n := ?_) (cs := ?_) ?_ ?_); rotate_left 2; exact rfl) | ((with_reducible refine xOg (n := ?_) (cs := ?_) ?_ ?_); rotate_left 2; exact rfl)
    refine xW (c40 code b2 20 hc (by omega)) ?_
    rintro _ ⟨_, b3, rfl, pb3, qb3, z, rfl⟩
    repeat first | (with_reducible refine xT ?_) | ((with_reducible refine xIg (n := ?_) ?_ ?_); rotate_left; exact rfl) | ((with_reducible refine xBg (n := ?_) ?_ ?_); rotate_left; exact rfl) | ((with_reducible refine xSg (n := ?_) ?_ ?_); rotate_left; exact rfl) | ((with_reducible refine xLg (n := ?_) (cs := ?_) ?_ ?_); rotate_left 2; exact rfl) | ((with_reducible refine xOg (n := ?_) (cs := ?_) ?_ ?_); rotate_left 2; exact rfl)
    cases z
    · refine xW (c73 code b3 t x us hc (by omega)) ?_
      rintro _ ⟨_, b4, rfl, p4, q4, n, rfl⟩
      repeat first | (with_reducible refine xT ?_) | ((with_reducible refine xIg (n := ?_) ?_ ?_); rotate_left; exact rfl) | ((with_reducible refine xBg (n := ?_) ?_ ?_); rotate_left; exact rfl) | ((with_reducible refine xSg (n := ?_) ?_ ?_); rotate_left; exact rfl) | ((with_reducible refine xLg (n := ?_) (cs := ?_) ?_ ?_); rotate_left 2; exact rfl) | ((with_reducible refine xOg (n := ?_) (cs := ?_) ?_ ?_); rotate_left 2; exact rfl)
      exact ⟨_, rfl, t, t.nx, x, us, p, n, rfl, hf, okS_fit hl.2 hs, hx, hu, hp⟩
    · refine xW (c95 code b3 t hc (by omega) ht) ?_
      rintro _ ⟨_, b4, rfl, p4, q4, y, rfl, hy⟩
      repeat first | (with_reducible refine xT ?_) | ((with_reducible refine xIg (n := ?_) ?_ ?_); rotate_left; exact rfl) | ((with_reducible refine xBg (n := ?_) ?_ ?_); rotate_left; exact rfl) | ((with_reducible refine xSg (n := ?_) ?_ ?_); rotate_left; exact rfl) | ((with_reducible refine xLg (n := ?_) (cs := ?_) ?_ ?_); rotate_left 2; exact rfl) | ((with_reducible refine xOg (n := ?_) (cs := ?_) ?_ ?_); rotate_left 2; exact rfl)
      refine xW (c73 code b4 t x us hc (by omega)) ?_
      rintro _ ⟨_, b5, rfl, p5, q5, n, rfl⟩
      repeat first | (with_reducible refine xT ?_) | ((with_reducible refine xIg (n := ?_) ?_ ?_); rotate_left; exact rfl) | ((with_reducible refine xBg (n := ?_) ?_ ?_); rotate_left; exact rfl) | ((with_reducible refine xSg (n := ?_) ?_ ?_); rotate_left; exact rfl) | ((with_reducible refine xLg (n := ?_) (cs := ?_) ?_ ?_); rotate_left 2; exact rfl) | ((with_reducible refine xOg (n := ?_) (cs := ?_) ?_ ?_); rotate_left 2; exact rfl)
      exact ⟨_, rfl, y, t.nx, x, us, p, n, rfl, hy, okS_fit hl.2 hs, hx, hu, hp⟩
  · refine xW (c41 code a2 3 hc (by omega)) ?_
    rintro _ ⟨_, a3, rfl, p3, q3, j, rfl, hj0, hj1, _⟩
    repeat first | (with_reducible refine xT ?_) | ((with_reducible refine xIg (n := ?_) ?_ ?_); rotate_left; exact rfl) | ((with_reducible refine xBg (n := ?_) ?_ ?_); rotate_left; exact rfl) | ((with_reducible refine xSg (n := ?_) ?_ ?_); rotate_left; exact rfl) | ((with_reducible refine xLg (n := ?_) (cs := ?_) ?_ ?_); rotate_left 2; exact rfl) | ((with_reducible refine xOg (n := ?_) (cs := ?_) ?_ ?_); rotate_left 2; exact rfl)
    have hj1 := hj1 (by omega)
    obtain ⟨j, rfl⟩ := Int.eq_ofNat_of_zero_le hj0
    refine xW (c41 code a3 2 hc (by omega)) ?_
    rintro _ ⟨_, a4, rfl, p4, q4, f, rfl, hf0, hf1, _⟩
    repeat first | (with_reducible refine xT ?_) | ((with_reducible refine xIg (n := ?_) ?_ ?_); rotate_left; exact rfl) | ((with_reducible refine xBg (n := ?_) ?_ ?_); rotate_left; exact rfl) | ((with_reducible refine xSg (n := ?_) ?_ ?_); rotate_left; exact rfl) | ((with_reducible refine xLg (n := ?_) (cs := ?_) ?_ ?_); rotate_left 2; exact rfl) | ((with_reducible refine xOg (n := ?_) (cs := ?_) ?_ ?_); rotate_left 2; exact rfl)
    have hf1 := hf1 (by omega)
    have wj : IntKind.i64.wrap (1 + (j : Int)) = ((1 + j : Nat) : Int) := by rw [w64 (by omega) (by omega)]; omega
    rw [wj]
    refine xW (c67 code a4 (1 + j) f hc (by omega) (by omega) (by omega)) ?_
    rintro _ ⟨_, a5, rfl, p5, q5, se, l, rfl, hse, hl, ho, hs⟩
    repeat first | (with_reducible refine xT ?_) | ((with_reducible refine xIg (n := ?_) ?_ ?_); rotate_left; exact rfl) | ((with_reducible refine xBg (n := ?_) ?_ ?_); rotate_left; exact rfl) | ((with_reducible refine xSg (n := ?_) ?_ ?_); rotate_left; exact rfl) | ((with_reducible refine xLg (n := ?_) (cs := ?_) ?_ ?_); rotate_left 2; exact rfl) | ((with_reducible refine xOg (n := ?_) (cs := ?_) ?_ ?_); rotate_left 2; exact rfl)
    have hl : 1 ≤ l.length ∧ l.length ≤ 3 := by omega
    have hd : se.length ≤ 5 := by omega
    try simp only [both_self']
    refine xW (c94 code a5 [0, 1, 2, 30, -1] (by decide) hc (by omega)) ?_
    rintro _ ⟨_, b1, rfl, pb1, qb1, v, rfl, hv⟩
    repeat first | (with_reducible refine xT ?_) | ((with_reducible refine xIg (n := ?_) ?_ ?_); rotate_left; exact rfl) | ((with_reducible refine xBg (n := ?_) ?_ ?_); rotate_left; exact rfl) | ((with_reducible refine xSg (n := ?_) ?_ ?_); rotate_left; exact rfl) | ((with_reducible refine xLg (n := ?_) (cs := ?_) ?_ ?_); rotate_left 2; exact rfl) | ((with_reducible refine xOg (n := ?_) (cs := ?_) ?_ ?_); rotate_left 2; exact rfl)
    have hv : -1 ≤ v ∧ v ≤ 30 := by simp at hv; omega
    have w1 : IntKind.i64.wrap (t.hd.hgt + low) = t.hd.hgt + low := w64 (by omega) (by omega)
    have w2 : IntKind.i64.wrap (t.hd.hgt + low + v) = t.hd.hgt + low + v := w64 (by omega) (by omega)
    simp only [w1, w2]
    refine xW (c93 code b1 t sd ev (t.hd.hgt + low + v) l se hc (by omega) g2 (by omega) hl hs hd ho) ?_
    rintro _ ⟨_, b2, rfl, pb2, qb2, x, us, p, rfl, hx, hu, hp⟩
    repeat first | (with_reducible refine xT ?_) | ((with_reducible refine xIg (n := ?_) ?_ ?_); rotate_left; exact rfl) | ((with_reducible refine xBg (n := ?_) ?_ ?_); rotate_left; exact rfl) | ((with_reducible refine xSg (n := ?_) ?_ ?_); rotate_left; exact rfl) | ((with_reducible refine xLg (n := ?_) (cs := ?_) ?_ ?_); rotate_left 2; exact rfl) | ((with_reducible refine xOg (n := ?_) (cs := ?_) ?_ ?_); rotate_left 2; exact rfl)
    refine xW (c40 code b2 20 hc (by omega)) ?_
    rintro _ ⟨_, b3, rfl, pb3, qb3, z, rfl⟩
    repeat first | (with_reducible refine xT ?_) | ((with_reducible refine xIg (n := ?_) ?_ ?_); rotate_left; exact rfl) | ((with_reducible refine xBg (n := ?_) ?_ ?_); rotate_left; exact rfl) | ((with_reducible refine xSg (n := ?_) ?_ ?_); rotate_left; exact rfl) | ((with_reducible refine xLg (n := ?_) (cs := ?_) ?_ ?_); rotate_left 2; exact rfl) | ((with_reducible refine xOg (n := ?_) (cs := ?_) ?_ ?_); rotate_left 2; exact rfl)
    cases z
    · refine xW (c73 code b3 t x us hc (by omega)) ?_
      rintro _ ⟨_, b4, rfl, p4, q4, n, rfl⟩
      repeat first | (with_reducible refine xT ?_) | ((with_reducible refine xIg (n := ?_) ?_ ?_); rotate_left; exact rfl) | ((with_reducible refine xBg (n := ?_) ?_ ?_); rotate_left; exact rfl) | ((with_reducible refine xSg (n := ?_) ?_ ?_); rotate_left; exact rfl) | ((with_reducible refine xLg (n := ?_) (cs := ?_) ?_ ?_); rotate_left 2; exact rfl) | ((with_reducible refine xOg (n := ?_) (cs := ?_) ?_ ?_); rotate_left 2; exact rfl)
      exact ⟨_, rfl, t, l, x, us, p, n, rfl, hf, okS_fit hl.2 hs, hx, hu, hp⟩
    · refine xW (c95 code b3 t hc (by omega) ht) ?_
      rintro _ ⟨_, b4, rfl, p4, q4, y, rfl, hy⟩
      repeat first | (with_reducible refine xT ?_) | ((with_reducible refine xIg (n := ?_) ?_ ?_); rotate_left; exact rfl) | ((with_reducible refine xBg (n := ?_) ?_ ?_); rotate_left; exact rfl) | ((with_reducible refine xSg (n := ?_) ?_ ?_); rotate_left; exact rfl) | ((with_reducible refine xLg (n := ?_) (cs := ?_) ?_ ?_); rotate_left 2; exact rfl) | ((with_reducible refine xOg (n := ?_) (cs := ?_) ?_ ?_); rotate_left 2; exact rfl)
      refine xW (c73 code b4 t x us hc (by omega)) ?_
      rintro _ ⟨_, b5, rfl, p5, q5, n, rfl⟩
      repeat first | (with_reducible refine xT ?_) | ((with_reducible refine xIg (n := ?_) ?_ ?_); rotate_left; exact rfl) | ((with_reducible refine xBg (n := ?_) ?_ ?_); rotate_left; exact rfl) | ((with_reducible refine xSg (n := ?_) ?_ ?_); rotate_left; exact rfl) | ((with_reducible refine xLg (n := ?_) (cs := ?_) ?_ ?_); rotate_left 2; exact rfl) | ((with_reducible refine xOg (n := ?_) (cs := ?_) ?_ ?_); rotate_left 2; exact rfl)
      exact ⟨_, rfl, y, l, x, us, p, n, rfl, hy, okS_fit hl.2 hs, hx, hu, hp⟩
theorem c33 (code : List UInt8) (hc : code.length ≤ 1099511627776) : Ex (fun r => ∃ (t : Tr) (l : List Vd) (x : HB) (us : List Vt) (p : List Vd) (n : Int), r = .tup [V.int .i64 t.hd.hgt, V.int .i64 t.hd.tim, V.sl t.hd.root.length (bytesV t.hd.root), V.sl t.hd.set.length (bytesV t.hd.set), V.sl t.hd.nxt.length (bytesV t.hd.nxt), V.sl t.nx.length (vsS t.nx), V.int .i64 t.per, V.bool t.pau, V.sl t.roots.length (psS t.roots), V.int .i64 t.frm, V.sl l.length (vsS l), V.int .i64 x.hgt, V.int .i64 x.tim, V.sl x.root.length (bytesV x.root), V.sl x.set.length (bytesV x.set), V.sl x.nxt.length (bytesV x.nxt), V.sl us.length (vtsS us), V.sl p.length (vsS p), V.int .i64 n] ∧ fitT t ∧ fitV l ∧ fitH x ∧ vtsfit us ∧ fitV p) (runE C 33 [.sl code.length (bytesV code)]) := by
  refine Ex.run (fun h => E33 _ _ h) ?_
  unfold T33
  obtain ⟨_, k, t, l, x, us, p, n, rfl, hh⟩ := c107 code 1 hc (by omega)
  refine xN k ?_
  repeat first | (with_reducible refine xT ?_) | ((with_reducible refine xIg (n := ?_) ?_ ?_); rotate_left; exact rfl) | ((with_reducible refine xBg (n := ?_) ?_ ?_); rotate_left; exact rfl) | ((with_reducible refine xSg (n := ?_) ?_ ?_); rotate_left; exact rfl) | ((with_reducible refine xLg (n := ?_) (cs := ?_) ?_ ?_); rotate_left 2; exact rfl) | ((with_reducible refine xOg (n := ?_) (cs := ?_) ?_ ?_); rotate_left 2; exact rfl)
  exact ⟨_, rfl, t, l, x, us, p, n, rfl, hh⟩
theorem c20 (a b : List UInt8) : runE C 20 [.sl a.length (bytesV a), .sl b.length (bytesV b)] = some (.tup [.bool (decide (a = b))]) := by
  refine E20 _ _ _ _ ?_
  unfold T20
  simp only [S0, packB_bytesV, strEq_mk, decide_true]
theorem c37 (l : List Vd) (x : HB) (vs : List Vt) (hl : fitV l) (hf : vtsfit vs) (g : sgFault l x vs = 0) (h : mostV l vs = true) : runE C 37 [.sl l.length (vsS l), .agg [.int .i64 x.hgt, .int .i64 x.tim, .sl x.root.length (bytesV x.root), .sl x.set.length (bytesV x.set), .sl x.nxt.length (bytesV x.nxt), .sl vs.length (vtsS vs)]] = some (.tup [.bool true]) := by
  obtain ⟨q1, q2, q3, q4⟩ := sgFault_ok g
  have k := c75 l x vs hl hf
  have k2 := c90 l x vs q1 q3 q4
  rw [g] at k
  rw [h] at k2
  refine E37 _ _ _ _ _ _ _ _ _ _ _ _ ?_
  unfold T37
  simp only [S0, k, k2, beq_self_eq_true]
theorem at_last (t : Tr) (h : tFault t = 0) : ∃ d : List (List UInt8), t.roots = d ++ [t.hd.root] ∧ (d.length : Int) = t.hd.hgt - t.frm := by
  obtain ⟨a1, a2, a3⟩ := tFault_more h
  obtain ⟨b1, b2, b3, b4, b5⟩ := tFault_all h
  rcases List.eq_nil_or_concat t.roots with e | ⟨d, b, e⟩
  · exact absurd (by rw [e]; rfl) b2
  · rw [List.concat_eq_append] at e
    rw [e] at b5
    have hb : b = t.hd.root := by simpa using b5
    rw [hb] at e
    exact ⟨d, e, by rw [e] at a2; simp at a2; omega⟩
theorem c36 (t : Tr) (h : tFault t = 0) (hf : fitT t) : runE C 36 [.agg [.int .i64 t.hd.hgt, .int .i64 t.hd.tim, .sl t.hd.root.length (bytesV t.hd.root), .sl t.hd.set.length (bytesV t.hd.set), .sl t.hd.nxt.length (bytesV t.hd.nxt), .sl t.nx.length (vsS t.nx), .int .i64 t.per, .bool t.pau, .sl t.roots.length (psS t.roots), .int .i64 t.frm], .int .i64 t.hd.hgt] = some (.tup [.int .i64 0, .sl t.hd.root.length (bytesV t.hd.root)]) := by
  obtain ⟨a1, a2, a3⟩ := tFault_more h
  obtain ⟨b1, b2, b3, b4, b5⟩ := tFault_all h
  have q4 := Go.PI.Set.hbFault_ok (tFault_parts h).1
  obtain ⟨d, e, e2⟩ := at_last t h
  have k := c31 t hf.1 hf.2.1 hf.2.2
  rw [h] at k
  have k2 : runE C 109 [.agg [.int .i64 t.hd.hgt, .int .i64 t.hd.tim, .sl t.hd.root.length (bytesV t.hd.root), .sl t.hd.set.length (bytesV t.hd.set), .sl t.hd.nxt.length (bytesV t.hd.nxt), .sl t.nx.length (vsS t.nx), .int .i64 t.per, .bool t.pau, .sl t.roots.length (psS t.roots), .int .i64 t.frm], .int .i64 t.hd.hgt] = some (.tup [.sl t.hd.root.length (bytesV t.hd.root), .bool true]) := by
    refine E109 _ _ _ _ _ _ _ _ _ _ _ _ _ _ _ _ ?_
    unfold T109
    have w : IntKind.i64.wrap (t.hd.hgt - t.frm) = (d.length : Int) := by rw [w64 (by omega) (by omega)]; omega
    have hin : decide (t.frm ≤ t.hd.hgt ∧ t.hd.hgt ≤ t.hd.hgt) = true := decide_eq_true (by omega)
    have hi : d.length < t.roots.length := by rw [e]; simp
    have hg : (psS t.roots)[d.length]? = some (.sl t.hd.root.length (bytesV t.hd.root)) := by rw [e]; exact psS_at d t.hd.root []
    have hz : decide ((t.hd.root.length : Int) > 0) = true := decide_eq_true (by omega)
    have hj : d.length < (psS t.roots).length := by rw [psS_length]; exact hi
    simp only [S0, c51, hin, w, hi, hj, hg, hz]
  refine E36 _ _ _ _ _ _ _ _ _ _ _ _ _ _ _ _ ?_
  unfold T36
  simp only [S0, k, bne_f, k2, c110 t.hd.root (by omega)]
theorem stp_zero {t : Tr} {x : HB} {p : List Vd} (h : (stp t x p).1 = 0) : stp t x p = (0, stT t x p) ∧ setFault p = 0 ∧ x.nxt = setDig p := by
  unfold stp at h ⊢
  by_cases g : setFault p = 0
  case neg => rw [if_pos g] at h; exact absurd h g
  rw [if_neg (fun k => k g)] at h ⊢
  by_cases g2 : x.nxt = setDig p
  case neg => rw [if_pos g2] at h; cases h
  rw [if_neg (fun k => k g2)]
  exact ⟨rfl, g, g2⟩
theorem stepTo_zero {t : Tr} {l : List Vd} {x : HB} {us : List Vt} {p : List Vd} {n : Int} (h : (stepTo t l x us p n).1 = 0) : tFault t = 0 ∧ stepTo t l x us p n = (0, stT t x p) ∧ setFault p = 0 ∧ x.nxt = setDig p ∧ hbFault x = 0 ∧
    (x.hgt = t.hd.hgt + 1 ∧ sgFault t.nx x us = 0 ∧ mostV t.nx us = true ∨ x.hgt > t.hd.hgt + 1 ∧ sgFault l x us = 0 ∧ mostV l us = true) := by
  unfold stepTo at h ⊢
  by_cases g : stF t n = 0
  case neg => rw [if_pos g] at h; exact absurd h g
  rw [if_neg (fun k => k g)] at h ⊢
  refine ⟨(stF_ok g).1, ?_⟩
  by_cases c : x.hgt ≤ t.hd.hgt + 1
  · rw [if_pos c] at h ⊢
    unfold nextP at h ⊢
    by_cases g1 : sgFault t.nx x us = 0
    case neg => rw [if_pos g1] at h; exact absurd h g1
    rw [if_neg (fun k => k g1)] at h ⊢
    by_cases g2 : tmF t x (decide (x.hgt = t.hd.hgt + 1)) n = 0
    case neg => rw [if_pos g2] at h; exact absurd h g2
    rw [if_neg (fun k => k g2)] at h ⊢
    by_cases g3 : mostV t.nx us = true
    case neg => rw [if_neg g3] at h; cases h
    rw [if_pos g3] at h ⊢
    obtain ⟨s1, s2, s3⟩ := stp_zero h
    exact ⟨s1, s2, s3, (sgFault_ok g1).2.1, .inl ⟨of_decide_eq_true (tm_ok g2).1, g1, g3⟩⟩
  · rw [if_neg c] at h ⊢
    unfold skipP at h ⊢
    by_cases g1 : sgFault l x us = 0
    case neg => rw [if_pos g1] at h; exact absurd h g1
    rw [if_neg (fun k => k g1)] at h ⊢
    by_cases g2 : tmF t x (decide (x.hgt > t.hd.hgt + 1)) n = 0
    case neg => rw [if_pos g2] at h; exact absurd h g2
    rw [if_neg (fun k => k g2)] at h ⊢
    by_cases g3 : (mostV l us && shd t l us) = true
    case neg => rw [if_neg g3] at h; cases h
    rw [if_pos g3] at h ⊢
    obtain ⟨s1, s2, s3⟩ := stp_zero h
    simp only [Bool.and_eq_true] at g3
    exact ⟨s1, s2, s3, (sgFault_ok g1).2.1, .inr ⟨by omega, g1, g3.1⟩⟩
theorem stepTo_again (t : Tr) (l : List Vd) (x : HB) (us : List Vt) (p : List Vd) (n : Int) : (stepTo (stT t x p) l x us p n).1 ≠ 0 := by
  intro h
  obtain ⟨_, _, _, _, _, k⟩ := stepTo_zero h
  have e : (stT t x p).hd.hgt = x.hgt := rfl
  rw [e] at k
  omega
theorem c7 (code : List UInt8) (h : code.length ≤ 9223372036854775807) : runE C 7 [.sl code.length (bytesV code)] = some (.tup [.bool true]) := by
  refine E7 _ _ ?_
  unfold T7
  have k0 := c8 code
  by_cases g : (code.length : Int) > 1048576
  · rw [decide_eq_true g] at k0
    simp only [S0, k0]
  rw [decide_eq_false g] at k0
  obtain ⟨_, hr, t, l, x, us, p, n, rfl, hf, hl, hx, hu, hp⟩ := c33 code (by omega)
  have ka := c34 t l x us p n hf.1 hf.2.1 hf.2.2 hl hu hp
  have kb := c35 t l x us p n hf.1 hf.2.1 hf.2.2 hl hu hp
  by_cases g1 : (stepTo t l x us p n).1 = 0
  case neg =>
    generalize stepTo t l x us p n = r at ka kb g1
    simp only [S0, k0, hr, ka, bne_t g1, kb, beq_self_eq_true]
  obtain ⟨e1, e2, e3, e4, e5, e6⟩ := stepTo_zero g1
  have hgt : t.hd.hgt < x.hgt := by omega
  have q4 := Go.PI.Set.hbFault_ok (tFault_parts e1).1
  have hR := stT_ok e1 e5 hgt e3 e4
  have fR := stT_fit e1 e5 hp (nx := p)
  rw [e2] at ka
  have kt := c31 (stT t x p) fR.1 fR.2.1 fR.2.2
  rw [hR] at kt
  have kr := c36 (stT t x p) hR fR
  have kz := c34 (stT t x p) l x us p n fR.1 fR.2.1 fR.2.2 hl hu hp
  have gz := stepTo_again t l x us p n
  generalize stepTo (stT t x p) l x us p n = z at kz gz
  have kw := c20 x.root x.root
  rw [decide_eq_true rfl] at kw
  have w1 : IntKind.i64.wrap (t.hd.hgt + 1) = t.hd.hgt + 1 := w64 (by omega) (by omega)
  dsimp only [stT] at ka kt kr kz
  generalize rcut (rts t x) = rr at ka kt kr kz
  rcases e6 with ⟨c1, c2, c3⟩ | ⟨c1, c2, c3⟩
  · have km := c37 t.nx x us hf.2.1 hu c2 c3
    have t1 : decide (x.hgt > t.hd.hgt + 1) = false := decide_eq_false (by omega)
    have t2 : (x.hgt == t.hd.hgt + 1) = true := by rw [c1]; exact beq_self_eq_true _
    simp only [S0, k0, hr, ka, bne_f, w1, vs_bare, ps_bare, kr, t1, t2, km, kt, beq_self_eq_true, kw, kz, bne_t gz]
  · have km := c37 l x us hl hu c2 c3
    have t1 : decide (x.hgt > t.hd.hgt + 1) = true := decide_eq_true c1
    have t2 : (x.hgt == t.hd.hgt + 1) = false := beq_f (by omega)
    simp only [S0, k0, hr, ka, bne_f, w1, vs_bare, ps_bare, kr, t1, t2, km, kt, beq_self_eq_true, kw, kz, bne_t gz]
end Go.Proofs.YtodapaplfjfnlaaGreat.Vote
