/-
  FnFrauds: what it comes to.
-/
import Derived.Test.YtodapaplfjfnlaaGreatPLStepTF
import Derived.Test.YtodapaplfjfnlaaGreatPLDrawTTF
namespace Go.Proofs.YtodapaplfjfnlaaGreat.Vote
open Go Go.PI Go.PI.Sha Go.PI.Rel Go.PI.Nest Go.PI.Tru Go.PI.Set Go.PI.Tree Go.PI.Vote Go.Proofs.YtodapaplfjfnlaaGreat.Sha Go.Proofs.YtodapaplfjfnlaaGreat.By Go.Proofs.YtodapaplfjfnlaaGreat.Nest Go.Proofs.YtodapaplfjfnlaaGreat.Tru Go.Proofs.YtodapaplfjfnlaaGreat.Set Go.Proofs.YtodapaplfjfnlaaGreat.Tree EqF
set_option maxHeartbeats 1000000
set_option linter.unusedVariables false
set_option linter.unusedSimpArgs false
theorem tFault_all {t : Tr} (h : tFault t = 0) : 1 ≤ t.frm ∧ t.roots.length ≠ 0 ∧ t.hd.nxt = setDig t.nx ∧ (∀ b ∈ t.roots, badR b = false) ∧ t.roots.getLastD [] = t.hd.root := by
  obtain ⟨g0, g1, g3⟩ := tFault_parts h
  unfold tFault at h
  rw [if_neg (fun k => k g0), if_neg (fun k => k g1)] at h
  by_cases g2 : t.hd.nxt = setDig t.nx
  case neg => rw [if_pos g2] at h; cases h
  rw [if_neg (fun h => h g2), if_neg (fun h => h g3)] at h
  by_cases g4 : 24 < t.roots.length
  · rw [if_pos g4] at h; cases h
  rw [if_neg g4] at h
  by_cases g5 : t.roots.length = 0 ∨ t.frm < 1 ∨ t.frm + t.roots.length - 1 ≠ t.hd.hgt
  · rw [if_pos g5] at h; cases h
  rw [if_neg g5] at h
  unfold rEnd at h
  cases e : t.roots.any badR with
  | true => rw [e] at h; cases h
  | false =>
    rw [e] at h
    by_cases g6 : t.roots.getLastD [] = t.hd.root
    · refine ⟨by omega, by omega, g2, fun b hb => ?_, g6⟩
      simpa using List.any_eq_false.1 e b hb
    · rw [decide_eq_false g6] at h; cases h
theorem rEnd_zero {l : List (List UInt8)} {b : List UInt8} (h : ∀ x ∈ l, badR x = false) (h2 : l.getLastD [] = b) : rEnd l (l.getLastD []) b = 0 := by
  unfold rEnd
  rw [List.any_eq_false.2 (fun x hx => by rw [h x hx]; decide), decide_eq_true h2]; rfl
theorem badR_32 {b : List UInt8} (h : b.length = 32) : badR b = false := by unfold badR; rw [decide_eq_false (by omega)]
def resumeTrust (t : Tr) (x : HB) (l : List Vd) : Int × Tr := if tFault t ≠ 0 then (tFault t, noT) else if t.pau = false then (1, noT) else if x.hgt ≤ t.hd.hgt then (3, noT) else newTrust x l t.per
theorem c25 (t : Tr) (x : HB) (l : List Vd) (ht : fitT t) (h : fitH x) (h1 : fitV l) : runE C 25 [.agg [.int .i64 t.hd.hgt, .int .i64 t.hd.tim, .sl t.hd.root.length (bytesV t.hd.root), .sl t.hd.set.length (bytesV t.hd.set), .sl t.hd.nxt.length (bytesV t.hd.nxt), .sl t.nx.length (vsS t.nx), .int .i64 t.per, .bool t.pau, .sl t.roots.length (psS t.roots), .int .i64 t.frm], .agg [.int .i64 x.hgt, .int .i64 x.tim, .sl x.root.length (bytesV x.root), .sl x.set.length (bytesV x.set), .sl x.nxt.length (bytesV x.nxt)], .sl l.length (vsS l)] = some (.tup [.int .i64 (resumeTrust t x l).1, .int .i64 (resumeTrust t x l).2.hd.hgt, .int .i64 (resumeTrust t x l).2.hd.tim, .osl (resumeTrust t x l).2.hd.root.length (bytesV (resumeTrust t x l).2.hd.root), .osl (resumeTrust t x l).2.hd.set.length (bytesV (resumeTrust t x l).2.hd.set), .osl (resumeTrust t x l).2.hd.nxt.length (bytesV (resumeTrust t x l).2.hd.nxt), .osl (resumeTrust t x l).2.nx.length (vsO (resumeTrust t x l).2.nx), .int .i64 (resumeTrust t x l).2.per, .bool (resumeTrust t x l).2.pau, .osl (resumeTrust t x l).2.roots.length (psO (resumeTrust t x l).2.roots), .int .i64 (resumeTrust t x l).2.frm]) := by
  refine E25 _ _ _ _ _ _ _ _ _ _ _ _ _ _ _ _ _ _ _ _ _ _ _ _ _ ?_
  unfold T25
  have k := c31 t ht.1 ht.2.1 ht.2.2
  have k2 := c87 x l t.per h h1
  unfold resumeTrust
  by_cases g : tFault t = 0
  · rw [if_neg (by simp [g])]
    rw [g] at k
    cases hp : t.pau with
    | false =>
      rw [if_pos rfl]
      rw [hp] at k
      simp only [S0, k, bne_f]
      rfl
    | true =>
      rw [if_neg (by simp)]
      rw [hp] at k
      by_cases g2 : x.hgt ≤ t.hd.hgt
      · rw [if_pos g2]
        simp only [S0, k, bne_f, g2]
        rfl
      · rw [if_neg g2]
        simp only [S0, k, bne_f, g2, k2]
  · rw [if_pos g]
    simp only [S0, k, bne_t g]
    rfl
theorem c27 (t : Tr) (n : Int) (h : tFault t = 0) (hp : t.pau = true) (hf : fitT t) : runE C 27 [.agg [.int .i64 t.hd.hgt, .int .i64 t.hd.tim, .sl t.hd.root.length (bytesV t.hd.root), .sl t.hd.set.length (bytesV t.hd.set), .sl t.hd.nxt.length (bytesV t.hd.nxt), .sl t.nx.length (vsS t.nx), .int .i64 t.per, .bool t.pau, .sl t.roots.length (psS t.roots), .int .i64 t.frm], .int .i64 n, .sl 0 [], .agg [.int .i64 0, .int .i64 0, .sl 0 []]] = some (.tup [.int .i64 9]) := by
  have k := c31 t hf.1 hf.2.1 hf.2.2
  have k2 : runE C 92 [.agg [.int .i64 t.hd.hgt, .int .i64 t.hd.tim, .sl t.hd.root.length (bytesV t.hd.root), .sl t.hd.set.length (bytesV t.hd.set), .sl t.hd.nxt.length (bytesV t.hd.nxt), .sl t.nx.length (vsS t.nx), .int .i64 t.per, .bool t.pau, .sl t.roots.length (psS t.roots), .int .i64 t.frm], .int .i64 n, .sl 0 [], .agg [.int .i64 0, .int .i64 0, .sl 0 []]] = some (.tup [.int .i64 9]) := by
    refine E92 _ _ _ _ _ _ _ _ _ _ _ _ _ _ _ _ _ _ _ _ _ _ ?_
    unfold T92
    rw [hp]
    rfl
  rw [h] at k
  refine E27 _ _ _ _ _ _ _ _ _ _ _ _ _ _ _ _ _ _ _ _ _ _ ?_
  unfold T27
  simp only [S0, k, bne_f, k2]
theorem sgn (sd : List (List UInt8)) (lf : Nat) (x : HB) (hf : hbFault x = 0) (hlf : lf < 4) (ho : okD sd) (hd : sd.length ≤ 5) (pl : List Int) (h1 : pl.length ≤ 5) (h2 : ∀ k ∈ pl, 0 ≤ k ∧ k ≤ (sd.length : Int) - 1) :
    ∃ us : List Vt, runE C 71 [V.sl sd.length (psS sd), V.sl pl.length (ints pl), V.int .i64 (lf : Int), .agg [.int .i64 x.hgt, .int .i64 x.tim, .sl x.root.length (bytesV x.root), .sl x.set.length (bytesV x.set), .sl x.nxt.length (bytesV x.nxt)]] = some (.tup [.int .i64 x.hgt, .int .i64 x.tim, .sl x.root.length (bytesV x.root), .sl x.set.length (bytesV x.set), .sl x.nxt.length (bytesV x.nxt), .sl us.length (vtsS us)]) ∧ vtsfit us := by
  have k := c71 sd lf x hf hlf (by simp only [Bool.not_eq_true, List.any_eq_false]; intro b hb; have := ho b hb; unfold long; simp; omega) hd pl h1 h2
  have hvf := votes_fit sd (lf : Int) (hbDig x) pl
  have hvl : (pl.map (vote sd (lf : Int) (hbDig x))).length = pl.length := List.length_map _
  exact ⟨_, k, ⟨by omega, by omega, by omega⟩⟩
theorem c21 (code : List UInt8) (hc : code.length ≤ 1099511627776) :
    Ex (fun r => ∃ (t : Tr) (l : List Vd) (x : HB) (vs : List Vt) (y : HB) (us : List Vt) (n : Int), r = .tup [V.int .i64 t.hd.hgt, V.int .i64 t.hd.tim, V.sl t.hd.root.length (bytesV t.hd.root), V.sl t.hd.set.length (bytesV t.hd.set), V.sl t.hd.nxt.length (bytesV t.hd.nxt), V.sl t.nx.length (vsS t.nx), V.int .i64 t.per, V.bool t.pau, V.sl t.roots.length (psS t.roots), V.int .i64 t.frm, V.sl l.length (vsS l), V.int .i64 x.hgt, V.int .i64 x.tim, V.sl x.root.length (bytesV x.root), V.sl x.set.length (bytesV x.set), V.sl x.nxt.length (bytesV x.nxt), V.sl vs.length (vtsS vs), V.int .i64 y.hgt, V.int .i64 y.tim, V.sl y.root.length (bytesV y.root), V.sl y.set.length (bytesV y.set), V.sl y.nxt.length (bytesV y.nxt), V.sl us.length (vtsS us), V.int .i64 n] ∧ okT t ∧ fitV l ∧ vtsfit vs ∧ vtsfit us) (runE C 21 [.sl code.length (bytesV code)]) := by
  refine Ex.run (fun h => E21 _ _ h) ?_
  unfold T21
  refine xW (c66 code 0 hc (by omega)) ?_
  rintro _ ⟨_, a1, rfl, p1, q1, t, sd, ev, rfl, ht, hd, ho⟩
  repeat first | (with_reducible refine xT ?_) | ((with_reducible refine xIg (n := ?_) ?_ ?_); rotate_left; exact rfl) | ((with_reducible refine xBg (n := ?_) ?_ ?_); rotate_left; exact rfl) | ((with_reducible refine xSg (n := ?_) ?_ ?_); rotate_left; exact rfl) | ((with_reducible refine xLg (n := ?_) (cs := ?_) ?_ ?_); rotate_left 2; exact rfl) | ((with_reducible refine xOg (n := ?_) (cs := ?_) ?_ ?_); rotate_left 2; exact rfl)
  obtain ⟨g1, g2, g3, g4, g5, g6, g7⟩ := id ht
  refine xW (c40 code a1 5 hc (by omega)) ?_
  rintro _ ⟨_, a2, rfl, p2, q2, z, rfl⟩
  repeat first | (with_reducible refine xT ?_) | ((with_reducible refine xIg (n := ?_) ?_ ?_); rotate_left; exact rfl) | ((with_reducible refine xBg (n := ?_) ?_ ?_); rotate_left; exact rfl) | ((with_reducible refine xSg (n := ?_) ?_ ?_); rotate_left; exact rfl) | ((with_reducible refine xLg (n := ?_) (cs := ?_) ?_ ?_); rotate_left 2; exact rfl) | ((with_reducible refine xOg (n := ?_) (cs := ?_) ?_ ?_); rotate_left 2; exact rfl)
  cases z
  · have hl : 1 ≤ t.nx.length ∧ t.nx.length ≤ 3 := ⟨g4.1, g4.2.1⟩
    have hs := g4.2.2
    have hd : sd.length ≤ 5 := by omega
    refine xW (c41 code a2 6 hc (by omega)) ?_
    rintro _ ⟨_, b1, rfl, pb1, qb1, h1, rfl, h10, h11, _⟩
    repeat first | (with_reducible refine xT ?_) | ((with_reducible refine xIg (n := ?_) ?_ ?_); rotate_left; exact rfl) | ((with_reducible refine xBg (n := ?_) ?_ ?_); rotate_left; exact rfl) | ((with_reducible refine xSg (n := ?_) ?_ ?_); rotate_left; exact rfl) | ((with_reducible refine xLg (n := ?_) (cs := ?_) ?_ ?_); rotate_left 2; exact rfl) | ((with_reducible refine xOg (n := ?_) (cs := ?_) ?_ ?_); rotate_left 2; exact rfl)
    have h11 := h11 (by omega)
    refine xW (c41 code b1 30 hc (by omega)) ?_
    rintro _ ⟨_, b2, rfl, pb2, qb2, h2, rfl, h20, h21, _⟩
    repeat first | (with_reducible refine xT ?_) | ((with_reducible refine xIg (n := ?_) ?_ ?_); rotate_left; exact rfl) | ((with_reducible refine xBg (n := ?_) ?_ ?_); rotate_left; exact rfl) | ((with_reducible refine xSg (n := ?_) ?_ ?_); rotate_left; exact rfl) | ((with_reducible refine xLg (n := ?_) (cs := ?_) ?_ ?_); rotate_left 2; exact rfl) | ((with_reducible refine xOg (n := ?_) (cs := ?_) ?_ ?_); rotate_left 2; exact rfl)
    have h21 := h21 (by omega)
    have kr := c68 0 [] rfl (by omega) (by simp)
    rw [← root_length []] at kr
    have hrt := root_length []
    generalize root [] = rt at kr hrt
    refine xN kr ?_
    repeat first | (with_reducible refine xT ?_) | ((with_reducible refine xIg (n := ?_) ?_ ?_); rotate_left; exact rfl) | ((with_reducible refine xBg (n := ?_) ?_ ?_); rotate_left; exact rfl) | ((with_reducible refine xSg (n := ?_) ?_ ?_); rotate_left; exact rfl) | ((with_reducible refine xLg (n := ?_) (cs := ?_) ?_ ?_); rotate_left 2; exact rfl) | ((with_reducible refine xOg (n := ?_) (cs := ?_) ?_ ?_); rotate_left 2; exact rfl)
    have kd := c69 t.nx (okS_small hl.2 hs)
    rw [← setDig_length t.nx] at kd
    have hgs := setDig_length t.nx
    generalize setDig t.nx = gs at kd hgs
    refine xN kd ?_
    repeat first | (with_reducible refine xT ?_) | ((with_reducible refine xIg (n := ?_) ?_ ?_); rotate_left; exact rfl) | ((with_reducible refine xBg (n := ?_) ?_ ?_); rotate_left; exact rfl) | ((with_reducible refine xSg (n := ?_) ?_ ?_); rotate_left; exact rfl) | ((with_reducible refine xLg (n := ?_) (cs := ?_) ?_ ?_); rotate_left 2; exact rfl) | ((with_reducible refine xOg (n := ?_) (cs := ?_) ?_ ?_); rotate_left 2; exact rfl)
    refine xW (c70 code b2 32 hc (by omega) (by omega)) ?_
    rintro _ ⟨_, b3, rfl, pb3, qb3, gn, rfl, hgn⟩
    repeat first | (with_reducible refine xT ?_) | ((with_reducible refine xIg (n := ?_) ?_ ?_); rotate_left; exact rfl) | ((with_reducible refine xBg (n := ?_) ?_ ?_); rotate_left; exact rfl) | ((with_reducible refine xSg (n := ?_) ?_ ?_); rotate_left; exact rfl) | ((with_reducible refine xLg (n := ?_) (cs := ?_) ?_ ?_); rotate_left 2; exact rfl) | ((with_reducible refine xOg (n := ?_) (cs := ?_) ?_ ?_); rotate_left 2; exact rfl)
    refine xW (c72 code b3 sd.length hc (by omega) (by omega)) ?_
    rintro _ ⟨_, b4, rfl, pb4, qb4, pl, rfl, hpl, hpl2⟩
    repeat first | (with_reducible refine xT ?_) | ((with_reducible refine xIg (n := ?_) ?_ ?_); rotate_left; exact rfl) | ((with_reducible refine xBg (n := ?_) ?_ ?_); rotate_left; exact rfl) | ((with_reducible refine xSg (n := ?_) ?_ ?_); rotate_left; exact rfl) | ((with_reducible refine xLg (n := ?_) (cs := ?_) ?_ ?_); rotate_left 2; exact rfl) | ((with_reducible refine xOg (n := ?_) (cs := ?_) ?_ ?_); rotate_left 2; exact rfl)
    have w1 : IntKind.i64.wrap (1 + h1) = 1 + h1 := w64 (by omega) (by omega)
    have w2 : IntKind.i64.wrap (1 + h1 + 1) = 1 + h1 + 1 := w64 (by omega) (by omega)
    have w3 : IntKind.i64.wrap (h2 + 1) = h2 + 1 := w64 (by omega) (by omega)
    simp only [w1, w2, w3]
    obtain ⟨vs, ks, hvs⟩ := sgn sd 0 ⟨1 + h1, h2, rt, gs, gn⟩ (by unfold hbFault; rw [if_neg (by simp only [Classical.not_not]; exact ⟨hrt, hgs, hgn⟩), if_neg (by simp only [Classical.not_not]; omega)]) (by omega) ho hd pl (by omega) hpl2
    refine xN ks ?_
    repeat first | (with_reducible refine xT ?_) | ((with_reducible refine xIg (n := ?_) ?_ ?_); rotate_left; exact rfl) | ((with_reducible refine xBg (n := ?_) ?_ ?_); rotate_left; exact rfl) | ((with_reducible refine xSg (n := ?_) ?_ ?_); rotate_left; exact rfl) | ((with_reducible refine xLg (n := ?_) (cs := ?_) ?_ ?_); rotate_left 2; exact rfl) | ((with_reducible refine xOg (n := ?_) (cs := ?_) ?_ ?_); rotate_left 2; exact rfl)
    refine xW (c40 code b4 8 hc (by omega)) ?_
    rintro _ ⟨_, b5, rfl, pb5, qb5, z, rfl⟩
    repeat first | (with_reducible refine xT ?_) | ((with_reducible refine xIg (n := ?_) ?_ ?_); rotate_left; exact rfl) | ((with_reducible refine xBg (n := ?_) ?_ ?_); rotate_left; exact rfl) | ((with_reducible refine xSg (n := ?_) ?_ ?_); rotate_left; exact rfl) | ((with_reducible refine xLg (n := ?_) (cs := ?_) ?_ ?_); rotate_left 2; exact rfl) | ((with_reducible refine xOg (n := ?_) (cs := ?_) ?_ ?_); rotate_left 2; exact rfl)
    cases z
    · refine xW (c40 code b5 10 hc (by omega)) ?_
      rintro _ ⟨_, b6, rfl, p6, q6, z, rfl⟩
      repeat first | (with_reducible refine xT ?_) | ((with_reducible refine xIg (n := ?_) ?_ ?_); rotate_left; exact rfl) | ((with_reducible refine xBg (n := ?_) ?_ ?_); rotate_left; exact rfl) | ((with_reducible refine xSg (n := ?_) ?_ ?_); rotate_left; exact rfl) | ((with_reducible refine xLg (n := ?_) (cs := ?_) ?_ ?_); rotate_left 2; exact rfl) | ((with_reducible refine xOg (n := ?_) (cs := ?_) ?_ ?_); rotate_left 2; exact rfl)
      cases z
      · refine xW (c72 code b6 sd.length hc (by omega) (by omega)) ?_
        rintro _ ⟨_, b7, rfl, p7, q7, pm, rfl, hpm, hpm2⟩
        repeat first | (with_reducible refine xT ?_) | ((with_reducible refine xIg (n := ?_) ?_ ?_); rotate_left; exact rfl) | ((with_reducible refine xBg (n := ?_) ?_ ?_); rotate_left; exact rfl) | ((with_reducible refine xSg (n := ?_) ?_ ?_); rotate_left; exact rfl) | ((with_reducible refine xLg (n := ?_) (cs := ?_) ?_ ?_); rotate_left 2; exact rfl) | ((with_reducible refine xOg (n := ?_) (cs := ?_) ?_ ?_); rotate_left 2; exact rfl)
        refine xW (c41 code b7 4 hc (by omega)) ?_
        rintro _ ⟨_, b8, rfl, p8, q8, lf, rfl, hlf0, hlf1, _⟩
        repeat first | (with_reducible refine xT ?_) | ((with_reducible refine xIg (n := ?_) ?_ ?_); rotate_left; exact rfl) | ((with_reducible refine xBg (n := ?_) ?_ ?_); rotate_left; exact rfl) | ((with_reducible refine xSg (n := ?_) ?_ ?_); rotate_left; exact rfl) | ((with_reducible refine xLg (n := ?_) (cs := ?_) ?_ ?_); rotate_left 2; exact rfl) | ((with_reducible refine xOg (n := ?_) (cs := ?_) ?_ ?_); rotate_left 2; exact rfl)
        have hlf1 := hlf1 (by omega)
        obtain ⟨lf, rfl⟩ := Int.eq_ofNat_of_zero_le hlf0
        obtain ⟨us, kt, hus⟩ := sgn sd lf ⟨1 + h1, h2 + 1, rt, gs, gn⟩ (by unfold hbFault; rw [if_neg (by simp only [Classical.not_not]; exact ⟨hrt, hgs, hgn⟩), if_neg (by simp only [Classical.not_not]; omega)]) (by omega) ho hd pm (by omega) hpm2
        refine xN kt ?_
        repeat first | (with_reducible refine xT ?_) | ((with_reducible refine xIg (n := ?_) ?_ ?_); rotate_left; exact rfl) | ((with_reducible refine xBg (n := ?_) ?_ ?_); rotate_left; exact rfl) | ((with_reducible refine xSg (n := ?_) ?_ ?_); rotate_left; exact rfl) | ((with_reducible refine xLg (n := ?_) (cs := ?_) ?_ ?_); rotate_left 2; exact rfl) | ((with_reducible refine xOg (n := ?_) (cs := ?_) ?_ ?_); rotate_left 2; exact rfl)
        refine xW (c73 code b8 t ⟨1 + h1, h2, rt, gs, gn⟩ vs hc (by omega)) ?_
        rintro _ ⟨_, b9, rfl, p9, q9, n, rfl⟩
        repeat first | (with_reducible refine xT ?_) | ((with_reducible refine xIg (n := ?_) ?_ ?_); rotate_left; exact rfl) | ((with_reducible refine xBg (n := ?_) ?_ ?_); rotate_left; exact rfl) | ((with_reducible refine xSg (n := ?_) ?_ ?_); rotate_left; exact rfl) | ((with_reducible refine xLg (n := ?_) (cs := ?_) ?_ ?_); rotate_left 2; exact rfl) | ((with_reducible refine xOg (n := ?_) (cs := ?_) ?_ ?_); rotate_left 2; exact rfl)
        exact ⟨_, rfl, t, t.nx, ⟨1 + h1, h2, rt, gs, gn⟩, vs, ⟨1 + h1, h2 + 1, rt, gs, gn⟩, us, n, rfl, ht, okS_fit hl.2 hs, hvs, hus⟩
      · refine xW (c72 code b6 sd.length hc (by omega) (by omega)) ?_
        rintro _ ⟨_, b7, rfl, p7, q7, pm, rfl, hpm, hpm2⟩
        repeat first | (with_reducible refine xT ?_) | ((with_reducible refine xIg (n := ?_) ?_ ?_); rotate_left; exact rfl) | ((with_reducible refine xBg (n := ?_) ?_ ?_); rotate_left; exact rfl) | ((with_reducible refine xSg (n := ?_) ?_ ?_); rotate_left; exact rfl) | ((with_reducible refine xLg (n := ?_) (cs := ?_) ?_ ?_); rotate_left 2; exact rfl) | ((with_reducible refine xOg (n := ?_) (cs := ?_) ?_ ?_); rotate_left 2; exact rfl)
        refine xW (c41 code b7 4 hc (by omega)) ?_
        rintro _ ⟨_, b8, rfl, p8, q8, lf, rfl, hlf0, hlf1, _⟩
        repeat first | (with_reducible refine xT ?_) | ((with_reducible refine xIg (n := ?_) ?_ ?_); rotate_left; exact rfl) | ((with_reducible refine xBg (n := ?_) ?_ ?_); rotate_left; exact rfl) | ((with_reducible refine xSg (n := ?_) ?_ ?_); rotate_left; exact rfl) | ((with_reducible refine xLg (n := ?_) (cs := ?_) ?_ ?_); rotate_left 2; exact rfl) | ((with_reducible refine xOg (n := ?_) (cs := ?_) ?_ ?_); rotate_left 2; exact rfl)
        have hlf1 := hlf1 (by omega)
        obtain ⟨lf, rfl⟩ := Int.eq_ofNat_of_zero_le hlf0
        obtain ⟨us, kt, hus⟩ := sgn sd lf ⟨1 + h1 + 1, h2 + 1, rt, gs, gn⟩ (by unfold hbFault; rw [if_neg (by simp only [Classical.not_not]; exact ⟨hrt, hgs, hgn⟩), if_neg (by simp only [Classical.not_not]; omega)]) (by omega) ho hd pm (by omega) hpm2
        refine xN kt ?_
        repeat first | (with_reducible refine xT ?_) | ((with_reducible refine xIg (n := ?_) ?_ ?_); rotate_left; exact rfl) | ((with_reducible refine xBg (n := ?_) ?_ ?_); rotate_left; exact rfl) | ((with_reducible refine xSg (n := ?_) ?_ ?_); rotate_left; exact rfl) | ((with_reducible refine xLg (n := ?_) (cs := ?_) ?_ ?_); rotate_left 2; exact rfl) | ((with_reducible refine xOg (n := ?_) (cs := ?_) ?_ ?_); rotate_left 2; exact rfl)
        refine xW (c73 code b8 t ⟨1 + h1, h2, rt, gs, gn⟩ vs hc (by omega)) ?_
        rintro _ ⟨_, b9, rfl, p9, q9, n, rfl⟩
        repeat first | (with_reducible refine xT ?_) | ((with_reducible refine xIg (n := ?_) ?_ ?_); rotate_left; exact rfl) | ((with_reducible refine xBg (n := ?_) ?_ ?_); rotate_left; exact rfl) | ((with_reducible refine xSg (n := ?_) ?_ ?_); rotate_left; exact rfl) | ((with_reducible refine xLg (n := ?_) (cs := ?_) ?_ ?_); rotate_left 2; exact rfl) | ((with_reducible refine xOg (n := ?_) (cs := ?_) ?_ ?_); rotate_left 2; exact rfl)
        exact ⟨_, rfl, t, t.nx, ⟨1 + h1, h2, rt, gs, gn⟩, vs, ⟨1 + h1 + 1, h2 + 1, rt, gs, gn⟩, us, n, rfl, ht, okS_fit hl.2 hs, hvs, hus⟩
    · refine xW (c40 code b5 10 hc (by omega)) ?_
      rintro _ ⟨_, b6, rfl, p6, q6, z, rfl⟩
      repeat first | (with_reducible refine xT ?_) | ((with_reducible refine xIg (n := ?_) ?_ ?_); rotate_left; exact rfl) | ((with_reducible refine xBg (n := ?_) ?_ ?_); rotate_left; exact rfl) | ((with_reducible refine xSg (n := ?_) ?_ ?_); rotate_left; exact rfl) | ((with_reducible refine xLg (n := ?_) (cs := ?_) ?_ ?_); rotate_left 2; exact rfl) | ((with_reducible refine xOg (n := ?_) (cs := ?_) ?_ ?_); rotate_left 2; exact rfl)
      cases z
      · refine xW (c72 code b6 sd.length hc (by omega) (by omega)) ?_
        rintro _ ⟨_, b7, rfl, p7, q7, pm, rfl, hpm, hpm2⟩
        repeat first | (with_reducible refine xT ?_) | ((with_reducible refine xIg (n := ?_) ?_ ?_); rotate_left; exact rfl) | ((with_reducible refine xBg (n := ?_) ?_ ?_); rotate_left; exact rfl) | ((with_reducible refine xSg (n := ?_) ?_ ?_); rotate_left; exact rfl) | ((with_reducible refine xLg (n := ?_) (cs := ?_) ?_ ?_); rotate_left 2; exact rfl) | ((with_reducible refine xOg (n := ?_) (cs := ?_) ?_ ?_); rotate_left 2; exact rfl)
        refine xW (c41 code b7 4 hc (by omega)) ?_
        rintro _ ⟨_, b8, rfl, p8, q8, lf, rfl, hlf0, hlf1, _⟩
        repeat first | (with_reducible refine xT ?_) | ((with_reducible refine xIg (n := ?_) ?_ ?_); rotate_left; exact rfl) | ((with_reducible refine xBg (n := ?_) ?_ ?_); rotate_left; exact rfl) | ((with_reducible refine xSg (n := ?_) ?_ ?_); rotate_left; exact rfl) | ((with_reducible refine xLg (n := ?_) (cs := ?_) ?_ ?_); rotate_left 2; exact rfl) | ((with_reducible refine xOg (n := ?_) (cs := ?_) ?_ ?_); rotate_left 2; exact rfl)
        have hlf1 := hlf1 (by omega)
        obtain ⟨lf, rfl⟩ := Int.eq_ofNat_of_zero_le hlf0
        obtain ⟨us, kt, hus⟩ := sgn sd lf ⟨1 + h1, h2, rt, gs, gn⟩ (by unfold hbFault; rw [if_neg (by simp only [Classical.not_not]; exact ⟨hrt, hgs, hgn⟩), if_neg (by simp only [Classical.not_not]; omega)]) (by omega) ho hd pm (by omega) hpm2
        refine xN kt ?_
        repeat first | (with_reducible refine xT ?_) | ((with_reducible refine xIg (n := ?_) ?_ ?_); rotate_left; exact rfl) | ((with_reducible refine xBg (n := ?_) ?_ ?_); rotate_left; exact rfl) | ((with_reducible refine xSg (n := ?_) ?_ ?_); rotate_left; exact rfl) | ((with_reducible refine xLg (n := ?_) (cs := ?_) ?_ ?_); rotate_left 2; exact rfl) | ((with_reducible refine xOg (n := ?_) (cs := ?_) ?_ ?_); rotate_left 2; exact rfl)
        refine xW (c73 code b8 t ⟨1 + h1, h2, rt, gs, gn⟩ vs hc (by omega)) ?_
        rintro _ ⟨_, b9, rfl, p9, q9, n, rfl⟩
        repeat first | (with_reducible refine xT ?_) | ((with_reducible refine xIg (n := ?_) ?_ ?_); rotate_left; exact rfl) | ((with_reducible refine xBg (n := ?_) ?_ ?_); rotate_left; exact rfl) | ((with_reducible refine xSg (n := ?_) ?_ ?_); rotate_left; exact rfl) | ((with_reducible refine xLg (n := ?_) (cs := ?_) ?_ ?_); rotate_left 2; exact rfl) | ((with_reducible refine xOg (n := ?_) (cs := ?_) ?_ ?_); rotate_left 2; exact rfl)
        exact ⟨_, rfl, t, t.nx, ⟨1 + h1, h2, rt, gs, gn⟩, vs, ⟨1 + h1, h2, rt, gs, gn⟩, us, n, rfl, ht, okS_fit hl.2 hs, hvs, hus⟩
      · refine xW (c72 code b6 sd.length hc (by omega) (by omega)) ?_
        rintro _ ⟨_, b7, rfl, p7, q7, pm, rfl, hpm, hpm2⟩
        repeat first | (with_reducible refine xT ?_) | ((with_reducible refine xIg (n := ?_) ?_ ?_); rotate_left; exact rfl) | ((with_reducible refine xBg (n := ?_) ?_ ?_); rotate_left; exact rfl) | ((with_reducible refine xSg (n := ?_) ?_ ?_); rotate_left; exact rfl) | ((with_reducible refine xLg (n := ?_) (cs := ?_) ?_ ?_); rotate_left 2; exact rfl) | ((with_reducible refine xOg (n := ?_) (cs := ?_) ?_ ?_); rotate_left 2; exact rfl)
        refine xW (c41 code b7 4 hc (by omega)) ?_
        rintro _ ⟨_, b8, rfl, p8, q8, lf, rfl, hlf0, hlf1, _⟩
        repeat first | (with_reducible refine xT ?_) | ((with_reducible refine xIg (n := ?_) ?_ ?_); rotate_left; exact rfl) | ((with_reducible refine xBg (n := ?_) ?_ ?_); rotate_left; exact rfl) | ((with_reducible refine xSg (n := ?_) ?_ ?_); rotate_left; exact rfl) | ((with_reducible refine xLg (n := ?_) (cs := ?_) ?_ ?_); rotate_left 2; exact rfl) | ((with_reducible refine xOg (n := ?_) (cs := ?_) ?_ ?_); rotate_left 2; exact rfl)
        have hlf1 := hlf1 (by omega)
        obtain ⟨lf, rfl⟩ := Int.eq_ofNat_of_zero_le hlf0
        obtain ⟨us, kt, hus⟩ := sgn sd lf ⟨1 + h1 + 1, h2, rt, gs, gn⟩ (by unfold hbFault; rw [if_neg (by simp only [Classical.not_not]; exact ⟨hrt, hgs, hgn⟩), if_neg (by simp only [Classical.not_not]; omega)]) (by omega) ho hd pm (by omega) hpm2
        refine xN kt ?_
        repeat first | (with_reducible refine xT ?_) | ((with_reducible refine xIg (n := ?_) ?_ ?_); rotate_left; exact rfl) | ((with_reducible refine xBg (n := ?_) ?_ ?_); rotate_left; exact rfl) | ((with_reducible refine xSg (n := ?_) ?_ ?_); rotate_left; exact rfl) | ((with_reducible refine xLg (n := ?_) (cs := ?_) ?_ ?_); rotate_left 2; exact rfl) | ((with_reducible refine xOg (n := ?_) (cs := ?_) ?_ ?_); rotate_left 2; exact rfl)
        refine xW (c73 code b8 t ⟨1 + h1, h2, rt, gs, gn⟩ vs hc (by omega)) ?_
        rintro _ ⟨_, b9, rfl, p9, q9, n, rfl⟩
        repeat first | (with_reducible refine xT ?_) | ((with_reducible refine xIg (n := ?_) ?_ ?_); rotate_left; exact rfl) | ((with_reducible refine xBg (n := ?_) ?_ ?_); rotate_left; exact rfl) | ((with_reducible refine xSg (n := ?_) ?_ ?_); rotate_left; exact rfl) | ((with_reducible refine xLg (n := ?_) (cs := ?_) ?_ ?_); rotate_left 2; exact rfl) | ((with_reducible refine xOg (n := ?_) (cs := ?_) ?_ ?_); rotate_left 2; exact rfl)
        exact ⟨_, rfl, t, t.nx, ⟨1 + h1, h2, rt, gs, gn⟩, vs, ⟨1 + h1 + 1, h2, rt, gs, gn⟩, us, n, rfl, ht, okS_fit hl.2 hs, hvs, hus⟩
  · refine xW (c41 code a2 3 hc (by omega)) ?_
    rintro _ ⟨_, a3, rfl, p3, q3, j, rfl, hj0, hj1, _⟩
    repeat first | (with_reducible refine xT ?_) | ((with_reducible refine xIg (n := ?_) ?_ ?_); rotate_left; exact rfl) | ((with_reducible refine xBg (n := ?_) ?_ ?_); rotate_left; exact rfl) | ((with_reducible refine xSg (n := ?_) ?_ ?_); rotate_left; exact rfl) | ((with_reducible refine xLg (n := ?_) (cs := ?_) ?_ ?_); rotate_left 2; exact rfl) | ((with_reducible refine xOg (n := ?_) (cs := ?_) ?_ ?_); rotate_left 2; exact rfl)
    have hj1 := hj1 (by omega)
    obtain ⟨j, rfl⟩ := Int.eq_ofNat_of_zero_le hj0
    refine xW (c41 code a3 2 hc (by omega)) ?_
    rintro _ ⟨_, a4, rfl, p4, q4, f, rfl, hf0, hf1, _⟩
    repeat first | (with_reducible refine xT ?_) | ((with_reducible refine xIg (n := ?_) ?_ ?_); rotate_left; exact rfl) | ((with_reducible refine xBg (n := ?_) ?_ ?_); rotate_left; exact rfl) | ((with_reducible refine xSg (n := ?_) ?_ ?_); rotate_left; exact rfl) | ((with_reducible refine xLg (n := ?_) (cs := ?_) ?_ ?_); rotate_left 2; exact rfl) | ((with_reducible refine xOg (n := ?_) (cs := ?_) ?_ ?_); rotate_left 2; exact rfl)
    have hf1 := hf1 (by omega)
    have wj : IntKind.i64.wrap (1 + (j : Int)) = ((1 + j : Nat) : Int) := by rw [w64 (by omega) (by omega)]; omega
    rw [wj]
    refine xW (c67 code a4 (1 + j) f hc (by omega) (by omega) (by omega)) ?_
    rintro _ ⟨_, a5, rfl, p5, q5, se, l, rfl, hse, hl, ho, hs⟩
    repeat first | (with_reducible refine xT ?_) | ((with_reducible refine xIg (n := ?_) ?_ ?_); rotate_left; exact rfl) | ((with_reducible refine xBg (n := ?_) ?_ ?_); rotate_left; exact rfl) | ((with_reducible refine xSg (n := ?_) ?_ ?_); rotate_left; exact rfl) | ((with_reducible refine xLg (n := ?_) (cs := ?_) ?_ ?_); rotate_left 2; exact rfl) | ((with_reducible refine xOg (n := ?_) (cs := ?_) ?_ ?_); rotate_left 2; exact rfl)
    have hl : 1 ≤ l.length ∧ l.length ≤ 3 := by omega
    have hd : se.length ≤ 5 := by omega
    refine xW (c41 code a5 6 hc (by omega)) ?_
    rintro _ ⟨_, b1, rfl, pb1, qb1, h1, rfl, h10, h11, _⟩
    repeat first | (with_reducible refine xT ?_) | ((with_reducible refine xIg (n := ?_) ?_ ?_); rotate_left; exact rfl) | ((with_reducible refine xBg (n := ?_) ?_ ?_); rotate_left; exact rfl) | ((with_reducible refine xSg (n := ?_) ?_ ?_); rotate_left; exact rfl) | ((with_reducible refine xLg (n := ?_) (cs := ?_) ?_ ?_); rotate_left 2; exact rfl) | ((with_reducible refine xOg (n := ?_) (cs := ?_) ?_ ?_); rotate_left 2; exact rfl)
    have h11 := h11 (by omega)
    refine xW (c41 code b1 30 hc (by omega)) ?_
    rintro _ ⟨_, b2, rfl, pb2, qb2, h2, rfl, h20, h21, _⟩
    repeat first | (with_reducible refine xT ?_) | ((with_reducible refine xIg (n := ?_) ?_ ?_); rotate_left; exact rfl) | ((with_reducible refine xBg (n := ?_) ?_ ?_); rotate_left; exact rfl) | ((with_reducible refine xSg (n := ?_) ?_ ?_); rotate_left; exact rfl) | ((with_reducible refine xLg (n := ?_) (cs := ?_) ?_ ?_); rotate_left 2; exact rfl) | ((with_reducible refine xOg (n := ?_) (cs := ?_) ?_ ?_); rotate_left 2; exact rfl)
    have h21 := h21 (by omega)
    have kr := c68 0 [] rfl (by omega) (by simp)
    rw [← root_length []] at kr
    have hrt := root_length []
    generalize root [] = rt at kr hrt
    refine xN kr ?_
    repeat first | (with_reducible refine xT ?_) | ((with_reducible refine xIg (n := ?_) ?_ ?_); rotate_left; exact rfl) | ((with_reducible refine xBg (n := ?_) ?_ ?_); rotate_left; exact rfl) | ((with_reducible refine xSg (n := ?_) ?_ ?_); rotate_left; exact rfl) | ((with_reducible refine xLg (n := ?_) (cs := ?_) ?_ ?_); rotate_left 2; exact rfl) | ((with_reducible refine xOg (n := ?_) (cs := ?_) ?_ ?_); rotate_left 2; exact rfl)
    have kd := c69 l (okS_small hl.2 hs)
    rw [← setDig_length l] at kd
    have hgs := setDig_length l
    generalize setDig l = gs at kd hgs
    refine xN kd ?_
    repeat first | (with_reducible refine xT ?_) | ((with_reducible refine xIg (n := ?_) ?_ ?_); rotate_left; exact rfl) | ((with_reducible refine xBg (n := ?_) ?_ ?_); rotate_left; exact rfl) | ((with_reducible refine xSg (n := ?_) ?_ ?_); rotate_left; exact rfl) | ((with_reducible refine xLg (n := ?_) (cs := ?_) ?_ ?_); rotate_left 2; exact rfl) | ((with_reducible refine xOg (n := ?_) (cs := ?_) ?_ ?_); rotate_left 2; exact rfl)
    refine xW (c70 code b2 32 hc (by omega) (by omega)) ?_
    rintro _ ⟨_, b3, rfl, pb3, qb3, gn, rfl, hgn⟩
    repeat first | (with_reducible refine xT ?_) | ((with_reducible refine xIg (n := ?_) ?_ ?_); rotate_left; exact rfl) | ((with_reducible refine xBg (n := ?_) ?_ ?_); rotate_left; exact rfl) | ((with_reducible refine xSg (n := ?_) ?_ ?_); rotate_left; exact rfl) | ((with_reducible refine xLg (n := ?_) (cs := ?_) ?_ ?_); rotate_left 2; exact rfl) | ((with_reducible refine xOg (n := ?_) (cs := ?_) ?_ ?_); rotate_left 2; exact rfl)
    refine xW (c72 code b3 se.length hc (by omega) (by omega)) ?_
    rintro _ ⟨_, b4, rfl, pb4, qb4, pl, rfl, hpl, hpl2⟩
    repeat first | (with_reducible refine xT ?_) | ((with_reducible refine xIg (n := ?_) ?_ ?_); rotate_left; exact rfl) | ((with_reducible refine xBg (n := ?_) ?_ ?_); rotate_left; exact rfl) | ((with_reducible refine xSg (n := ?_) ?_ ?_); rotate_left; exact rfl) | ((with_reducible refine xLg (n := ?_) (cs := ?_) ?_ ?_); rotate_left 2; exact rfl) | ((with_reducible refine xOg (n := ?_) (cs := ?_) ?_ ?_); rotate_left 2; exact rfl)
    have w1 : IntKind.i64.wrap (1 + h1) = 1 + h1 := w64 (by omega) (by omega)
    have w2 : IntKind.i64.wrap (1 + h1 + 1) = 1 + h1 + 1 := w64 (by omega) (by omega)
    have w3 : IntKind.i64.wrap (h2 + 1) = h2 + 1 := w64 (by omega) (by omega)
    simp only [w1, w2, w3]
    obtain ⟨vs, ks, hvs⟩ := sgn se 0 ⟨1 + h1, h2, rt, gs, gn⟩ (by unfold hbFault; rw [if_neg (by simp only [Classical.not_not]; exact ⟨hrt, hgs, hgn⟩), if_neg (by simp only [Classical.not_not]; omega)]) (by omega) ho hd pl (by omega) hpl2
    refine xN ks ?_
    repeat first | (with_reducible refine xT ?_) | ((with_reducible refine xIg (n := ?_) ?_ ?_); rotate_left; exact rfl) | ((with_reducible refine xBg (n := ?_) ?_ ?_); rotate_left; exact rfl) | ((with_reducible refine xSg (n := ?_) ?_ ?_); rotate_left; exact rfl) | ((with_reducible refine xLg (n := ?_) (cs := ?_) ?_ ?_); rotate_left 2; exact rfl) | ((with_reducible refine xOg (n := ?_) (cs := ?_) ?_ ?_); rotate_left 2; exact rfl)
    refine xW (c40 code b4 8 hc (by omega)) ?_
    rintro _ ⟨_, b5, rfl, pb5, qb5, z, rfl⟩
    repeat first | (with_reducible refine xT ?_) | ((with_reducible refine xIg (n := ?_) ?_ ?_); rotate_left; exact rfl) | ((with_reducible refine xBg (n := ?_) ?_ ?_); rotate_left; exact rfl) | ((with_reducible refine xSg (n := ?_) ?_ ?_); rotate_left; exact rfl) | ((with_reducible refine xLg (n := ?_) (cs := ?_) ?_ ?_); rotate_left 2; exact rfl) | ((with_reducible refine xOg (n := ?_) (cs := ?_) ?_ ?_); rotate_left 2; exact rfl)
    cases z
    · refine xW (c40 code b5 10 hc (by omega)) ?_
      rintro _ ⟨_, b6, rfl, p6, q6, z, rfl⟩
      repeat first | (with_reducible refine xT ?_) | ((with_reducible refine xIg (n := ?_) ?_ ?_); rotate_left; exact rfl) | ((with_reducible refine xBg (n := ?_) ?_ ?_); rotate_left; exact rfl) | ((with_reducible refine xSg (n := ?_) ?_ ?_); rotate_left; exact rfl) | ((with_reducible refine xLg (n := ?_) (cs := ?_) ?_ ?_); rotate_left 2; exact rfl) | ((with_reducible refine xOg (n := ?_) (cs := ?_) ?_ ?_); rotate_left 2; exact rfl)
      cases z
      · refine xW (c72 code b6 se.length hc (by omega) (by omega)) ?_
        rintro _ ⟨_, b7, rfl, p7, q7, pm, rfl, hpm, hpm2⟩
        repeat first | (with_reducible refine xT ?_) | ((with_reducible refine xIg (n := ?_) ?_ ?_); rotate_left; exact rfl) | ((with_reducible refine xBg (n := ?_) ?_ ?_); rotate_left; exact rfl) | ((with_reducible refine xSg (n := ?_) ?_ ?_); rotate_left; exact rfl) | ((with_reducible refine xLg (n := ?_) (cs := ?_) ?_ ?_); rotate_left 2; exact rfl) | ((with_reducible refine xOg (n := ?_) (cs := ?_) ?_ ?_); rotate_left 2; exact rfl)
        refine xW (c41 code b7 4 hc (by omega)) ?_
        rintro _ ⟨_, b8, rfl, p8, q8, lf, rfl, hlf0, hlf1, _⟩
        repeat first | (with_reducible refine xT ?_) | ((with_reducible refine xIg (n := ?_) ?_ ?_); rotate_left; exact rfl) | ((with_reducible refine xBg (n := ?_) ?_ ?_); rotate_left; exact rfl) | ((with_reducible refine xSg (n := ?_) ?_ ?_); rotate_left; exact rfl) | ((with_reducible refine xLg (n := ?_) (cs := ?_) ?_ ?_); rotate_left 2; exact rfl) | ((with_reducible refine xOg (n := ?_) (cs := ?_) ?_ ?_); rotate_left 2; exact rfl)
        have hlf1 := hlf1 (by omega)
        obtain ⟨lf, rfl⟩ := Int.eq_ofNat_of_zero_le hlf0
        obtain ⟨us, kt, hus⟩ := sgn se lf ⟨1 + h1, h2 + 1, rt, gs, gn⟩ (by unfold hbFault; rw [if_neg (by simp only [Classical.not_not]; exact ⟨hrt, hgs, hgn⟩), if_neg (by simp only [Classical.not_not]; omega)]) (by omega) ho hd pm (by omega) hpm2
        refine xN kt ?_
        repeat first | (with_reducible refine xT ?_) | ((with_reducible refine xIg (n := ?_) ?_ ?_); rotate_left; exact rfl) | ((with_reducible refine xBg (n := ?_) ?_ ?_); rotate_left; exact rfl) | ((with_reducible refine xSg (n := ?_) ?_ ?_); rotate_left; exact rfl) | ((with_reducible refine xLg (n := ?_) (cs := ?_) ?_ ?_); rotate_left 2; exact rfl) | ((with_reducible refine xOg (n := ?_) (cs := ?_) ?_ ?_); rotate_left 2; exact rfl)
        refine xW (c73 code b8 t ⟨1 + h1, h2, rt, gs, gn⟩ vs hc (by omega)) ?_
        rintro _ ⟨_, b9, rfl, p9, q9, n, rfl⟩
        repeat first | (with_reducible refine xT ?_) | ((with_reducible refine xIg (n := ?_) ?_ ?_); rotate_left; exact rfl) | ((with_reducible refine xBg (n := ?_) ?_ ?_); rotate_left; exact rfl) | ((with_reducible refine xSg (n := ?_) ?_ ?_); rotate_left; exact rfl) | ((with_reducible refine xLg (n := ?_) (cs := ?_) ?_ ?_); rotate_left 2; exact rfl) | ((with_reducible refine xOg (n := ?_) (cs := ?_) ?_ ?_); rotate_left 2; exact rfl)
        exact ⟨_, rfl, t, l, ⟨1 + h1, h2, rt, gs, gn⟩, vs, ⟨1 + h1, h2 + 1, rt, gs, gn⟩, us, n, rfl, ht, okS_fit hl.2 hs, hvs, hus⟩
      · refine xW (c72 code b6 se.length hc (by omega) (by omega)) ?_
        rintro _ ⟨_, b7, rfl, p7, q7, pm, rfl, hpm, hpm2⟩
        repeat first | (with_reducible refine xT ?_) | ((with_reducible refine xIg (n := ?_) ?_ ?_); rotate_left; exact rfl) | ((with_reducible refine xBg (n := ?_) ?_ ?_); rotate_left; exact rfl) | ((with_reducible refine xSg (n := ?_) ?_ ?_); rotate_left; exact rfl) | ((with_reducible refine xLg (n := ?_) (cs := ?_) ?_ ?_); rotate_left 2; exact rfl) | ((with_reducible refine xOg (n := ?_) (cs := ?_) ?_ ?_); rotate_left 2; exact rfl)
        refine xW (c41 code b7 4 hc (by omega)) ?_
        rintro _ ⟨_, b8, rfl, p8, q8, lf, rfl, hlf0, hlf1, _⟩
        repeat first | (with_reducible refine xT ?_) | ((with_reducible refine xIg (n := ?_) ?_ ?_); rotate_left; exact rfl) | ((with_reducible refine xBg (n := ?_) ?_ ?_); rotate_left; exact rfl) | ((with_reducible refine xSg (n := ?_) ?_ ?_); rotate_left; exact rfl) | ((with_reducible refine xLg (n := ?_) (cs := ?_) ?_ ?_); rotate_left 2; exact rfl) | ((with_reducible refine xOg (n := ?_) (cs := ?_) ?_ ?_); rotate_left 2; exact rfl)
        have hlf1 := hlf1 (by omega)
        obtain ⟨lf, rfl⟩ := Int.eq_ofNat_of_zero_le hlf0
        obtain ⟨us, kt, hus⟩ := sgn se lf ⟨1 + h1 + 1, h2 + 1, rt, gs, gn⟩ (by unfold hbFault; rw [if_neg (by simp only [Classical.not_not]; exact ⟨hrt, hgs, hgn⟩), if_neg (by simp only [Classical.not_not]; omega)]) (by omega) ho hd pm (by omega) hpm2
        refine xN kt ?_
        repeat first | (with_reducible refine xT ?_) | ((with_reducible refine xIg (n := ?_) ?_ ?_); rotate_left; exact rfl) | ((with_reducible refine xBg (n := ?_) ?_ ?_); rotate_left; exact rfl) | ((with_reducible refine xSg (n := ?_) ?_ ?_); rotate_left; exact rfl) | ((with_reducible refine xLg (n := ?_) (cs := ?_) ?_ ?_); rotate_left 2; exact rfl) | ((with_reducible refine xOg (n := ?_) (cs := ?_) ?_ ?_); rotate_left 2; exact rfl)
        refine xW (c73 code b8 t ⟨1 + h1, h2, rt, gs, gn⟩ vs hc (by omega)) ?_
        rintro _ ⟨_, b9, rfl, p9, q9, n, rfl⟩
        repeat first | (with_reducible refine xT ?_) | ((with_reducible refine xIg (n := ?_) ?_ ?_); rotate_left; exact rfl) | ((with_reducible refine xBg (n := ?_) ?_ ?_); rotate_left; exact rfl) | ((with_reducible refine xSg (n := ?_) ?_ ?_); rotate_left; exact rfl) | ((with_reducible refine xLg (n := ?_) (cs := ?_) ?_ ?_); rotate_left 2; exact rfl) | ((with_reducible refine xOg (n := ?_) (cs := ?_) ?_ ?_); rotate_left 2; exact rfl)
        exact ⟨_, rfl, t, l, ⟨1 + h1, h2, rt, gs, gn⟩, vs, ⟨1 + h1 + 1, h2 + 1, rt, gs, gn⟩, us, n, rfl, ht, okS_fit hl.2 hs, hvs, hus⟩
    · refine xW (c40 code b5 10 hc (by omega)) ?_
      rintro _ ⟨_, b6, rfl, p6, q6, z, rfl⟩
      repeat first | (with_reducible refine xT ?_) | ((with_reducible refine xIg (n := ?_) ?_ ?_); rotate_left; exact rfl) | ((with_reducible refine xBg (n := ?_) ?_ ?_); rotate_left; exact rfl) | ((with_reducible refine xSg (n := ?_) ?_ ?_); rotate_left; exact rfl) | ((with_reducible refine xLg (n := ?_) (cs := ?_) ?_ ?_); rotate_left 2; exact rfl) | ((with_reducible refine xOg (n := ?_) (cs := ?_) ?_ ?_); rotate_left 2; exact rfl)
      cases z
      · refine xW (c72 code b6 se.length hc (by omega) (by omega)) ?_
        rintro _ ⟨_, b7, rfl, p7, q7, pm, rfl, hpm, hpm2⟩
        repeat first | (with_reducible refine xT ?_) | ((with_reducible refine xIg (n := ?_) ?_ ?_); rotate_left; exact rfl) | ((with_reducible refine xBg (n := ?_) ?_ ?_); rotate_left; exact rfl) | ((with_reducible refine xSg (n := ?_) ?_ ?_); rotate_left; exact rfl) | ((with_reducible refine xLg (n := ?_) (cs := ?_) ?_ ?_); rotate_left 2; exact rfl) | ((with_reducible refine xOg (n := ?_) (cs := ?_) ?_ ?_); rotate_left 2; exact rfl)
        refine xW (c41 code b7 4 hc (by omega)) ?_
        rintro _ ⟨_, b8, rfl, p8, q8, lf, rfl, hlf0, hlf1, _⟩
        repeat first | (with_reducible refine xT ?_) | ((with_reducible refine xIg (n := ?_) ?_ ?_); rotate_left; exact rfl) | ((with_reducible refine xBg (n := ?_) ?_ ?_); rotate_left; exact rfl) | ((with_reducible refine xSg (n := ?_) ?_ ?_); rotate_left; exact rfl) | ((with_reducible refine xLg (n := ?_) (cs := ?_) ?_ ?_); rotate_left 2; exact rfl) | ((with_reducible refine xOg (n := ?_) (cs := ?_) ?_ ?_); rotate_left 2; exact rfl)
        have hlf1 := hlf1 (by omega)
        obtain ⟨lf, rfl⟩ := Int.eq_ofNat_of_zero_le hlf0
        obtain ⟨us, kt, hus⟩ := sgn se lf ⟨1 + h1, h2, rt, gs, gn⟩ (by unfold hbFault; rw [if_neg (by simp only [Classical.not_not]; exact ⟨hrt, hgs, hgn⟩), if_neg (by simp only [Classical.not_not]; omega)]) (by omega) ho hd pm (by omega) hpm2
        refine xN kt ?_
        repeat first | (with_reducible refine xT ?_) | ((with_reducible refine xIg (n := ?_) ?_ ?_); rotate_left; exact rfl) | ((with_reducible refine xBg (n := ?_) ?_ ?_); rotate_left; exact rfl) | ((with_reducible refine xSg (n := ?_) ?_ ?_); rotate_left; exact rfl) | ((with_reducible refine xLg (n := ?_) (cs := ?_) ?_ ?_); rotate_left 2; exact rfl) | ((with_reducible refine xOg (n := ?_) (cs := ?_) ?_ ?_); rotate_left 2; exact rfl)
        refine xW (c73 code b8 t ⟨1 + h1, h2, rt, gs, gn⟩ vs hc (by omega)) ?_
        rintro _ ⟨_, b9, rfl, p9, q9, n, rfl⟩
        repeat first | (with_reducible refine xT ?_) | ((with_reducible refine xIg (n := ?_) ?_ ?_); rotate_left; exact rfl) | ((with_reducible refine xBg (n := ?_) ?_ ?_); rotate_left; exact rfl) | ((with_reducible refine xSg (n := ?_) ?_ ?_); rotate_left; exact rfl) | ((with_reducible refine xLg (n := ?_) (cs := ?_) ?_ ?_); rotate_left 2; exact rfl) | ((with_reducible refine xOg (n := ?_) (cs := ?_) ?_ ?_); rotate_left 2; exact rfl)
        exact ⟨_, rfl, t, l, ⟨1 + h1, h2, rt, gs, gn⟩, vs, ⟨1 + h1, h2, rt, gs, gn⟩, us, n, rfl, ht, okS_fit hl.2 hs, hvs, hus⟩
      · refine xW (c72 code b6 se.length hc (by omega) (by omega)) ?_
        rintro _ ⟨_, b7, rfl, p7, q7, pm, rfl, hpm, hpm2⟩
        repeat first | (with_reducible refine xT ?_) | ((with_reducible refine xIg (n := ?_) ?_ ?_); rotate_left; exact rfl) | ((with_reducible refine xBg (n := ?_) ?_ ?_); rotate_left; exact rfl) | ((with_reducible refine xSg (n := ?_) ?_ ?_); rotate_left; exact rfl) | ((with_reducible refine xLg (n := ?_) (cs := ?_) ?_ ?_); rotate_left 2; exact rfl) | ((with_reducible refine xOg (n := ?_) (cs := ?_) ?_ ?_); rotate_left 2; exact rfl)
        refine xW (c41 code b7 4 hc (by omega)) ?_
        rintro _ ⟨_, b8, rfl, p8, q8, lf, rfl, hlf0, hlf1, _⟩
        repeat first | (with_reducible refine xT ?_) | ((with_reducible refine xIg (n := ?_) ?_ ?_); rotate_left; exact rfl) | ((with_reducible refine xBg (n := ?_) ?_ ?_); rotate_left; exact rfl) | ((with_reducible refine xSg (n := ?_) ?_ ?_); rotate_left; exact rfl) | ((with_reducible refine xLg (n := ?_) (cs := ?_) ?_ ?_); rotate_left 2; exact rfl) | ((with_reducible refine xOg (n := ?_) (cs := ?_) ?_ ?_); rotate_left 2; exact rfl)
        have hlf1 := hlf1 (by omega)
        obtain ⟨lf, rfl⟩ := Int.eq_ofNat_of_zero_le hlf0
        obtain ⟨us, kt, hus⟩ := sgn se lf ⟨1 + h1 + 1, h2, rt, gs, gn⟩ (by unfold hbFault; rw [if_neg (by simp only [Classical.not_not]; exact ⟨hrt, hgs, hgn⟩), if_neg (by simp only [Classical.not_not]; omega)]) (by omega) ho hd pm (by omega) hpm2
        refine xN kt ?_
        repeat first | (with_reducible refine xT ?_) | ((with_reducible refine xIg (n := ?_) ?_ ?_); rotate_left; exact rfl) | ((with_reducible refine xBg (n := ?_) ?_ ?_); rotate_left; exact rfl) | ((with_reducible refine xSg (n := ?_) ?_ ?_); rotate_left; exact rfl) | ((with_reducible refine xLg (n := ?_) (cs := ?_) ?_ ?_); rotate_left 2; exact rfl) | ((with_reducible refine xOg (n := ?_) (cs := ?_) ?_ ?_); rotate_left 2; exact rfl)
        refine xW (c73 code b8 t ⟨1 + h1, h2, rt, gs, gn⟩ vs hc (by omega)) ?_
        rintro _ ⟨_, b9, rfl, p9, q9, n, rfl⟩
        repeat first | (with_reducible refine xT ?_) | ((with_reducible refine xIg (n := ?_) ?_ ?_); rotate_left; exact rfl) | ((with_reducible refine xBg (n := ?_) ?_ ?_); rotate_left; exact rfl) | ((with_reducible refine xSg (n := ?_) ?_ ?_); rotate_left; exact rfl) | ((with_reducible refine xLg (n := ?_) (cs := ?_) ?_ ?_); rotate_left 2; exact rfl) | ((with_reducible refine xOg (n := ?_) (cs := ?_) ?_ ?_); rotate_left 2; exact rfl)
        exact ⟨_, rfl, t, l, ⟨1 + h1, h2, rt, gs, gn⟩, vs, ⟨1 + h1 + 1, h2, rt, gs, gn⟩, us, n, rfl, ht, okS_fit hl.2 hs, hvs, hus⟩
theorem evid_zero {t : Tr} {l : List Vd} {x y : HB} {vs us : List Vt} {n : Int} (h : (evid t l x vs y us n).1 = 0) : tFault t = 0 ∧ evid t l x vs y us n = (0, { t with pau := true }) := by
  unfold evid at h ⊢
  by_cases g : tFault t = 0
  case neg => rw [if_pos g] at h; exact absurd h g
  rw [if_neg (fun k => k g)] at h ⊢
  refine ⟨g, ?_⟩
  by_cases g1 : old t n = true
  · rw [if_pos g1] at h; cases h
  rw [if_neg g1] at h ⊢
  by_cases g2 : sgFault l x vs = 0
  case neg => rw [if_pos g2] at h; exact absurd h g2
  rw [if_neg (fun k => k g2)] at h ⊢
  by_cases g3 : sgFault l y us = 0
  case neg => rw [if_pos g3] at h; exact absurd h g3
  rw [if_neg (fun k => k g3)] at h ⊢
  unfold evEnd at h ⊢
  by_cases c1 : x.hgt = y.hgt
  case neg => rw [if_pos c1] at h; cases h
  rw [if_neg (fun k => k c1)] at h ⊢
  by_cases c2 : hbDig x = hbDig y
  · rw [if_pos c2] at h; cases h
  rw [if_neg c2] at h ⊢
  by_cases c3 : (mostV l vs && shd t l vs) = true
  case neg => rw [if_neg c3] at h; cases h
  rw [if_pos c3] at h ⊢
  by_cases c4 : (mostV l us && shd t l us) = true
  case neg => rw [if_neg c4] at h; cases h
  rw [if_pos c4]
theorem resume_later {t : Tr} {v : Int} (h : tFault t = 0) (hh : t.hd.hgt ≤ 100) (hv : 0 ≤ v ∧ v ≤ 100) : resumeTrust { t with pau := true } ⟨t.hd.hgt + 1 + v, t.hd.tim, t.hd.root, t.hd.set, t.hd.nxt⟩ t.nx = (0, newT ⟨t.hd.hgt + 1 + v, t.hd.tim, t.hd.root, t.hd.set, t.hd.nxt⟩ t.nx t.per) := by
  obtain ⟨q1, q2, q3⟩ := tFault_parts h
  obtain ⟨b1, b2, b3, b4, b5⟩ := tFault_all h
  have x1 := Go.PI.Set.hbFault_ok q1
  have e : tFault (newT ⟨t.hd.hgt + 1 + v, t.hd.tim, t.hd.root, t.hd.set, t.hd.nxt⟩ t.nx t.per) = 0 := by
    unfold tFault newT
    dsimp only
    have k : hbFault ⟨t.hd.hgt + 1 + v, t.hd.tim, t.hd.root, t.hd.set, t.hd.nxt⟩ = 0 := by
      unfold hbFault
      dsimp only
      rw [if_neg (by simp only [Classical.not_not]; exact ⟨x1.1, x1.2.1, x1.2.2.1⟩), if_neg (by simp only [Classical.not_not]; omega)]
    rw [if_neg (fun q => q k), if_neg (fun q => q q2), if_neg (fun q => q b3), if_neg (fun q => q q3), if_neg (by simp), if_neg (by simp; omega)]
    exact rEnd_zero (fun w hw => by simp at hw; subst hw; exact badR_32 x1.1) rfl
  unfold resumeTrust
  dsimp only
  rw [show tFault { t with pau := true } = 0 from h, if_neg (fun q => q rfl), if_neg (by decide), if_neg (by omega)]
  unfold newTrust
  rw [if_neg (fun q => q e)]
theorem resume_same {t : Tr} (h : tFault t = 0) : resumeTrust { t with pau := true } t.hd t.nx = (3, noT) := by
  unfold resumeTrust
  dsimp only
  rw [show tFault { t with pau := true } = 0 from h, if_neg (fun q => q rfl), if_neg (by decide), if_pos (by omega)]
theorem c5 (code : List UInt8) (h : code.length ≤ 9223372036854775807) : runE C 5 [.sl code.length (bytesV code)] = some (.tup [.bool true]) := by
  refine E5 _ _ ?_
  unfold T5
  have k0 := c8 code
  by_cases g : (code.length : Int) > 1048576
  · rw [decide_eq_true g] at k0
    simp only [S0, k0]
  rw [decide_eq_false g] at k0
  obtain ⟨_, hr, t, l, x, vs, y, us, n, rfl, ht, hl, hv, hu⟩ := c21 code (by omega)
  have hf := okT_fit ht
  have ka := c22 t l x vs y us n hf.1 hf.2.1 hf.2.2 hl hv hu
  have kb := c23 t l x vs y us n hf.1 hf.2.1 hf.2.2 hl hv hu
  by_cases g1 : (evid t l x vs y us n).1 = 0
  case neg =>
    generalize evid t l x vs y us n = r at ka kb g1
    simp only [S0, k0, hr, ka, bne_t g1, kb, beq_self_eq_true]
  obtain ⟨e1, e2⟩ := evid_zero g1
  rw [e2] at ka
  dsimp only at ka
  obtain ⟨_, kl, v, rfl, hv0, hv1⟩ := c24 code 1 5 (by omega) (by omega) (by omega)
  obtain ⟨q1, q2, q3⟩ := tFault_parts e1
  have q4 := Go.PI.Set.hbFault_ok q1
  have hg := ht.1
  have hR : fitT { t with pau := true } := hf
  have r1 := c25 { t with pau := true } ⟨t.hd.hgt + 1 + v, t.hd.tim, t.hd.root, t.hd.set, t.hd.nxt⟩ t.nx hR hf.1 hf.2.1
  rw [resume_later e1 (by omega) (by omega)] at r1
  have r2 := c25 { t with pau := true } t.hd t.nx hR hf.1 hf.2.1
  rw [resume_same e1] at r2
  have r3 := c26 { t with pau := true } x vs l n hf.1 hf.2.1 hf.2.2 hv hl
  have e3 : stepNext { t with pau := true } x vs l n = (9, noT) := by
    have : stF { t with pau := true } n = 9 := by
      unfold stF
      rw [show tFault { t with pau := true } = 0 from e1, if_neg (fun q => q rfl)]
      exact if_pos rfl
    unfold stepNext
    rw [this]; rfl
  rw [e3] at r3
  have r4 := c27 { t with pau := true } t.hd.hgt e1 rfl hR
  dsimp only [newT] at r1 r2 r3 r4
  have w1 : IntKind.i64.wrap (t.hd.hgt + 1) = t.hd.hgt + 1 := w64 (by omega) (by omega)
  have w2 : IntKind.i64.wrap (t.hd.hgt + 1 + v) = t.hd.hgt + 1 + v := w64 (by omega) (by omega)
  simp only [S0, k0, hr, ka, bne_f, kl, w1, w2, vs_bare, ps_bare, r1, r2, r3, r4, beq_self_eq_true]
end Go.Proofs.YtodapaplfjfnlaaGreat.Vote
