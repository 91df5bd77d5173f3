/-
  Validators, heads that validators sign, trusts: sizes, copies, sameness, marks.
-/
import Derived.Test.YtodapaplfjfnlaaGreatPLNestTQ
import Derived.Test.YtodapaplfjfnlaaGreatPMTrust
namespace Go.Proofs.YtodapaplfjfnlaaGreat.Tru
open Go Go.PI Go.PI.Sha Go.PI.Rel Go.PI.Nest Go.PI.Tru Go.Proofs.YtodapaplfjfnlaaGreat.Sha Go.Proofs.YtodapaplfjfnlaaGreat.By Go.Proofs.YtodapaplfjfnlaaGreat.Nest EqQ
set_option maxHeartbeats 1000000
set_option linter.unusedVariables false
set_option linter.unusedSimpArgs false
theorem l151 : ∀ (r d : List Vd) (n i : Nat), n = d.length + r.length → i = d.length → n < 1000000000 → tot kl r ≤ 1000000000 →
    loopE C 151 0 [true, true, false, true] [] [(3, V.ref 0), (7, V.sl n (vsS (d ++ r))), (8, V.int .i64 (n : Int)), (9, V.int .i64 (i : Int))] [Ob.nrow [] 161 i (vsO d)] = some (.tup [.osl n (vsO (d ++ r))])
  | [], d, n, i, hn, hi, hq, ht => by
    refine E151l1 _ _ _ _ _ _ ?_
    unfold T151l1
    have e : i = n := by simp at hn; omega
    have : ¬ n < n := by omega
    subst e
    simp [this]
  | b :: r, d, n, i, hn, hi, hq, ht => by
    simp only [List.length_cons] at hn
    simp only [tot, kl] at ht
    have ih := l151 r (d ++ [b]) n (i + 1) (by simp; omega) (by simp; omega) hq (by omega)
    refine E151l1 _ _ _ _ _ _ ?_
    unfold T151l1
    have hlt : i < n := by omega
    have hw := w64_succ (n := i) (by omega)
    have g0 := vsS_at0 hi b r
    have g1 := vsS_at1 hi b r
    have d1 : i + 1 ≤ 140737488355328 := by omega
    have d2 : (i + 1) * 32 ≤ 140737488355328 := by omega
    simp only [List.append_assoc, List.singleton_append] at ih
    simp only [S0, hlt, g0, g1, c110 b.key (by omega), hw, d1, d2, vsO_snoc, ih]
theorem c151 (l : List Vd) (hf : fitV l) : runE C 151 [.sl l.length (vsS l)] = some (.tup [.osl l.length (vsO l)]) := by
  refine E151 _ _ ?_
  unfold T151
  exact l151 l [] l.length 0 (by simp) rfl (by have := hf.1; omega) (by have := hf.2; omega)
theorem l158 : ∀ (r d : List Vd) (n i : Nat), n = d.length + r.length → i = d.length → n < 1000000000 → tot kl r ≤ 1000000000 →
    loopE C 158 0 [true, true, false, true] [] [(0, V.sl n (vsS (d ++ r))), (3, V.ref 0), (4, V.int .i64 (i : Int))] [Ob.row 161 i (vsS d) false] = some (.tup [.osl n (vsS (d ++ r))])
  | [], d, n, i, hn, hi, hq, ht => by
    refine E158l1 _ _ _ _ _ ?_
    unfold T158l1
    have e : i = n := by simp at hn; omega
    have : ¬ n < n := by omega
    subst e
    simp [this]
  | b :: r, d, n, i, hn, hi, hq, ht => by
    simp only [List.length_cons] at hn
    simp only [tot, kl] at ht
    have ih := l158 r (d ++ [b]) n (i + 1) (by simp; omega) (by simp; omega) hq (by omega)
    refine E158l1 _ _ _ _ _ ?_
    unfold T158l1
    have hlt : i < n := by omega
    have hw := w64_succ (n := i) (by omega)
    have g0 := vsS_at0 hi b r
    have g1 := vsS_at1 hi b r
    have hl : (vsS (d ++ b :: r)).length = n * 2 := by rw [vsS_length]; simp; omega
    have hb : i * 2 < n * 2 := by omega
    have d0 : b.key.length ≤ 140737488355328 := by omega
    have d1 : i + 1 ≤ 140737488355328 := by omega
    have d2 : (i + 1) * 32 ≤ 140737488355328 := by omega
    simp only [List.append_assoc, List.singleton_append] at ih
    simp only [S0, hlt, hl, hb, g0, g1, hw, d0, d1, d2, vsS_snoc, ih]
theorem c158 (l : List Vd) (hf : fitV l) : runE C 158 [.sl l.length (vsS l)] = some (.tup [.osl l.length (vsS l)]) := by
  refine E158 _ _ ?_
  unfold T158
  exact l158 l [] l.length 0 (by simp) rfl (by have := hf.1; omega) (by have := hf.2; omega)
theorem c150 (x : HB) (h : fitH x) : runE C 150 [.agg [.int .i64 x.hgt, .int .i64 x.tim, .sl x.root.length (bytesV x.root), .sl x.set.length (bytesV x.set), .sl x.nxt.length (bytesV x.nxt)]] = some (.tup [.int .i64 x.hgt, .int .i64 x.tim, .osl x.root.length (bytesV x.root), .osl x.set.length (bytesV x.set), .osl x.nxt.length (bytesV x.nxt)]) := by
  refine E150 _ _ _ _ _ _ _ _ ?_
  unfold T150
  unfold fitH szH at h
  simp only [S0, c110 x.root (by omega), c110 x.set (by omega), c110 x.nxt (by omega)]
theorem c144 (x : HB) (h : fitH x) : runE C 144 [.agg [.int .i64 x.hgt, .int .i64 x.tim, .sl x.root.length (bytesV x.root), .sl x.set.length (bytesV x.set), .sl x.nxt.length (bytesV x.nxt)]] = some (.tup [.int .i64 x.hgt, .int .i64 x.tim, .osl x.root.length (bytesV x.root), .osl x.set.length (bytesV x.set), .osl x.nxt.length (bytesV x.nxt)]) := by
  refine E144 _ _ _ _ _ _ _ _ ?_
  unfold T144
  unfold fitH szH at h
  have d1 : x.root.length ≤ 140737488355328 := by omega
  have d2 : x.set.length ≤ 140737488355328 := by omega
  have d3 : x.nxt.length ≤ 140737488355328 := by omega
  simp only [S0, d1, d2, d3]
theorem c79 (x : Tr) (h : fitH x.hd) (h1 : fitV x.nx) (h2 : fitP x.roots) : runE C 79 [.agg [.int .i64 x.hd.hgt, .int .i64 x.hd.tim, .sl x.hd.root.length (bytesV x.hd.root), .sl x.hd.set.length (bytesV x.hd.set), .sl x.hd.nxt.length (bytesV x.hd.nxt), .sl x.nx.length (vsS x.nx), .int .i64 x.per, .bool x.pau, .sl x.roots.length (psS x.roots), .int .i64 x.frm]] = some (.tup [.int .i64 x.hd.hgt, .int .i64 x.hd.tim, .osl x.hd.root.length (bytesV x.hd.root), .osl x.hd.set.length (bytesV x.hd.set), .osl x.hd.nxt.length (bytesV x.hd.nxt), .osl x.nx.length (vsO x.nx), .int .i64 x.per, .bool x.pau, .osl x.roots.length (psO x.roots), .int .i64 x.frm]) := by
  refine E79 _ _ _ _ _ _ _ _ _ _ _ _ _ _ _ ?_
  unfold T79
  simp only [S0, c150 x.hd h, c151 x.nx h1, c152 x.roots (by have := h2.1; omega) (by have := h2.2; omega)]
theorem c86 (x : Tr) (h : fitH x.hd) (h1 : fitV x.nx) (h2 : fitP x.roots) : runE C 86 [.agg [.int .i64 x.hd.hgt, .int .i64 x.hd.tim, .sl x.hd.root.length (bytesV x.hd.root), .sl x.hd.set.length (bytesV x.hd.set), .sl x.hd.nxt.length (bytesV x.hd.nxt), .sl x.nx.length (vsS x.nx), .int .i64 x.per, .bool x.pau, .sl x.roots.length (psS x.roots), .int .i64 x.frm]] = some (.tup [.int .i64 x.hd.hgt, .int .i64 x.hd.tim, .osl x.hd.root.length (bytesV x.hd.root), .osl x.hd.set.length (bytesV x.hd.set), .osl x.hd.nxt.length (bytesV x.hd.nxt), .osl x.nx.length (vsS x.nx), .int .i64 x.per, .bool x.pau, .osl x.roots.length (psS x.roots), .int .i64 x.frm]) := by
  refine E86 _ _ _ _ _ _ _ _ _ _ _ _ _ _ _ ?_
  unfold T86
  simp only [S0, c144 x.hd h, c158 x.nx h1, c159 x.roots (by have := h2.1; omega) (by have := h2.2; omega)]
end Go.Proofs.YtodapaplfjfnlaaGreat.Tru
