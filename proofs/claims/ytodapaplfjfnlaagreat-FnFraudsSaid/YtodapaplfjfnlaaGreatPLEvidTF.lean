/-
  Evidence, both sides.
-/
import Derived.Test.YtodapaplfjfnlaaGreatPLSignedTF
import Derived.Test.YtodapaplfjfnlaaGreatPLSet3TF
namespace Go.PI.Vote
open Go Go.PI Go.PI.Sha Go.PI.Rel Go.PI.Nest Go.PI.Tru
end Go.PI.Vote
namespace Go.Proofs.YtodapaplfjfnlaaGreat.Vote
open Go Go.PI Go.PI.Sha Go.PI.Rel Go.PI.Nest Go.PI.Tru Go.PI.Set Go.PI.Tree Go.PI.Vote Go.Proofs.YtodapaplfjfnlaaGreat.Sha Go.Proofs.YtodapaplfjfnlaaGreat.By Go.Proofs.YtodapaplfjfnlaaGreat.Nest Go.Proofs.YtodapaplfjfnlaaGreat.Tru Go.Proofs.YtodapaplfjfnlaaGreat.Set Go.Proofs.YtodapaplfjfnlaaGreat.Tree EqF
set_option maxHeartbeats 1000000
set_option linter.unusedVariables false
set_option linter.unusedSimpArgs false
end Go.Proofs.YtodapaplfjfnlaaGreat.Vote
namespace Go.PI.Vote
open Go Go.PI Go.PI.Sha Go.PI.Rel Go.PI.Nest Go.PI.Tru Go.PI.Set Go.PI.Tree
def old (t : Tr) (now : Int) : Bool := !decide (0 ≤ now ∧ now ≤ t.hd.tim + t.per)
def fitT (t : Tr) : Prop := fitH t.hd ∧ fitV t.nx ∧ fitP t.roots
def shd (t : Tr) (l : List Vd) (vs : List Vt) : Bool := decide (3 * sharedP l t.nx vs > totP t.nx)
end Go.PI.Vote
namespace Go.Proofs.YtodapaplfjfnlaaGreat.Vote
open Go Go.PI Go.PI.Sha Go.PI.Rel Go.PI.Nest Go.PI.Tru Go.PI.Set Go.PI.Tree Go.PI.Vote Go.Proofs.YtodapaplfjfnlaaGreat.Sha Go.Proofs.YtodapaplfjfnlaaGreat.By Go.Proofs.YtodapaplfjfnlaaGreat.Nest Go.Proofs.YtodapaplfjfnlaaGreat.Tru Go.Proofs.YtodapaplfjfnlaaGreat.Set Go.Proofs.YtodapaplfjfnlaaGreat.Tree EqF
set_option maxHeartbeats 1000000
set_option linter.unusedVariables false
set_option linter.unusedSimpArgs false
def evEnd (t : Tr) (l : List Vd) (x : HB) (vs : List Vt) (y : HB) (us : List Vt) : Int × Tr :=
  if x.hgt ≠ y.hgt then (1, noT) else if hbDig x = hbDig y then (1, noT) else if (mostV l vs && shd t l vs) = true then (if (mostV l us && shd t l us) = true then (0, { t with pau := true }) else (6, noT)) else (6, noT)
def evid (t : Tr) (l : List Vd) (x : HB) (vs : List Vt) (y : HB) (us : List Vt) (now : Int) : Int × Tr :=
  if tFault t ≠ 0 then (tFault t, noT) else if old t now = true then (10, noT) else if sgFault l x vs ≠ 0 then (sgFault l x vs, noT) else if sgFault l y us ≠ 0 then (sgFault l y us, noT) else evEnd t l x vs y us
theorem nz {α : Type} {a : Int} (h : a = 0) (p q : α) : (if a ≠ 0 then p else q) = q := if_neg (fun k => k h)
theorem tFault_parts {t : Tr} (h : tFault t = 0) : hbFault t.hd = 0 ∧ setFault t.nx = 0 ∧ 1 ≤ t.per ∧ t.per ≤ 1099511627776 := by
  unfold tFault at h
  by_cases g0 : hbFault t.hd = 0
  case neg => rw [if_pos g0] at h; exact absurd h g0
  rw [if_neg (fun h => h g0)] at h
  by_cases g1 : setFault t.nx = 0
  case neg => rw [if_pos g1] at h; exact absurd h g1
  rw [if_neg (fun h => h g1)] at h
  by_cases g2 : t.hd.nxt = setDig t.nx
  case neg => rw [if_pos g2] at h; cases h
  rw [if_neg (fun h => h g2)] at h
  by_cases g3 : 1 ≤ t.per ∧ t.per ≤ 1099511627776
  case neg => rw [if_pos g3] at h; cases h
  exact ⟨g0, g1, g3⟩
theorem old_wrap {t : Tr} (h : tFault t = 0) : IntKind.i64.wrap (t.hd.tim + t.per) = t.hd.tim + t.per := by
  obtain ⟨h1, h2, h3⟩ := tFault_parts h
  have := Go.PI.Set.hbFault_ok h1
  exact w64 (by omega) (by omega)
theorem c74 (t : Tr) (now : Int) (h : tFault t = 0) : runE C 74 [.agg [.int .i64 t.hd.hgt, .int .i64 t.hd.tim, .sl t.hd.root.length (bytesV t.hd.root), .sl t.hd.set.length (bytesV t.hd.set), .sl t.hd.nxt.length (bytesV t.hd.nxt), .sl t.nx.length (vsS t.nx), .int .i64 t.per, .bool t.pau, .sl t.roots.length (psS t.roots), .int .i64 t.frm], .int .i64 now] = some (.tup [.bool (old t now)]) := by
  refine E74 _ _ _ _ _ _ _ _ _ _ _ _ _ _ _ _ ?_
  unfold T74
  simp only [S0, old_wrap h, c51]
  rfl
theorem c80 (t : Tr) (now : Int) (h : tFault t = 0) : runE C 80 [.pin [.int .i64 t.hd.hgt, .int .i64 t.hd.tim, .sl t.hd.root.length (bytesV t.hd.root), .sl t.hd.set.length (bytesV t.hd.set), .sl t.hd.nxt.length (bytesV t.hd.nxt), .sl t.nx.length (vsS t.nx), .int .i64 t.per, .bool t.pau, .sl t.roots.length (psS t.roots), .int .i64 t.frm] 0, .int .i64 now] = some (.tup [.bool (old t now)]) := by
  refine E80 _ _ _ _ _ _ _ _ _ _ _ _ _ _ _ _ ?_
  unfold T80 old
  simp only [old_wrap h]
  by_cases c : now < 0
  · have c' : ¬ (0 ≤ now ∧ now ≤ t.hd.tim + t.per) := by omega
    simp only [decide_eq_true c, decide_eq_false c', S0]
  · by_cases c2 : now > t.hd.tim + t.per
    · have c' : ¬ (0 ≤ now ∧ now ≤ t.hd.tim + t.per) := by omega
      simp only [decide_eq_false c, decide_eq_true c2, decide_eq_false c', S0]
    · have c' : (0 ≤ now ∧ now ≤ t.hd.tim + t.per) := by omega
      simp only [decide_eq_false c, decide_eq_false c2, decide_eq_true c', S0]
theorem shd_wrap {t : Tr} (h : setFault t.nx = 0) (l : List Vd) {vs : List Vt} (hn : vs.length ≤ 5) : IntKind.i64.wrap (3 * sharedP l t.nx vs) = 3 * sharedP l t.nx vs := by
  have := shared_bound l (set_pow h) vs
  exact w64 (by omega) (by omega)
theorem c78 (t : Tr) (l : List Vd) (x : HB) (vs : List Vt) (h : tFault t = 0) (g : sgFault l x vs = 0) : runE C 78 [.agg [.int .i64 t.hd.hgt, .int .i64 t.hd.tim, .sl t.hd.root.length (bytesV t.hd.root), .sl t.hd.set.length (bytesV t.hd.set), .sl t.hd.nxt.length (bytesV t.hd.nxt), .sl t.nx.length (vsS t.nx), .int .i64 t.per, .bool t.pau, .sl t.roots.length (psS t.roots), .int .i64 t.frm], .sl l.length (vsS l), .agg [.int .i64 x.hgt, .int .i64 x.tim, .sl x.root.length (bytesV x.root), .sl x.set.length (bytesV x.set), .sl x.nxt.length (bytesV x.nxt), .sl vs.length (vtsS vs)]] = some (.tup [.bool (mostV l vs && shd t l vs)]) := by
  obtain ⟨q1, q2, q3⟩ := tFault_parts h
  obtain ⟨p1, p2, p3, p4⟩ := sgFault_ok g
  refine E78 _ _ _ _ _ _ _ _ _ _ _ _ _ _ _ _ _ _ _ _ _ _ _ _ _ _ _ ?_
  unfold T78
  have k := c90 l x vs p1 p3 p4
  by_cases c : mostV l vs = true
  · rw [c] at k ⊢
    simp only [S0, k, c148 l t.nx x vs q2 p3 p4, c149 t.nx q2, shd_wrap q2 l p3]
    rfl
  · have c : mostV l vs = false := by simpa using c
    rw [c] at k ⊢
    simp only [S0, k, Bool.false_and]
theorem c85 (t : Tr) (l : List Vd) (x : HB) (vs : List Vt) (h : tFault t = 0) (g : sgFault l x vs = 0) : runE C 85 [.pin [.int .i64 t.hd.hgt, .int .i64 t.hd.tim, .sl t.hd.root.length (bytesV t.hd.root), .sl t.hd.set.length (bytesV t.hd.set), .sl t.hd.nxt.length (bytesV t.hd.nxt), .sl t.nx.length (vsS t.nx), .int .i64 t.per, .bool t.pau, .sl t.roots.length (psS t.roots), .int .i64 t.frm] 0, .sl l.length (vsS l), .agg [.int .i64 x.hgt, .int .i64 x.tim, .sl x.root.length (bytesV x.root), .sl x.set.length (bytesV x.set), .sl x.nxt.length (bytesV x.nxt), .sl vs.length (vtsS vs)]] = some (.tup [.bool (shd t l vs)]) := by
  obtain ⟨q1, q2, q3⟩ := tFault_parts h
  obtain ⟨p1, p2, p3, p4⟩ := sgFault_ok g
  refine E85 _ _ _ _ _ _ _ _ _ _ _ _ _ _ _ _ _ _ _ _ _ _ _ _ _ _ _ ?_
  unfold T85
  simp only [S0, c157 l t.nx x vs q2 p3 p4, c156 t.nx q2, shd_wrap q2 l p3]
  rfl
theorem e222 (t : Tr) (l : List Vd) (x : HB) (vs : List Vt) (y : HB) (us : List Vt) (cs : List V) (c : Int) (h : fitH t.hd) (h1 : fitV t.nx) (h2 : fitP t.roots) (hc : c = 0 → tFault t = 0 ∧ sgFault l x vs = 0 ∧ sgFault l y us = 0) :
    loopE C 22 0 [true, true, true, false, true] [] [(1, V.sl l.length (vsS l)), (5, V.ptr 0 0), (7, V.ptr 1 0), (8, V.ptr 2 0), (10, V.ptr 3 0), (11, V.int .i64 c), (26, V.ref 9), (27, V.int .i64 2), (28, V.int .i64 2)] [Ob.box 52 [V.int .i64 t.hd.hgt, V.int .i64 t.hd.tim, V.sl t.hd.root.length (bytesV t.hd.root), V.sl t.hd.set.length (bytesV t.hd.set), V.sl t.hd.nxt.length (bytesV t.hd.nxt), V.sl t.nx.length (vsS t.nx), V.int .i64 t.per, V.bool t.pau, V.sl t.roots.length (psS t.roots), V.int .i64 t.frm] false, Ob.box 55 [V.int .i64 x.hgt, V.int .i64 x.tim, V.sl x.root.length (bytesV x.root), V.sl x.set.length (bytesV x.set), V.sl x.nxt.length (bytesV x.nxt), V.sl vs.length (vtsS vs)] false, Ob.box 55 [V.int .i64 y.hgt, V.int .i64 y.tim, V.sl y.root.length (bytesV y.root), V.sl y.set.length (bytesV y.set), V.sl y.nxt.length (bytesV y.nxt), V.sl us.length (vtsS us)] false, Ob.box 59 [V.int .i64 0, V.int .i64 0, V.int .i64 0, V.ref 4, V.ref 5, V.ref 6, V.ref 7, V.int .i64 0, V.bool false, V.ref 8, V.int .i64 0] false, Ob.row 5 0 [] false, Ob.row 5 0 [] false, Ob.row 5 0 [] false, Ob.row 161 0 [] false, Ob.nrow [] 22 0 [], Ob.row 55 2 cs false] = some (.tup [.int .i64 (if c ≠ 0 then (c, noT) else evEnd t l x vs y us).1, .int .i64 (if c ≠ 0 then (c, noT) else evEnd t l x vs y us).2.hd.hgt, .int .i64 (if c ≠ 0 then (c, noT) else evEnd t l x vs y us).2.hd.tim, .osl (if c ≠ 0 then (c, noT) else evEnd t l x vs y us).2.hd.root.length (bytesV (if c ≠ 0 then (c, noT) else evEnd t l x vs y us).2.hd.root), .osl (if c ≠ 0 then (c, noT) else evEnd t l x vs y us).2.hd.set.length (bytesV (if c ≠ 0 then (c, noT) else evEnd t l x vs y us).2.hd.set), .osl (if c ≠ 0 then (c, noT) else evEnd t l x vs y us).2.hd.nxt.length (bytesV (if c ≠ 0 then (c, noT) else evEnd t l x vs y us).2.hd.nxt), .osl (if c ≠ 0 then (c, noT) else evEnd t l x vs y us).2.nx.length (vsO (if c ≠ 0 then (c, noT) else evEnd t l x vs y us).2.nx), .int .i64 (if c ≠ 0 then (c, noT) else evEnd t l x vs y us).2.per, .bool (if c ≠ 0 then (c, noT) else evEnd t l x vs y us).2.pau, .osl (if c ≠ 0 then (c, noT) else evEnd t l x vs y us).2.roots.length (psO (if c ≠ 0 then (c, noT) else evEnd t l x vs y us).2.roots), .int .i64 (if c ≠ 0 then (c, noT) else evEnd t l x vs y us).2.frm]) := by
  refine E22l1 _ _ _ _ _ _ _ _ _ _ _ _ _ _ _ _ _ _ _ _ _ _ _ _ _ _ _ _ _ _ _ _ _ _ _ _ _ _ _ _ _ _ _ _ _ _ _ _ _ _ _ _ _ _ _ _ _ _ ?_
  unfold T22l1
  have t2 : decide ((2 : Int) < 2) = false := rfl
  by_cases g : c = 0
  case neg =>
    rw [if_pos g]
    simp only [t2, S0, bne_t g]
    rfl
  rw [if_neg (fun h => h g)]
  obtain ⟨p1, p2, p3⟩ := hc g
  rw [g]
  have ex := (sgFault_ok p2).2.1
  have ey := (sgFault_ok p3).2.1
  unfold evEnd
  by_cases c1 : x.hgt = y.hgt
  case neg =>
    rw [if_pos c1]
    simp only [t2, S0, bne_f, bne_t c1]
    rfl
  rw [if_neg (fun h => h c1)]
  have c1b : (x.hgt != y.hgt) = false := by rw [c1]; exact bne_f _
  have kx := c77 x ex
  have ky := c77 y ey
  have kd := c76 (hbDig x) (hbDig y)
  rw [hbDig_length, hbDig_length] at kd
  by_cases c2 : hbDig x = hbDig y
  · rw [if_pos c2]
    rw [decide_eq_true c2] at kd
    simp only [t2, S0, bne_f, c1b, kx, ky, kd]
    rfl
  rw [if_neg c2]
  rw [decide_eq_false c2] at kd
  have ka := c78 t l x vs p1 p2
  have kb := c78 t l y us p1 p3
  by_cases c3 : (mostV l vs && shd t l vs) = true
  case neg =>
    rw [if_neg c3]
    have c3' : (mostV l vs && shd t l vs) = false := by simpa using c3
    rw [c3'] at ka
    simp only [t2, S0, bne_f, c1b, kx, ky, kd, ka]
    rfl
  rw [if_pos c3]
  rw [c3] at ka
  by_cases c4 : (mostV l us && shd t l us) = true
  · rw [if_pos c4]
    rw [c4] at kb
    simp only [t2, S0, bne_f, c1b, kx, ky, kd, ka, kb, c79 t h h1 h2]
  · rw [if_neg c4]
    have c4' : (mostV l us && shd t l us) = false := by simpa using c4
    rw [c4'] at kb
    simp only [t2, S0, bne_f, c1b, kx, ky, kd, ka, kb]
    rfl
theorem e122 (t : Tr) (l : List Vd) (x : HB) (vs : List Vt) (y : HB) (us : List Vt) (cs : List V) (c : Int) (hl : fitV l) (hf : vtsfit us) (q0 : cs[(1 : Int).toNat * 6]? = some (.int .i64 y.hgt)) (q1 : cs[(1 : Int).toNat * 6 + 1]? = some (.int .i64 y.tim)) (q2 : cs[(1 : Int).toNat * 6 + 1 + 1]? = some (.sl y.root.length (bytesV y.root))) (q3 : cs[(1 : Int).toNat * 6 + 1 + 1 + 1]? = some (.sl y.set.length (bytesV y.set))) (q4 : cs[(1 : Int).toNat * 6 + 1 + 1 + 1 + 1]? = some (.sl y.nxt.length (bytesV y.nxt))) (q5 : cs[(1 : Int).toNat * 6 + 1 + 1 + 1 + 1 + 1]? = some (.sl us.length (vtsS us))) {v : V}
    (next : loopE C 22 0 [true, true, true, false, true] [] [(1, V.sl l.length (vsS l)), (5, V.ptr 0 0), (7, V.ptr 1 0), (8, V.ptr 2 0), (10, V.ptr 3 0), (11, V.int .i64 (if c = 0 then sgFault l y us else c)), (26, V.ref 9), (27, V.int .i64 2), (28, V.int .i64 2)] [Ob.box 52 [V.int .i64 t.hd.hgt, V.int .i64 t.hd.tim, V.sl t.hd.root.length (bytesV t.hd.root), V.sl t.hd.set.length (bytesV t.hd.set), V.sl t.hd.nxt.length (bytesV t.hd.nxt), V.sl t.nx.length (vsS t.nx), V.int .i64 t.per, V.bool t.pau, V.sl t.roots.length (psS t.roots), V.int .i64 t.frm] false, Ob.box 55 [V.int .i64 x.hgt, V.int .i64 x.tim, V.sl x.root.length (bytesV x.root), V.sl x.set.length (bytesV x.set), V.sl x.nxt.length (bytesV x.nxt), V.sl vs.length (vtsS vs)] false, Ob.box 55 [V.int .i64 y.hgt, V.int .i64 y.tim, V.sl y.root.length (bytesV y.root), V.sl y.set.length (bytesV y.set), V.sl y.nxt.length (bytesV y.nxt), V.sl us.length (vtsS us)] false, Ob.box 59 [V.int .i64 0, V.int .i64 0, V.int .i64 0, V.ref 4, V.ref 5, V.ref 6, V.ref 7, V.int .i64 0, V.bool false, V.ref 8, V.int .i64 0] false, Ob.row 5 0 [] false, Ob.row 5 0 [] false, Ob.row 5 0 [] false, Ob.row 161 0 [] false, Ob.nrow [] 22 0 [], Ob.row 55 2 cs false] = some v) : loopE C 22 0 [true, true, true, false, true] [] [(1, V.sl l.length (vsS l)), (5, V.ptr 0 0), (7, V.ptr 1 0), (8, V.ptr 2 0), (10, V.ptr 3 0), (11, V.int .i64 c), (26, V.ref 9), (27, V.int .i64 2), (28, V.int .i64 1)] [Ob.box 52 [V.int .i64 t.hd.hgt, V.int .i64 t.hd.tim, V.sl t.hd.root.length (bytesV t.hd.root), V.sl t.hd.set.length (bytesV t.hd.set), V.sl t.hd.nxt.length (bytesV t.hd.nxt), V.sl t.nx.length (vsS t.nx), V.int .i64 t.per, V.bool t.pau, V.sl t.roots.length (psS t.roots), V.int .i64 t.frm] false, Ob.box 55 [V.int .i64 x.hgt, V.int .i64 x.tim, V.sl x.root.length (bytesV x.root), V.sl x.set.length (bytesV x.set), V.sl x.nxt.length (bytesV x.nxt), V.sl vs.length (vtsS vs)] false, Ob.box 55 [V.int .i64 y.hgt, V.int .i64 y.tim, V.sl y.root.length (bytesV y.root), V.sl y.set.length (bytesV y.set), V.sl y.nxt.length (bytesV y.nxt), V.sl us.length (vtsS us)] false, Ob.box 59 [V.int .i64 0, V.int .i64 0, V.int .i64 0, V.ref 4, V.ref 5, V.ref 6, V.ref 7, V.int .i64 0, V.bool false, V.ref 8, V.int .i64 0] false, Ob.row 5 0 [] false, Ob.row 5 0 [] false, Ob.row 5 0 [] false, Ob.row 161 0 [] false, Ob.nrow [] 22 0 [], Ob.row 55 2 cs false] = some v := by
  refine E22l1 _ _ _ _ _ _ _ _ _ _ _ _ _ _ _ _ _ _ _ _ _ _ _ _ _ _ _ _ _ _ _ _ _ _ _ _ _ _ _ _ _ _ _ _ _ _ _ _ _ _ _ _ _ _ _ _ _ _ ?_
  unfold T22l1
  have t2 : decide ((1 : Int) < 2) = true := rfl
  have t3 : inB 1 2 = true := rfl
  have w : IntKind.i64.wrap ((1 : Int) + 1) = 2 := rfl
  by_cases g : c = 0
  · rw [if_pos g] at next
    rw [g]
    simp only [t2, t3, must_true, q0, q1, q2, q3, q4, q5, beq_self_eq_true, S0, c75 l y us hl hf, w, next]
  · rw [if_neg g] at next
    simp only [t2, t3, must_true, q0, q1, q2, q3, q4, q5, beq_f g, S0, w, next]
theorem e022 (t : Tr) (l : List Vd) (x : HB) (vs : List Vt) (y : HB) (us : List Vt) (cs : List V) (c : Int) (hl : fitV l) (hf : vtsfit vs) (q0 : cs[(0 : Int).toNat * 6]? = some (.int .i64 x.hgt)) (q1 : cs[(0 : Int).toNat * 6 + 1]? = some (.int .i64 x.tim)) (q2 : cs[(0 : Int).toNat * 6 + 1 + 1]? = some (.sl x.root.length (bytesV x.root))) (q3 : cs[(0 : Int).toNat * 6 + 1 + 1 + 1]? = some (.sl x.set.length (bytesV x.set))) (q4 : cs[(0 : Int).toNat * 6 + 1 + 1 + 1 + 1]? = some (.sl x.nxt.length (bytesV x.nxt))) (q5 : cs[(0 : Int).toNat * 6 + 1 + 1 + 1 + 1 + 1]? = some (.sl vs.length (vtsS vs))) {v : V}
    (next : loopE C 22 0 [true, true, true, false, true] [] [(1, V.sl l.length (vsS l)), (5, V.ptr 0 0), (7, V.ptr 1 0), (8, V.ptr 2 0), (10, V.ptr 3 0), (11, V.int .i64 (if c = 0 then sgFault l x vs else c)), (26, V.ref 9), (27, V.int .i64 2), (28, V.int .i64 1)] [Ob.box 52 [V.int .i64 t.hd.hgt, V.int .i64 t.hd.tim, V.sl t.hd.root.length (bytesV t.hd.root), V.sl t.hd.set.length (bytesV t.hd.set), V.sl t.hd.nxt.length (bytesV t.hd.nxt), V.sl t.nx.length (vsS t.nx), V.int .i64 t.per, V.bool t.pau, V.sl t.roots.length (psS t.roots), V.int .i64 t.frm] false, Ob.box 55 [V.int .i64 x.hgt, V.int .i64 x.tim, V.sl x.root.length (bytesV x.root), V.sl x.set.length (bytesV x.set), V.sl x.nxt.length (bytesV x.nxt), V.sl vs.length (vtsS vs)] false, Ob.box 55 [V.int .i64 y.hgt, V.int .i64 y.tim, V.sl y.root.length (bytesV y.root), V.sl y.set.length (bytesV y.set), V.sl y.nxt.length (bytesV y.nxt), V.sl us.length (vtsS us)] false, Ob.box 59 [V.int .i64 0, V.int .i64 0, V.int .i64 0, V.ref 4, V.ref 5, V.ref 6, V.ref 7, V.int .i64 0, V.bool false, V.ref 8, V.int .i64 0] false, Ob.row 5 0 [] false, Ob.row 5 0 [] false, Ob.row 5 0 [] false, Ob.row 161 0 [] false, Ob.nrow [] 22 0 [], Ob.row 55 2 cs false] = some v) : loopE C 22 0 [true, true, true, false, true] [] [(1, V.sl l.length (vsS l)), (5, V.ptr 0 0), (7, V.ptr 1 0), (8, V.ptr 2 0), (10, V.ptr 3 0), (11, V.int .i64 c), (26, V.ref 9), (27, V.int .i64 2), (28, V.int .i64 0)] [Ob.box 52 [V.int .i64 t.hd.hgt, V.int .i64 t.hd.tim, V.sl t.hd.root.length (bytesV t.hd.root), V.sl t.hd.set.length (bytesV t.hd.set), V.sl t.hd.nxt.length (bytesV t.hd.nxt), V.sl t.nx.length (vsS t.nx), V.int .i64 t.per, V.bool t.pau, V.sl t.roots.length (psS t.roots), V.int .i64 t.frm] false, Ob.box 55 [V.int .i64 x.hgt, V.int .i64 x.tim, V.sl x.root.length (bytesV x.root), V.sl x.set.length (bytesV x.set), V.sl x.nxt.length (bytesV x.nxt), V.sl vs.length (vtsS vs)] false, Ob.box 55 [V.int .i64 y.hgt, V.int .i64 y.tim, V.sl y.root.length (bytesV y.root), V.sl y.set.length (bytesV y.set), V.sl y.nxt.length (bytesV y.nxt), V.sl us.length (vtsS us)] false, Ob.box 59 [V.int .i64 0, V.int .i64 0, V.int .i64 0, V.ref 4, V.ref 5, V.ref 6, V.ref 7, V.int .i64 0, V.bool false, V.ref 8, V.int .i64 0] false, Ob.row 5 0 [] false, Ob.row 5 0 [] false, Ob.row 5 0 [] false, Ob.row 161 0 [] false, Ob.nrow [] 22 0 [], Ob.row 55 2 cs false] = some v := by
  refine E22l1 _ _ _ _ _ _ _ _ _ _ _ _ _ _ _ _ _ _ _ _ _ _ _ _ _ _ _ _ _ _ _ _ _ _ _ _ _ _ _ _ _ _ _ _ _ _ _ _ _ _ _ _ _ _ _ _ _ _ ?_
  unfold T22l1
  have t2 : decide ((0 : Int) < 2) = true := rfl
  have t3 : inB 0 2 = true := rfl
  have w : IntKind.i64.wrap ((0 : Int) + 1) = 1 := rfl
  by_cases g : c = 0
  · rw [if_pos g] at next
    rw [g]
    simp only [t2, t3, must_true, q0, q1, q2, q3, q4, q5, beq_self_eq_true, S0, c75 l x vs hl hf, w, next]
  · rw [if_neg g] at next
    simp only [t2, t3, must_true, q0, q1, q2, q3, q4, q5, beq_f g, S0, w, next]
theorem c22 (t : Tr) (l : List Vd) (x : HB) (vs : List Vt) (y : HB) (us : List Vt) (now : Int) (h : fitH t.hd) (h1 : fitV t.nx) (h2 : fitP t.roots) (hl : fitV l) (hf : vtsfit vs) (hg : vtsfit us) :
    runE C 22 [.agg [.int .i64 t.hd.hgt, .int .i64 t.hd.tim, .sl t.hd.root.length (bytesV t.hd.root), .sl t.hd.set.length (bytesV t.hd.set), .sl t.hd.nxt.length (bytesV t.hd.nxt), .sl t.nx.length (vsS t.nx), .int .i64 t.per, .bool t.pau, .sl t.roots.length (psS t.roots), .int .i64 t.frm], .sl l.length (vsS l), .agg [.int .i64 x.hgt, .int .i64 x.tim, .sl x.root.length (bytesV x.root), .sl x.set.length (bytesV x.set), .sl x.nxt.length (bytesV x.nxt), .sl vs.length (vtsS vs)], .agg [.int .i64 y.hgt, .int .i64 y.tim, .sl y.root.length (bytesV y.root), .sl y.set.length (bytesV y.set), .sl y.nxt.length (bytesV y.nxt), .sl us.length (vtsS us)], .int .i64 now] = some (.tup [.int .i64 (evid t l x vs y us now).1, .int .i64 (evid t l x vs y us now).2.hd.hgt, .int .i64 (evid t l x vs y us now).2.hd.tim, .osl (evid t l x vs y us now).2.hd.root.length (bytesV (evid t l x vs y us now).2.hd.root), .osl (evid t l x vs y us now).2.hd.set.length (bytesV (evid t l x vs y us now).2.hd.set), .osl (evid t l x vs y us now).2.hd.nxt.length (bytesV (evid t l x vs y us now).2.hd.nxt), .osl (evid t l x vs y us now).2.nx.length (vsO (evid t l x vs y us now).2.nx), .int .i64 (evid t l x vs y us now).2.per, .bool (evid t l x vs y us now).2.pau, .osl (evid t l x vs y us now).2.roots.length (psO (evid t l x vs y us now).2.roots), .int .i64 (evid t l x vs y us now).2.frm]) := by
  have loop : ∀ c : Int, (c = 0 → tFault t = 0) → loopE C 22 0 [true, true, true, false, true] [] [(1, V.sl l.length (vsS l)), (5, V.ptr 0 0), (7, V.ptr 1 0), (8, V.ptr 2 0), (10, V.ptr 3 0), (11, V.int .i64 c), (26, V.ref 9), (27, V.int .i64 2), (28, V.int .i64 0)] [Ob.box 52 [V.int .i64 t.hd.hgt, V.int .i64 t.hd.tim, V.sl t.hd.root.length (bytesV t.hd.root), V.sl t.hd.set.length (bytesV t.hd.set), V.sl t.hd.nxt.length (bytesV t.hd.nxt), V.sl t.nx.length (vsS t.nx), V.int .i64 t.per, V.bool t.pau, V.sl t.roots.length (psS t.roots), V.int .i64 t.frm] false, Ob.box 55 [V.int .i64 x.hgt, V.int .i64 x.tim, V.sl x.root.length (bytesV x.root), V.sl x.set.length (bytesV x.set), V.sl x.nxt.length (bytesV x.nxt), V.sl vs.length (vtsS vs)] false, Ob.box 55 [V.int .i64 y.hgt, V.int .i64 y.tim, V.sl y.root.length (bytesV y.root), V.sl y.set.length (bytesV y.set), V.sl y.nxt.length (bytesV y.nxt), V.sl us.length (vtsS us)] false, Ob.box 59 [V.int .i64 0, V.int .i64 0, V.int .i64 0, V.ref 4, V.ref 5, V.ref 6, V.ref 7, V.int .i64 0, V.bool false, V.ref 8, V.int .i64 0] false, Ob.row 5 0 [] false, Ob.row 5 0 [] false, Ob.row 5 0 [] false, Ob.row 161 0 [] false, Ob.nrow [] 22 0 [], Ob.row 55 2 [V.int .i64 x.hgt, V.int .i64 x.tim, V.sl x.root.length (bytesV x.root), V.sl x.set.length (bytesV x.set), V.sl x.nxt.length (bytesV x.nxt), V.sl vs.length (vtsS vs), V.int .i64 y.hgt, V.int .i64 y.tim, V.sl y.root.length (bytesV y.root), V.sl y.set.length (bytesV y.set), V.sl y.nxt.length (bytesV y.nxt), V.sl us.length (vtsS us)] false] = some (.tup [.int .i64 (if c ≠ 0 then (c, noT) else if sgFault l x vs ≠ 0 then (sgFault l x vs, noT) else if sgFault l y us ≠ 0 then (sgFault l y us, noT) else evEnd t l x vs y us).1, .int .i64 (if c ≠ 0 then (c, noT) else if sgFault l x vs ≠ 0 then (sgFault l x vs, noT) else if sgFault l y us ≠ 0 then (sgFault l y us, noT) else evEnd t l x vs y us).2.hd.hgt, .int .i64 (if c ≠ 0 then (c, noT) else if sgFault l x vs ≠ 0 then (sgFault l x vs, noT) else if sgFault l y us ≠ 0 then (sgFault l y us, noT) else evEnd t l x vs y us).2.hd.tim, .osl (if c ≠ 0 then (c, noT) else if sgFault l x vs ≠ 0 then (sgFault l x vs, noT) else if sgFault l y us ≠ 0 then (sgFault l y us, noT) else evEnd t l x vs y us).2.hd.root.length (bytesV (if c ≠ 0 then (c, noT) else if sgFault l x vs ≠ 0 then (sgFault l x vs, noT) else if sgFault l y us ≠ 0 then (sgFault l y us, noT) else evEnd t l x vs y us).2.hd.root), .osl (if c ≠ 0 then (c, noT) else if sgFault l x vs ≠ 0 then (sgFault l x vs, noT) else if sgFault l y us ≠ 0 then (sgFault l y us, noT) else evEnd t l x vs y us).2.hd.set.length (bytesV (if c ≠ 0 then (c, noT) else if sgFault l x vs ≠ 0 then (sgFault l x vs, noT) else if sgFault l y us ≠ 0 then (sgFault l y us, noT) else evEnd t l x vs y us).2.hd.set), .osl (if c ≠ 0 then (c, noT) else if sgFault l x vs ≠ 0 then (sgFault l x vs, noT) else if sgFault l y us ≠ 0 then (sgFault l y us, noT) else evEnd t l x vs y us).2.hd.nxt.length (bytesV (if c ≠ 0 then (c, noT) else if sgFault l x vs ≠ 0 then (sgFault l x vs, noT) else if sgFault l y us ≠ 0 then (sgFault l y us, noT) else evEnd t l x vs y us).2.hd.nxt), .osl (if c ≠ 0 then (c, noT) else if sgFault l x vs ≠ 0 then (sgFault l x vs, noT) else if sgFault l y us ≠ 0 then (sgFault l y us, noT) else evEnd t l x vs y us).2.nx.length (vsO (if c ≠ 0 then (c, noT) else if sgFault l x vs ≠ 0 then (sgFault l x vs, noT) else if sgFault l y us ≠ 0 then (sgFault l y us, noT) else evEnd t l x vs y us).2.nx), .int .i64 (if c ≠ 0 then (c, noT) else if sgFault l x vs ≠ 0 then (sgFault l x vs, noT) else if sgFault l y us ≠ 0 then (sgFault l y us, noT) else evEnd t l x vs y us).2.per, .bool (if c ≠ 0 then (c, noT) else if sgFault l x vs ≠ 0 then (sgFault l x vs, noT) else if sgFault l y us ≠ 0 then (sgFault l y us, noT) else evEnd t l x vs y us).2.pau, .osl (if c ≠ 0 then (c, noT) else if sgFault l x vs ≠ 0 then (sgFault l x vs, noT) else if sgFault l y us ≠ 0 then (sgFault l y us, noT) else evEnd t l x vs y us).2.roots.length (psO (if c ≠ 0 then (c, noT) else if sgFault l x vs ≠ 0 then (sgFault l x vs, noT) else if sgFault l y us ≠ 0 then (sgFault l y us, noT) else evEnd t l x vs y us).2.roots), .int .i64 (if c ≠ 0 then (c, noT) else if sgFault l x vs ≠ 0 then (sgFault l x vs, noT) else if sgFault l y us ≠ 0 then (sgFault l y us, noT) else evEnd t l x vs y us).2.frm]) := by
    intro c hc
    refine e022 t l x vs y us _ c hl hf rfl rfl rfl rfl rfl rfl ?_
    refine e122 t l x vs y us _ _ hl hg rfl rfl rfl rfl rfl rfl ?_
    by_cases g : c = 0
    · have ht := hc g
      rw [nz g, if_pos g]
      by_cases g1 : sgFault l x vs = 0
      · rw [nz g1, if_pos g1]
        exact e222 t l x vs y us _ _ h h1 h2 (fun g2 => ⟨ht, g1, g2⟩)
      · rw [if_neg g1, if_pos g1]
        have k := e222 t l x vs y us [V.int .i64 x.hgt, V.int .i64 x.tim, V.sl x.root.length (bytesV x.root), V.sl x.set.length (bytesV x.set), V.sl x.nxt.length (bytesV x.nxt), V.sl vs.length (vtsS vs), V.int .i64 y.hgt, V.int .i64 y.tim, V.sl y.root.length (bytesV y.root), V.sl y.set.length (bytesV y.set), V.sl y.nxt.length (bytesV y.nxt), V.sl us.length (vtsS us)] (sgFault l x vs) h h1 h2 (fun g2 => absurd g2 g1)
        rw [if_pos g1] at k
        exact k
    · rw [if_neg g, if_neg g, if_pos g]
      have k := e222 t l x vs y us [V.int .i64 x.hgt, V.int .i64 x.tim, V.sl x.root.length (bytesV x.root), V.sl x.set.length (bytesV x.set), V.sl x.nxt.length (bytesV x.nxt), V.sl vs.length (vtsS vs), V.int .i64 y.hgt, V.int .i64 y.tim, V.sl y.root.length (bytesV y.root), V.sl y.set.length (bytesV y.set), V.sl y.nxt.length (bytesV y.nxt), V.sl us.length (vtsS us)] c h h1 h2 (fun g2 => absurd g2 g)
      rw [if_pos g] at k
      exact k
  have k0 := c31 t h h1 h2
  refine E22 _ _ _ _ _ _ _ _ _ _ _ _ _ _ _ _ _ _ _ _ _ _ _ _ _ _ _ _ _ _ _ _ _ _ _ _ _ _ ?_
  unfold T22 evid
  by_cases g : tFault t = 0
  case neg =>
    have kk := loop (tFault t) (fun e => absurd e g)
    rw [if_pos g] at kk ⊢
    simp only [S0, k0, beq_f g]
    exact kk
  rw [if_neg (fun h => h g)]
  have ko := c74 t now g
  rw [g] at k0
  by_cases g1 : old t now = true
  · rw [if_pos g1]
    rw [g1] at ko
    have kk := loop 10 (fun e => by cases e)
    rw [if_pos (show ((10 : Int) ≠ 0) by decide)] at kk
    simp only [S0, k0, beq_self_eq_true, ko]
    exact kk
  · rw [if_neg g1]
    have g1' : old t now = false := by simpa using g1
    rw [g1'] at ko
    have kk := loop 0 (fun _ => g)
    rw [if_neg (fun h => h rfl)] at kk
    simp only [S0, k0, beq_self_eq_true, ko]
    exact kk
theorem c23 (t : Tr) (l : List Vd) (x : HB) (vs : List Vt) (y : HB) (us : List Vt) (now : Int) (h : fitH t.hd) (h1 : fitV t.nx) (h2 : fitP t.roots) (hl : fitV l) (hf : vtsfit vs) (hg : vtsfit us) :
    runE C 23 [.agg [.int .i64 t.hd.hgt, .int .i64 t.hd.tim, .sl t.hd.root.length (bytesV t.hd.root), .sl t.hd.set.length (bytesV t.hd.set), .sl t.hd.nxt.length (bytesV t.hd.nxt), .sl t.nx.length (vsS t.nx), .int .i64 t.per, .bool t.pau, .sl t.roots.length (psS t.roots), .int .i64 t.frm], .sl l.length (vsS l), .agg [.int .i64 x.hgt, .int .i64 x.tim, .sl x.root.length (bytesV x.root), .sl x.set.length (bytesV x.set), .sl x.nxt.length (bytesV x.nxt), .sl vs.length (vtsS vs)], .agg [.int .i64 y.hgt, .int .i64 y.tim, .sl y.root.length (bytesV y.root), .sl y.set.length (bytesV y.set), .sl y.nxt.length (bytesV y.nxt), .sl us.length (vtsS us)], .int .i64 now] = some (.tup [.int .i64 (evid t l x vs y us now).1, .int .i64 (evid t l x vs y us now).2.hd.hgt, .int .i64 (evid t l x vs y us now).2.hd.tim, .sl (evid t l x vs y us now).2.hd.root.length (bytesV (evid t l x vs y us now).2.hd.root), .sl (evid t l x vs y us now).2.hd.set.length (bytesV (evid t l x vs y us now).2.hd.set), .sl (evid t l x vs y us now).2.hd.nxt.length (bytesV (evid t l x vs y us now).2.hd.nxt), .sl (evid t l x vs y us now).2.nx.length (vsS (evid t l x vs y us now).2.nx), .int .i64 (evid t l x vs y us now).2.per, .bool (evid t l x vs y us now).2.pau, .sl (evid t l x vs y us now).2.roots.length (psS (evid t l x vs y us now).2.roots), .int .i64 (evid t l x vs y us now).2.frm]) := by
  have k0 := c29 t h h1 h2
  refine E23 _ _ _ _ _ _ _ _ _ _ _ _ _ _ _ _ _ _ _ _ _ _ _ _ _ _ _ _ _ _ _ _ _ _ _ _ _ _ ?_
  unfold T23 evid
  by_cases g : tFault t = 0
  case neg =>
    rw [if_pos g]
    simp only [S0, k0, bne_t g]
    rfl
  rw [if_neg (fun h => h g)]
  have ko := c80 t now g
  rw [g] at k0
  by_cases g1 : old t now = true
  · rw [if_pos g1]
    rw [g1] at ko
    simp only [S0, k0, bne_f, ko]
    rfl
  rw [if_neg g1]
  have g1' : old t now = false := by simpa using g1
  rw [g1'] at ko
  have ka := c81 l x vs hl hf
  have kb := c81 l y us hl hg
  by_cases g2 : sgFault l x vs = 0
  case neg =>
    rw [if_pos g2]
    simp only [S0, k0, bne_f, ko, ka, bne_t g2]
    rfl
  rw [if_neg (fun h => h g2)]
  by_cases g3 : sgFault l y us = 0
  case neg =>
    rw [if_pos g3]
    rw [g2] at ka
    simp only [S0, k0, bne_f, ko, ka, kb, bne_t g3]
    rfl
  rw [if_neg (fun h => h g3)]
  rw [g2] at ka
  rw [g3] at kb
  have ex := (sgFault_ok g2).2.1
  have ey := (sgFault_ok g3).2.1
  have kx := c83 x ex
  have ky := c83 y ey
  unfold evEnd
  by_cases c1 : x.hgt = y.hgt
  case neg =>
    rw [if_pos c1]
    simp only [S0, k0, bne_f, ko, ka, kb, bne_t c1]
    rfl
  rw [if_neg (fun h => h c1)]
  have c1b : (x.hgt != y.hgt) = false := by rw [c1]; exact bne_f _
  have kd := c82 (hbDig x) (hbDig y) (by rw [hbDig_length]; decide)
  rw [hbDig_length, hbDig_length] at kd
  by_cases c2 : hbDig x = hbDig y
  · rw [if_pos c2]
    rw [decide_eq_true c2] at kd
    simp only [S0, k0, bne_f, ko, ka, kb, c1b, kx, ky, kd]
    rfl
  rw [if_neg c2]
  rw [decide_eq_false c2] at kd
  have km := c84 l x vs hl hf g2
  have kn := c84 l y us hl hg g3
  have kp := c85 t l x vs g g2
  have kq := c85 t l y us g g3
  cases c3 : mostV l vs <;> cases c4 : mostV l us <;> cases c5 : shd t l vs <;> cases c6 : shd t l us <;> rw [c3] at km <;> rw [c4] at kn <;> rw [c5] at kp <;> rw [c6] at kq <;>
    simp only [S0, k0, bne_f, ko, ka, kb, c1b, kx, ky, kd, km, kn, kp, kq, c86 t h h1 h2] <;> rfl
end Go.Proofs.YtodapaplfjfnlaaGreat.Vote
