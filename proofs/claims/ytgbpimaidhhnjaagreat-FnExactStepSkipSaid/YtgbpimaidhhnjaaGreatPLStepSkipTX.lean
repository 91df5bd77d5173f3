/-
  FnExactStepSkip: the law comes to true.
-/
import Derived.Test.YtgbpimaidhhnjaaGreatPLStepTX
namespace Go.Proofs.YtgbpimaidhhnjaaGreat.Vote
open Go Go.PI Go.PI.Sha Go.PI.Rel Go.PI.Nest Go.PI.Tru Go.PI.Set Go.PI.Vote Go.Proofs.YtgbpimaidhhnjaaGreat.Sha Go.Proofs.YtgbpimaidhhnjaaGreat.By Go.Proofs.YtgbpimaidhhnjaaGreat.Nest Go.Proofs.YtgbpimaidhhnjaaGreat.Tru Go.Proofs.YtgbpimaidhhnjaaGreat.Set EqX
set_option maxHeartbeats 4000000
set_option maxRecDepth 100000
set_option linter.unusedVariables false
set_option linter.unusedSimpArgs false
theorem c5 (t : Tr) (l : List Vd) (a : Sg) (p : List Vd) (n : Int) (ht : (((-9223372036854775808 ≤ t.hd.hgt ∧ t.hd.hgt ≤ 9223372036854775807) ∧ (-9223372036854775808 ≤ t.hd.tim ∧ t.hd.tim ≤ 9223372036854775807) ∧ t.hd.root.length ≤ 9223372036854775807 ∧ t.hd.set.length ≤ 9223372036854775807 ∧ t.hd.nxt.length ≤ 9223372036854775807) ∧ (t.nx.length ≤ 9223372036854775807 ∧ ∀ v ∈ t.nx, (v.key.length ≤ 9223372036854775807 ∧ (-9223372036854775808 ≤ v.pow ∧ v.pow ≤ 9223372036854775807))) ∧ (-9223372036854775808 ≤ t.per ∧ t.per ≤ 9223372036854775807) ∧ True ∧ (t.roots.length ≤ 9223372036854775807 ∧ ∀ v ∈ t.roots, v.length ≤ 9223372036854775807) ∧ (-9223372036854775808 ≤ t.frm ∧ t.frm ≤ 9223372036854775807))) (hl : (l.length ≤ 9223372036854775807 ∧ ∀ v ∈ l, (v.key.length ≤ 9223372036854775807 ∧ (-9223372036854775808 ≤ v.pow ∧ v.pow ≤ 9223372036854775807)))) (ha : (((-9223372036854775808 ≤ a.hd.hgt ∧ a.hd.hgt ≤ 9223372036854775807) ∧ (-9223372036854775808 ≤ a.hd.tim ∧ a.hd.tim ≤ 9223372036854775807) ∧ a.hd.root.length ≤ 9223372036854775807 ∧ a.hd.set.length ≤ 9223372036854775807 ∧ a.hd.nxt.length ≤ 9223372036854775807) ∧ (a.vs.length ≤ 9223372036854775807 ∧ ∀ v ∈ a.vs, ((-9223372036854775808 ≤ v.plc ∧ v.plc ≤ 9223372036854775807) ∧ ((-9223372036854775808 ≤ v.leaf ∧ v.leaf ≤ 9223372036854775807) ∧ (v.parts.length ≤ 9223372036854775807 ∧ ∀ w ∈ v.parts, w.length ≤ 9223372036854775807) ∧ ((-9223372036854775808 ≤ v.spl ∧ v.spl ≤ 9223372036854775807) ∧ (-9223372036854775808 ≤ v.cnt ∧ v.cnt ≤ 9223372036854775807) ∧ (v.path.length ≤ 9223372036854775807 ∧ ∀ w ∈ v.path, w.length ≤ 9223372036854775807))))))) (hp : (p.length ≤ 9223372036854775807 ∧ ∀ v ∈ p, (v.key.length ≤ 9223372036854775807 ∧ (-9223372036854775808 ≤ v.pow ∧ v.pow ≤ 9223372036854775807)))) (hn : (-9223372036854775808 ≤ n ∧ n ≤ 9223372036854775807)) :
    runE C 5 [.agg [.int .i64 t.hd.hgt, .int .i64 t.hd.tim, .sl t.hd.root.length (bytesV t.hd.root), .sl t.hd.set.length (bytesV t.hd.set), .sl t.hd.nxt.length (bytesV t.hd.nxt), .sl t.nx.length (vsS t.nx), .int .i64 t.per, .bool t.pau, .sl t.roots.length (psS t.roots), .int .i64 t.frm], .sl l.length (vsS l), .agg [.int .i64 a.hd.hgt, .int .i64 a.hd.tim, .sl a.hd.root.length (bytesV a.hd.root), .sl a.hd.set.length (bytesV a.hd.set), .sl a.hd.nxt.length (bytesV a.hd.nxt), .sl a.vs.length (vtsS a.vs)], .sl p.length (vsS p), .int .i64 n] = some (.tup [.bool true]) := by
  refine E5 _ _ _ _ _ _ _ _ _ _ _ _ _ _ _ _ _ _ _ _ _ _ _ _ _ _ _ _ _ _ ?_
  unfold T5
  have z1 := c7 t (1048576) ⟨ht.1.2.2.1, ht.1.2.2.2.1, ht.1.2.2.2.2⟩ ht.2.1.1 (fun v hv => (ht.2.1.2 v hv).1) ht.2.2.2.2.1.1 ht.2.2.2.2.1.2 (by omega) (by omega)
  by_cases g1 : (1048576 : Int) < ((szTr t : Nat) : Int)
  · rw [less_lt g1] at z1
    repeat first | (with_reducible refine sT ?_) | ((with_reducible refine sIg (n := ?_) ?_ ?_); rotate_left; exact rfl) | ((with_reducible refine sBg (n := ?_) ?_ ?_); rotate_left; exact rfl) | ((with_reducible refine sSg (n := ?_) ?_ ?_); rotate_left; exact rfl) | ((with_reducible refine sLg (n := ?_) (cs := ?_) ?_ ?_); rotate_left 2; exact rfl) | ((with_reducible refine sOg (n := ?_) (cs := ?_) ?_ ?_); rotate_left 2; exact rfl) | (with_reducible refine sNt ?_) | (with_reducible refine sNe ?_) | (with_reducible first | refine sN z1 ?_ )
    exact s1 (show (-1 : Int) < 0 by decide) rfl
  rw [less_ge g1] at z1
  have n1 : ¬ ((1048576 : Int) - ((szTr t : Nat) : Int) < 0) := by omega
  have z2 := c8 l (1048576 - ((szTr t : Nat) : Int)) hl.1 (fun v hv => (hl.2 v hv).1) (by omega) (by omega)
  by_cases g2 : (1048576 : Int) - ((szTr t : Nat) : Int) < ((l.length + tot kl l : Nat) : Int)
  · rw [less_lt g2] at z2
    repeat first | (with_reducible refine sT ?_) | ((with_reducible refine sIg (n := ?_) ?_ ?_); rotate_left; exact rfl) | ((with_reducible refine sBg (n := ?_) ?_ ?_); rotate_left; exact rfl) | ((with_reducible refine sSg (n := ?_) ?_ ?_); rotate_left; exact rfl) | ((with_reducible refine sLg (n := ?_) (cs := ?_) ?_ ?_); rotate_left 2; exact rfl) | ((with_reducible refine sOg (n := ?_) (cs := ?_) ?_ ?_); rotate_left 2; exact rfl) | (with_reducible refine sNt ?_) | (with_reducible refine sNe ?_) | (with_reducible first | refine sN z1 ?_ | refine sN z2 ?_ | refine s0 n1 ?_)
    exact s1 (show (-1 : Int) < 0 by decide) rfl
  rw [less_ge g2] at z2
  have n2 : ¬ ((1048576 : Int) - ((szTr t : Nat) : Int) - ((l.length + tot kl l : Nat) : Int) < 0) := by omega
  have z3 := c9 a.hd a.vs (1048576 - ((szTr t : Nat) : Int) - ((l.length + tot kl l : Nat) : Int)) ⟨ha.1.2.2.1, ha.1.2.2.2.1, ha.1.2.2.2.2⟩ ha.2.1 (fun v hv => ⟨(ha.2.2 v hv).2.2.1, (ha.2.2 v hv).2.2.2.2.2⟩) (by omega) (by omega)
  by_cases g3 : (1048576 : Int) - ((szTr t : Nat) : Int) - ((l.length + tot kl l : Nat) : Int) < ((szH a.hd + (a.vs.length + tot vtT a.vs) : Nat) : Int)
  · rw [less_lt g3] at z3
    repeat first | (with_reducible refine sT ?_) | ((with_reducible refine sIg (n := ?_) ?_ ?_); rotate_left; exact rfl) | ((with_reducible refine sBg (n := ?_) ?_ ?_); rotate_left; exact rfl) | ((with_reducible refine sSg (n := ?_) ?_ ?_); rotate_left; exact rfl) | ((with_reducible refine sLg (n := ?_) (cs := ?_) ?_ ?_); rotate_left 2; exact rfl) | ((with_reducible refine sOg (n := ?_) (cs := ?_) ?_ ?_); rotate_left 2; exact rfl) | (with_reducible refine sNt ?_) | (with_reducible refine sNe ?_) | (with_reducible first | refine sN z1 ?_ | refine sN z2 ?_ | refine sN z3 ?_ | refine s0 n1 ?_ | refine s0 n2 ?_)
    exact s1 (show (-1 : Int) < 0 by decide) rfl
  rw [less_ge g3] at z3
  have n3 : ¬ ((1048576 : Int) - ((szTr t : Nat) : Int) - ((l.length + tot kl l : Nat) : Int) - ((szH a.hd + (a.vs.length + tot vtT a.vs) : Nat) : Int) < 0) := by omega
  have z4 := c8 p (1048576 - ((szTr t : Nat) : Int) - ((l.length + tot kl l : Nat) : Int) - ((szH a.hd + (a.vs.length + tot vtT a.vs) : Nat) : Int)) hp.1 (fun v hv => (hp.2 v hv).1) (by omega) (by omega)
  by_cases g4 : (1048576 : Int) - ((szTr t : Nat) : Int) - ((l.length + tot kl l : Nat) : Int) - ((szH a.hd + (a.vs.length + tot vtT a.vs) : Nat) : Int) < ((p.length + tot kl p : Nat) : Int)
  · rw [less_lt g4] at z4
    repeat first | (with_reducible refine sT ?_) | ((with_reducible refine sIg (n := ?_) ?_ ?_); rotate_left; exact rfl) | ((with_reducible refine sBg (n := ?_) ?_ ?_); rotate_left; exact rfl) | ((with_reducible refine sSg (n := ?_) ?_ ?_); rotate_left; exact rfl) | ((with_reducible refine sLg (n := ?_) (cs := ?_) ?_ ?_); rotate_left 2; exact rfl) | ((with_reducible refine sOg (n := ?_) (cs := ?_) ?_ ?_); rotate_left 2; exact rfl) | (with_reducible refine sNt ?_) | (with_reducible refine sNe ?_) | (with_reducible first | refine sN z1 ?_ | refine sN z2 ?_ | refine sN z3 ?_ | refine sN z4 ?_ | refine s0 n1 ?_ | refine s0 n2 ?_ | refine s0 n3 ?_)
    exact s1 (show (-1 : Int) < 0 by decide) rfl
  rw [less_ge g4] at z4
  have n4 : ¬ ((1048576 : Int) - ((szTr t : Nat) : Int) - ((l.length + tot kl l : Nat) : Int) - ((szH a.hd + (a.vs.length + tot vtT a.vs) : Nat) : Int) - ((p.length + tot kl p : Nat) : Int) < 0) := by omega
  have ft : fitT t := by unfold szTr at *; exact ⟨by unfold fitH; omega, ⟨by omega, by omega⟩, by omega, by omega⟩
  have fl : fitV l := ⟨by omega, by omega⟩
  have fa : sgfit a := ⟨by unfold fitH; omega, vtsT_fit (by omega) (by omega)⟩
  have fp : fitV p := ⟨by omega, by omega⟩
  obtain ⟨f1, f2, f3⟩ := stepSkipG_fit t l a p n ft fl fa fp
  have cs := w26 t l a p n ft fl fa fp
  have ci := w27 t l a p n ft fl fa fp
  generalize hc : (stepSkipG t l a p n).1 = c at cs ci
  generalize htr : (stepSkipG t l a p n).2 = r at cs ci f1 f2 f3
  rw [← vs_bare t.nx, ← ps_bare t.roots, ← vs_bare l, ← vts_bare a.vs, ← vs_bare p] at cs ci
  have ce := c15 c c r r f1 f2 f3
  have ce : runE C 15 [.agg [.int .i64 c, .int .i64 r.hd.hgt, .int .i64 r.hd.tim, .sl r.hd.root.length (bytesV r.hd.root), .sl r.hd.set.length (bytesV r.hd.set), .sl r.hd.nxt.length (bytesV r.hd.nxt), .sl r.nx.length (bareL (vsO r.nx)), .int .i64 r.per, .bool r.pau, .sl r.roots.length (bareL (psO r.roots)), .int .i64 r.frm], .agg [.int .i64 c, .int .i64 r.hd.hgt, .int .i64 r.hd.tim, .sl r.hd.root.length (bytesV r.hd.root), .sl r.hd.set.length (bytesV r.hd.set), .sl r.hd.nxt.length (bytesV r.hd.nxt), .sl r.nx.length (vsS r.nx), .int .i64 r.per, .bool r.pau, .sl r.roots.length (psS r.roots), .int .i64 r.frm]] = some (.tup [.bool true]) := by
    rw [vs_bare, ps_bare, ce]; simp
  have bt := szT_bound ft.1 ft.2.1 ft.2.2
  have bl := cV_bound fl
  have ba := sg_bound fa
  have bp := cV_bound fp
  have m1 := c19 t (1) (by omega) (by omega) ft.1 ft.2.1 ft.2.2
  have m2 := c20 l (1 + ((szT t : Nat) : Int)) (by omega) (by omega) fl
  have m3 := c21 a.hd a.vs (1 + ((szT t : Nat) : Int) + ((cV l : Nat) : Int)) (by omega) (by omega) fa.1 fa.2
  have m4 := c20 p (1 + ((szT t : Nat) : Int) + ((cV l : Nat) : Int) + ((szH a.hd : Nat) : Int) + ((vtsC a.vs : Nat) : Int)) (by omega) (by omega) fp
  have mr := c22 c r 1 (by decide) (by decide) f1 f2 f3
  have mh := c23 c r 1 (by decide) (by decide) f1 f2 f3
  rw [← vs_bare, ← ps_bare] at mh
  have q1 : ¬ ((1 + ((szT t : Nat) : Int) + ((cV l : Nat) : Int) + ((szH a.hd : Nat) : Int) + ((vtsC a.vs : Nat) : Int) + ((cV p : Nat) : Int) : Int) < 0) := by omega
  have q2 : ¬ ((1 : Int) + ((szT r : Nat) : Int) < 0) := by omega
  have tt := c11 t ft.1 ft.2.1 ft.2.2
  have et := c16 t t ft.1 ft.2.1 ft.2.2
  rw [decide_eq_true rfl] at et
  have et : runE C 16 [.agg [.int .i64 t.hd.hgt, .int .i64 t.hd.tim, .sl t.hd.root.length (bytesV t.hd.root), .sl t.hd.set.length (bytesV t.hd.set), .sl t.hd.nxt.length (bytesV t.hd.nxt), .sl t.nx.length (bareL (vsO t.nx)), .int .i64 t.per, .bool t.pau, .sl t.roots.length (bareL (psO t.roots)), .int .i64 t.frm], .agg [.int .i64 t.hd.hgt, .int .i64 t.hd.tim, .sl t.hd.root.length (bytesV t.hd.root), .sl t.hd.set.length (bytesV t.hd.set), .sl t.hd.nxt.length (bytesV t.hd.nxt), .sl t.nx.length (bareL (vsO t.nx)), .int .i64 t.per, .bool t.pau, .sl t.roots.length (bareL (psO t.roots)), .int .i64 t.frm]] = some (.tup [.bool true]) := by
    rw [vs_bare t.nx, ps_bare t.roots]; exact et
  have tl := c12 l fl
  have el := c17 l l fl
  rw [decide_eq_true rfl] at el
  have el : runE C 17 [.sl l.length (bareL (vsO l)), .sl l.length (bareL (vsO l))] = some (.tup [.bool true]) := by
    rw [vs_bare l]; exact el
  have ta := c13 a.hd a.vs fa.1 fa.2
  have ea := c18 a.hd a.hd a.vs a.vs fa.1 fa.2
  rw [decide_eq_true ⟨rfl, rfl⟩] at ea
  have ea : runE C 18 [.agg [.int .i64 a.hd.hgt, .int .i64 a.hd.tim, .sl a.hd.root.length (bytesV a.hd.root), .sl a.hd.set.length (bytesV a.hd.set), .sl a.hd.nxt.length (bytesV a.hd.nxt), .sl a.vs.length (bareL (vtsO a.vs))], .agg [.int .i64 a.hd.hgt, .int .i64 a.hd.tim, .sl a.hd.root.length (bytesV a.hd.root), .sl a.hd.set.length (bytesV a.hd.set), .sl a.hd.nxt.length (bytesV a.hd.nxt), .sl a.vs.length (bareL (vtsO a.vs))]] = some (.tup [.bool true]) := by
    rw [vts_bare a.vs]; exact ea
  have tp := c12 p fp
  have ep := c17 p p fp
  rw [decide_eq_true rfl] at ep
  have ep : runE C 17 [.sl p.length (bareL (vsO p)), .sl p.length (bareL (vsO p))] = some (.tup [.bool true]) := by
    rw [vs_bare p]; exact ep
  repeat first | (with_reducible refine sT ?_) | ((with_reducible refine sIg (n := ?_) ?_ ?_); rotate_left; exact rfl) | ((with_reducible refine sBg (n := ?_) ?_ ?_); rotate_left; exact rfl) | ((with_reducible refine sSg (n := ?_) ?_ ?_); rotate_left; exact rfl) | ((with_reducible refine sLg (n := ?_) (cs := ?_) ?_ ?_); rotate_left 2; exact rfl) | ((with_reducible refine sOg (n := ?_) (cs := ?_) ?_ ?_); rotate_left 2; exact rfl) | (with_reducible refine sNt ?_) | (with_reducible refine sNe ?_) | (with_reducible first | refine sN z1 ?_ | refine sN z2 ?_ | refine sN z3 ?_ | refine sN z4 ?_ | refine sN tt ?_ | refine sN et ?_ | refine sN tl ?_ | refine sN el ?_ | refine sN ta ?_ | refine sN ea ?_ | refine sN tp ?_ | refine sN ep ?_ | refine sN cs ?_ | refine sN ci ?_ | refine sN ce ?_ | refine sN mh ?_ | refine s0 n1 ?_ | refine s0 n2 ?_ | refine s0 n3 ?_ | refine s0 n4 ?_ | refine s0 q1 ?_ | refine s0 q2 ?_ | refine sW mr ?_ | refine sW m1 ?_ | refine sW m2 ?_ | refine sW m3 ?_ | refine sW m4 ?_)
  rfl
end Go.Proofs.YtgbpimaidhhnjaaGreat.Vote
