/-
  Steps of a trust, both sides.
-/
import Derived.Test.YtodapaplfjfnlaaGreatPLEvidTQ
namespace Go.PI.Vote
open Go Go.PI Go.PI.Sha Go.PI.Rel Go.PI.Nest Go.PI.Tru Go.PI.Set Go.PI.Tree
def sk (t : Tr) (x : HB) : Nat := (x.hgt - t.hd.hgt - 1).toNat
def rts (t : Tr) (x : HB) : List (List UInt8) := t.roots ++ (List.replicate (min (sk t x) 24) [] ++ [x.root])
def rcut (l : List (List UInt8)) : List (List UInt8) := l.drop (l.length - 24)
def stT (t : Tr) (x : HB) (nx : List Vd) : Tr := ⟨x, nx, t.per, false, rcut (rts t x), x.hgt + 1 - ((rcut (rts t x)).length : Int)⟩
def stp (t : Tr) (x : HB) (nx : List Vd) : Int × Tr := if setFault nx ≠ 0 then (setFault nx, noT) else if x.nxt ≠ setDig nx then (1, noT) else (0, stT t x nx)
theorem rcut_length (l : List (List UInt8)) : (rcut l).length = l.length - (l.length - 24) := by unfold rcut; rw [List.length_drop]
theorem tot_drop : ∀ (l : List (List UInt8)) (n : Nat), tot List.length (l.drop n) ≤ tot List.length l
  | [], n => by simp
  | b :: l, 0 => Nat.le_refl _
  | b :: l, n + 1 => by have := tot_drop l n; simp only [List.drop_succ_cons, tot]; omega
theorem tot_nils : ∀ n : Nat, tot List.length (List.replicate n ([] : List UInt8)) = 0
  | 0 => rfl
  | n + 1 => by simp [List.replicate_succ, tot, tot_nils n]
theorem tot_32 : ∀ {l : List (List UInt8)}, (∀ b ∈ l, b.length ≤ 32) → tot List.length l ≤ 32 * l.length
  | [], h => by simp [tot]
  | b :: l, h => by have := tot_32 (l := l) (fun b hb => h b (by simp [hb])); have := h b (by simp); simp only [tot, List.length_cons]; omega
theorem psS_map : ∀ l : List (List UInt8), psS l = l.map bS
  | [] => rfl
  | b :: l => by rw [List.map_cons, ← psS_map l]; rfl
theorem psS_snoc (l : List (List UInt8)) (b : List UInt8) : psS l ++ [.sl b.length (bytesV b)] = psS (l ++ [b]) := by rw [psS_map, psS_map, List.map_append]; rfl
theorem psS_nil (l : List (List UInt8)) : psS l ++ [.sl 0 []] = psS (l ++ [[]]) := psS_snoc l []
theorem psS_nils (l : List (List UInt8)) (n : Nat) (b : List UInt8) : psS l ++ reps n [.sl 0 []] ++ [.sl b.length (bytesV b)] = psS (l ++ (List.replicate n [] ++ [b])) := by
  rw [psS_map, psS_map, List.map_append, List.map_append, List.map_replicate, reps_one, List.append_assoc]; rfl
theorem psS_cut (l : List (List UInt8)) : ((psS l).drop (l.length - 24)).take (l.length - (l.length - 24)) = psS (rcut l) := by
  rw [psS_map, psS_map, ← List.map_drop, List.take_of_length_le (by rw [List.length_map, List.length_drop]; omega)]; rfl
theorem rcut_few {l : List (List UInt8)} (h : l.length ≤ 24) : rcut l = l := by unfold rcut; rw [show l.length - 24 = 0 by omega]; rfl
theorem rcut_more {b : List UInt8} {l : List (List UInt8)} (h : 24 ≤ l.length) : rcut (b :: l) = rcut l := by
  unfold rcut; rw [List.length_cons, show l.length + 1 - 24 = (l.length - 24) + 1 by omega]; rfl
theorem rcut_big (a : List (List UInt8)) (b : List UInt8) : rcut (a ++ (List.replicate 24 [] ++ [b])) = List.replicate 23 [] ++ [b] := by
  have e : (a ++ (List.replicate 24 [] ++ [b])).length - 24 = a.length + 1 := by simp only [List.length_append, List.length_replicate, List.length_singleton]; omega
  unfold rcut
  rw [e, List.drop_append, List.drop_of_length_le (by omega), Nat.add_sub_cancel_left]; rfl
theorem rts_length (t : Tr) (x : HB) : (rts t x).length = t.roots.length + (min (sk t x) 24 + 1) := by simp [rts]
theorem tot_rcut (t : Tr) (x : HB) : tot List.length (rcut (rts t x)) ≤ tot List.length t.roots + x.root.length := by
  have := tot_drop (rts t x) ((rts t x).length - 24)
  have e : tot List.length (rts t x) = tot List.length t.roots + x.root.length := by simp [rts, tot_append, tot_nils, tot]
  unfold rcut; omega
def stF (t : Tr) (now : Int) : Int := if tFault t ≠ 0 then tFault t else if t.pau = true then 9 else if old t now = true then 10 else 0
def tmF (t : Tr) (x : HB) (ok : Bool) (now : Int) : Int := if ok = false then 3 else if x.tim ≤ t.hd.tim then 3 else if x.tim > now then 3 else 0
theorem tm_ok {t : Tr} {x : HB} {ok : Bool} {now : Int} (h : tmF t x ok now = 0) : ok = true ∧ ¬ x.tim ≤ t.hd.tim ∧ ¬ x.tim > now := by
  unfold tmF at h
  cases ok
  · cases h
  · rw [if_neg (by decide)] at h
    by_cases a : x.tim ≤ t.hd.tim
    · rw [if_pos a] at h; cases h
    rw [if_neg a] at h
    by_cases b : x.tim > now
    · rw [if_pos b] at h; cases h
    exact ⟨rfl, a, b⟩
end Go.PI.Vote
namespace Go.Proofs.YtodapaplfjfnlaaGreat.Vote
open Go Go.PI Go.PI.Sha Go.PI.Rel Go.PI.Nest Go.PI.Tru Go.PI.Set Go.PI.Tree Go.PI.Vote Go.Proofs.YtodapaplfjfnlaaGreat.Sha Go.Proofs.YtodapaplfjfnlaaGreat.By Go.Proofs.YtodapaplfjfnlaaGreat.Nest Go.Proofs.YtodapaplfjfnlaaGreat.Tru Go.Proofs.YtodapaplfjfnlaaGreat.Set Go.Proofs.YtodapaplfjfnlaaGreat.Tree EqQ
set_option maxHeartbeats 1000000
set_option linter.unusedVariables false
set_option linter.unusedSimpArgs false
def nextP (t : Tr) (x : HB) (vs : List Vt) (nx : List Vd) (now : Int) : Int × Tr :=
  if sgFault t.nx x vs ≠ 0 then (sgFault t.nx x vs, noT) else if tmF t x (decide (x.hgt = t.hd.hgt + 1)) now ≠ 0 then (tmF t x (decide (x.hgt = t.hd.hgt + 1)) now, noT) else if mostV t.nx vs = true then stp t x nx else (6, noT)
def skipP (t : Tr) (l : List Vd) (x : HB) (vs : List Vt) (nx : List Vd) (now : Int) : Int × Tr :=
  if sgFault l x vs ≠ 0 then (sgFault l x vs, noT) else if tmF t x (decide (x.hgt > t.hd.hgt + 1)) now ≠ 0 then (tmF t x (decide (x.hgt > t.hd.hgt + 1)) now, noT) else if (mostV l vs && shd t l vs) = true then stp t x nx else (6, noT)
def stepNext (t : Tr) (x : HB) (vs : List Vt) (nx : List Vd) (now : Int) : Int × Tr := if stF t now ≠ 0 then (stF t now, noT) else nextP t x vs nx now
def stepSkip (t : Tr) (l : List Vd) (x : HB) (vs : List Vt) (nx : List Vd) (now : Int) : Int × Tr := if stF t now ≠ 0 then (stF t now, noT) else skipP t l x vs nx now
def stepTo (t : Tr) (l : List Vd) (x : HB) (vs : List Vt) (nx : List Vd) (now : Int) : Int × Tr := if stF t now ≠ 0 then (stF t now, noT) else if x.hgt ≤ t.hd.hgt + 1 then nextP t x vs nx now else skipP t l x vs nx now
theorem tFault_more {t : Tr} (h : tFault t = 0) : t.roots.length ≤ 24 ∧ t.frm + t.roots.length - 1 = t.hd.hgt ∧ tot List.length t.roots ≤ 1000 := by
  obtain ⟨g0, g1, g3⟩ := tFault_parts h
  unfold tFault at h
  rw [if_neg (fun k => k g0), if_neg (fun k => k g1)] at h
  by_cases g2 : t.hd.nxt = setDig t.nx
  case neg => rw [if_pos g2] at h; cases h
  rw [if_neg (fun h => h g2), if_neg (fun h => h g3)] at h
  by_cases g4 : 24 < t.roots.length
  · rw [if_pos g4] at h; cases h
  rw [if_neg g4] at h
  by_cases g5 : t.roots.length = 0 ∨ t.frm < 1 ∨ t.frm + t.roots.length - 1 ≠ t.hd.hgt
  · rw [if_pos g5] at h; cases h
  rw [if_neg g5] at h
  have g6 : ∀ b ∈ t.roots, b.length ≤ 32 := fun b hb => by
    by_cases q : badR b = true
    · have : t.roots.any badR = true := List.any_eq_true.2 ⟨b, hb, q⟩
      unfold rEnd at h
      rw [this] at h; cases h
    · unfold badR at q
      simp only [decide_eq_true_eq] at q
      omega
  have := tot_32 g6
  refine ⟨by omega, by omega, by omega⟩
theorem stF_ok {t : Tr} {now : Int} (h : stF t now = 0) : tFault t = 0 ∧ t.pau = false ∧ old t now = false := by
  unfold stF at h
  by_cases a : tFault t = 0
  case neg => rw [if_pos a] at h; exact absurd h a
  rw [if_neg (fun k => k a)] at h
  by_cases b : t.pau = true
  · rw [if_pos b] at h; cases h
  rw [if_neg b] at h
  by_cases c : old t now = true
  · rw [if_pos c] at h; cases h
  exact ⟨a, by simpa using b, by simpa using c⟩
theorem stT_fit {t : Tr} {x : HB} {nx : List Vd} (h : tFault t = 0) (hx : hbFault x = 0) (h1 : fitV nx) : fitH (stT t x nx).hd ∧ fitV (stT t x nx).nx ∧ fitP (stT t x nx).roots := by
  have a := tFault_more h
  have b := tot_rcut t x
  have c := (Go.PI.Set.hbFault_ok hx).1
  have d := rcut_length (rts t x)
  exact ⟨hbOk_fit hx, h1, (⟨by omega, by omega⟩ : fitP (rcut (rts t x)))⟩
theorem c161 (l : List (List UInt8)) (h : l.length ≤ 1000000) : runE C 161 [.sl l.length (psS l)] = some (.tup [.osl l.length (psS l)]) := by
  refine E161 _ _ ?_
  unfold T161
  have d1 : l.length ≤ 140737488355328 := by omega
  have d2 : l.length * 24 ≤ 140737488355328 := by omega
  have d3 : (psS l).length = l.length := psS_length l
  simp only [S0, d3, d1, d2]
  by_cases h0 : l = []
  · subst h0; simp [psS]
  · have h1 : l.length ≠ 0 := by simpa using h0
    simp [h1]
theorem l91 (x : HB) (nx : List Vd) (per F : Int) (hx : fitH x) (h1 : fitV nx) (hF : -10000000 ≤ F ∧ F ≤ 10000000) (n : Nat) (hn : n ≤ 24) : ∀ (k i : Nat) (m : List (List UInt8)), n = i + k → m.length + k ≤ 48 → tot List.length m + x.root.length ≤ 1000000 →
    loopE C 91 0 [true, true, true, true, true, true, false, true] [] [(4, V.ptr 0 0), (6, V.ptr 1 0), (8, V.ptr 7 0), (51, V.int .i64 (n : Int)), (52, V.int .i64 (i : Int))] [Ob.box 48 [V.int .i64 x.hgt, V.int .i64 x.tim, V.sl x.root.length (bytesV x.root), V.sl x.set.length (bytesV x.set), V.sl x.nxt.length (bytesV x.nxt)] false, Ob.box 59 [V.int .i64 0, V.int .i64 0, V.int .i64 0, V.ref 2, V.ref 3, V.ref 4, V.ref 5, V.int .i64 0, V.bool false, V.ref 6, V.int .i64 0] false, Ob.row 5 0 [] false, Ob.row 5 0 [] false, Ob.row 5 0 [] false, Ob.row 161 0 [] false, Ob.nrow [] 22 0 [], Ob.box 52 [V.int .i64 x.hgt, V.int .i64 x.tim, V.sl x.root.length (bytesV x.root), V.sl x.set.length (bytesV x.set), V.sl x.nxt.length (bytesV x.nxt), V.sl nx.length (vsS nx), V.int .i64 per, V.bool false, V.ref 8, V.int .i64 (F)] false, Ob.row 22 m.length (psS m) false] = some (.tup [.int .i64 0, .int .i64 (⟨x, nx, per, false, rcut (m ++ (List.replicate k [] ++ [x.root])), F + ((m.length + k + 1 - 24 : Nat) : Int)⟩ : Tr).hd.hgt, .int .i64 (⟨x, nx, per, false, rcut (m ++ (List.replicate k [] ++ [x.root])), F + ((m.length + k + 1 - 24 : Nat) : Int)⟩ : Tr).hd.tim, .osl (⟨x, nx, per, false, rcut (m ++ (List.replicate k [] ++ [x.root])), F + ((m.length + k + 1 - 24 : Nat) : Int)⟩ : Tr).hd.root.length (bytesV (⟨x, nx, per, false, rcut (m ++ (List.replicate k [] ++ [x.root])), F + ((m.length + k + 1 - 24 : Nat) : Int)⟩ : Tr).hd.root), .osl (⟨x, nx, per, false, rcut (m ++ (List.replicate k [] ++ [x.root])), F + ((m.length + k + 1 - 24 : Nat) : Int)⟩ : Tr).hd.set.length (bytesV (⟨x, nx, per, false, rcut (m ++ (List.replicate k [] ++ [x.root])), F + ((m.length + k + 1 - 24 : Nat) : Int)⟩ : Tr).hd.set), .osl (⟨x, nx, per, false, rcut (m ++ (List.replicate k [] ++ [x.root])), F + ((m.length + k + 1 - 24 : Nat) : Int)⟩ : Tr).hd.nxt.length (bytesV (⟨x, nx, per, false, rcut (m ++ (List.replicate k [] ++ [x.root])), F + ((m.length + k + 1 - 24 : Nat) : Int)⟩ : Tr).hd.nxt), .osl (⟨x, nx, per, false, rcut (m ++ (List.replicate k [] ++ [x.root])), F + ((m.length + k + 1 - 24 : Nat) : Int)⟩ : Tr).nx.length (vsO (⟨x, nx, per, false, rcut (m ++ (List.replicate k [] ++ [x.root])), F + ((m.length + k + 1 - 24 : Nat) : Int)⟩ : Tr).nx), .int .i64 (⟨x, nx, per, false, rcut (m ++ (List.replicate k [] ++ [x.root])), F + ((m.length + k + 1 - 24 : Nat) : Int)⟩ : Tr).per, .bool (⟨x, nx, per, false, rcut (m ++ (List.replicate k [] ++ [x.root])), F + ((m.length + k + 1 - 24 : Nat) : Int)⟩ : Tr).pau, .osl (⟨x, nx, per, false, rcut (m ++ (List.replicate k [] ++ [x.root])), F + ((m.length + k + 1 - 24 : Nat) : Int)⟩ : Tr).roots.length (psO (⟨x, nx, per, false, rcut (m ++ (List.replicate k [] ++ [x.root])), F + ((m.length + k + 1 - 24 : Nat) : Int)⟩ : Tr).roots), .int .i64 (⟨x, nx, per, false, rcut (m ++ (List.replicate k [] ++ [x.root])), F + ((m.length + k + 1 - 24 : Nat) : Int)⟩ : Tr).frm])
  | 0, i, m, hi, hm, ht => by
    refine E91l1 _ _ _ _ _ _ _ _ _ _ _ _ _ _ _ _ _ _ _ _ _ _ _ _ _ _ _ _ _ _ _ _ _ _ _ _ _ _ _ _ _ ?_
    unfold T91l1
    have c0 : ¬ i < n := by omega
    have d1 : m.length + 1 ≤ 140737488355328 := by omega
    have d2 : (m.length + 1) * 24 ≤ 140737488355328 := by omega
    have el : (m ++ [x.root]).length = m.length + 1 := by rw [List.length_append]; rfl
    have er := rcut_length (m ++ [x.root])
    have et := tot_drop (m ++ [x.root]) ((m ++ [x.root]).length - 24)
    have e2 : tot List.length (m ++ [x.root]) = tot List.length m + x.root.length := by simp [tot_append, tot]
    have hp : fitP (rcut (m ++ [x.root])) := ⟨by omega, by unfold rcut; omega⟩
    have ec := psS_cut (m ++ [x.root])
    have w : IntKind.i64.wrap (((m.length + 1 : Nat) : Int) - 24) = ((m.length + 1 : Nat) : Int) - 24 := w64 (by omega) (by omega)
    have k1 := c79 ⟨x, nx, per, false, rcut (m ++ [x.root]), F + ((m.length + 1 - 24 : Nat) : Int)⟩ hx h1 hp
    dsimp only at k1
    simp only [List.replicate_zero, List.nil_append, Nat.add_zero]
    by_cases c : m.length + 1 ≤ 24
    · have ef : rcut (m ++ [x.root]) = m ++ [x.root] := rcut_few (by omega)
      have e0 : m.length + 1 - 24 = 0 := by omega
      have eF : F + ((0 : Nat) : Int) = F := by omega
      have t1 : decide (((m.length + 1 : Nat) : Int) - 24 > 0) = false := decide_eq_false (by omega)
      rw [ef, e0, eF] at k1
      rw [ef, e0, eF]
      rw [el] at k1 ⊢
      simp only [S0, c0, d1, d2, w, t1, psS_snoc, k1]
    · have w3 : ((m.length + 1 : Nat) : Int) - 24 = ((m.length + 1 - 24 : Nat) : Int) := by omega
      have w := w.trans w3
      have t1 : decide (((m.length + 1 - 24 : Nat) : Int) > 0) = true := decide_eq_true (by omega)
      have t2 : decide (0 ≤ ((m.length + 1 - 24 : Nat) : Int)) = true := decide_eq_true (by omega)
      have t3 : decide (((m.length + 1 - 24 : Nat) : Int) ≤ ((m.length + 1 : Nat) : Int)) = true := decide_eq_true (by omega)
      have w4 : IntKind.i64.wrap (F + ((m.length + 1 - 24 : Nat) : Int)) = F + ((m.length + 1 - 24 : Nat) : Int) := w64 (by omega) (by omega)
      rw [er, el] at k1 ⊢
      rw [el] at ec
      generalize m.length + 1 - 24 = g at *
      simp only [S0, c0, d1, d2, w, t1, t2, t3, w4, psS_snoc, ec, k1]
  | k + 1, i, m, hi, hm, ht => by
    have hlt : i < n := by omega
    have hw := w64_succ (n := i) (by omega)
    have d1 : m.length + 1 ≤ 140737488355328 := by omega
    have d2 : (m.length + 1) * 24 ≤ 140737488355328 := by omega
    have el : (m ++ [([] : List UInt8)]).length = m.length + 1 := by rw [List.length_append]; rfl
    have ih := l91 x nx per F hx h1 hF n hn k (i + 1) (m ++ [[]]) (by omega) (by omega) (by simp only [tot_append, tot, List.length_nil]; omega)
    have ea : (m ++ [[]]) ++ (List.replicate k [] ++ [x.root]) = m ++ (List.replicate (k + 1) [] ++ [x.root]) := by rw [List.append_assoc]; rfl
    have en : m.length + 1 + k + 1 = m.length + (k + 1) + 1 := by omega
    rw [ea, el, en] at ih
    refine E91l1 _ _ _ _ _ _ _ _ _ _ _ _ _ _ _ _ _ _ _ _ _ _ _ _ _ _ _ _ _ _ _ _ _ _ _ _ _ _ _ _ _ ?_
    unfold T91l1
    simp only [S0, hlt, d1, d2, hw, psS_nil, ih]
theorem c91 (t : Tr) (x : HB) (nx : List Vd) (h : tFault t = 0) (hx : hbFault x = 0) (hg : t.hd.hgt < x.hgt) (h1 : fitV nx) :
    runE C 91 [.agg [.int .i64 t.hd.hgt, .int .i64 t.hd.tim, .sl t.hd.root.length (bytesV t.hd.root), .sl t.hd.set.length (bytesV t.hd.set), .sl t.hd.nxt.length (bytesV t.hd.nxt), .sl t.nx.length (vsS t.nx), .int .i64 t.per, .bool t.pau, .sl t.roots.length (psS t.roots), .int .i64 t.frm], .agg [.int .i64 x.hgt, .int .i64 x.tim, .sl x.root.length (bytesV x.root), .sl x.set.length (bytesV x.set), .sl x.nxt.length (bytesV x.nxt)], .sl nx.length (vsS nx)] = some (.tup [.int .i64 (stp t x nx).1, .int .i64 (stp t x nx).2.hd.hgt, .int .i64 (stp t x nx).2.hd.tim, .osl (stp t x nx).2.hd.root.length (bytesV (stp t x nx).2.hd.root), .osl (stp t x nx).2.hd.set.length (bytesV (stp t x nx).2.hd.set), .osl (stp t x nx).2.hd.nxt.length (bytesV (stp t x nx).2.hd.nxt), .osl (stp t x nx).2.nx.length (vsO (stp t x nx).2.nx), .int .i64 (stp t x nx).2.per, .bool (stp t x nx).2.pau, .osl (stp t x nx).2.roots.length (psO (stp t x nx).2.roots), .int .i64 (stp t x nx).2.frm]) := by
  obtain ⟨a1, a2, a3⟩ := tFault_more h
  have b1 := Go.PI.Set.hbFault_ok hx
  have b2 := Go.PI.Set.hbFault_ok (tFault_parts h).1
  have k0 := c102 nx (by have := h1.1; omega)
  by_cases g : setFault nx = 0
  case neg =>
    rw [show stp t x nx = (setFault nx, noT) from if_pos g]
    refine E91 _ _ _ _ _ _ _ _ _ _ _ _ _ _ _ _ _ _ _ _ _ _ _ _ _ ?_
    unfold T91
    simp only [S0, k0, bne_t g]
    rfl
  rw [g] at k0
  have kd := c103 nx (set_small g)
  have ke := c76 x.nxt (setDig nx)
  rw [setDig_length] at ke
  by_cases g2 : x.nxt = setDig nx
  case neg =>
    rw [show stp t x nx = (1, noT) from (if_neg (fun k => k g)).trans (if_pos g2)]
    rw [decide_eq_false g2] at ke
    refine E91 _ _ _ _ _ _ _ _ _ _ _ _ _ _ _ _ _ _ _ _ _ _ _ _ _ ?_
    unfold T91
    simp only [S0, k0, bne_f, kd, ke]
    rfl
  rw [show stp t x nx = (0, stT t x nx) from (if_neg (fun k => k g)).trans (if_neg (fun k => k g2))]
  rw [decide_eq_true g2] at ke
  refine E91 _ _ _ _ _ _ _ _ _ _ _ _ _ _ _ _ _ _ _ _ _ _ _ _ _ ?_
  unfold T91
  have kc := c161 t.roots (by omega)
  have w1 : IntKind.i64.wrap (x.hgt - t.hd.hgt) = x.hgt - t.hd.hgt := w64 (by omega) (by omega)
  have w2 : IntKind.i64.wrap (x.hgt - t.hd.hgt - 1) = ((sk t x : Nat) : Int) := by rw [w64 (by omega) (by omega)]; unfold sk; omega
  have w3 : (if (24 : Int) < ((sk t x : Nat) : Int) then (24 : Int) else ((sk t x : Nat) : Int)) = ((min (sk t x) 24 : Nat) : Int) := by split <;> omega
  have w4 : IntKind.i64.wrap (x.hgt - ((min (sk t x) 24 : Nat) : Int)) = x.hgt - ((min (sk t x) 24 : Nat) : Int) := w64 (by omega) (by omega)
  have w5 : IntKind.i64.wrap (x.hgt - ((min (sk t x) 24 : Nat) : Int) - (t.roots.length : Int)) = x.hgt - ((min (sk t x) 24 : Nat) : Int) - (t.roots.length : Int) := w64 (by omega) (by omega)
  have kk := l91 x nx t.per (x.hgt - ((min (sk t x) 24 : Nat) : Int) - (t.roots.length : Int)) (hbOk_fit hx) h1 (by omega) (min (sk t x) 24) (by omega) (min (sk t x) 24) 0 t.roots (by omega) (by omega) (by omega)
  have er := rcut_length (rts t x)
  rw [rts_length] at er
  have eF : x.hgt - ((min (sk t x) 24 : Nat) : Int) - (t.roots.length : Int) + ((t.roots.length + min (sk t x) 24 + 1 - 24 : Nat) : Int) = x.hgt + 1 - ((rcut (rts t x)).length : Int) := by omega
  rw [eF] at kk
  simp only [S0, k0, bne_f, kd, ke, kc, w1, w2, w3, w4, w5]
  exact kk
theorem l1165 (t : Tr) (x : HB) (vs : List Vt) (nx : List Vd) (hx : fitH x) (h1 : fitV nx) : ∀ (k : Nat) (m : List (List UInt8)) (F : Int), m.length - 24 = k → m.length ≤ 1000 → -10000000 ≤ F → F + k ≤ 10000000 →
    loopE C 165 0 [true, true, true, true, true, true, true, false] [] [(2, V.sl nx.length (vsS nx)), (4, V.ptr 0 0), (6, V.ptr 1 0), (8, V.ptr 7 0)] [Ob.box 55 [V.int .i64 x.hgt, V.int .i64 x.tim, V.sl x.root.length (bytesV x.root), V.sl x.set.length (bytesV x.set), V.sl x.nxt.length (bytesV x.nxt), V.sl vs.length (vtsS vs)] false, Ob.box 59 [V.int .i64 0, V.int .i64 0, V.int .i64 0, V.ref 2, V.ref 3, V.ref 4, V.ref 5, V.int .i64 0, V.bool false, V.ref 6, V.int .i64 0] false, Ob.row 5 0 [] false, Ob.row 5 0 [] false, Ob.row 5 0 [] false, Ob.row 161 0 [] false, Ob.nrow [] 22 0 [], Ob.box 52 [V.int .i64 t.hd.hgt, V.int .i64 t.hd.tim, V.ref 8, V.ref 9, V.ref 10, V.ref 11, V.int .i64 t.per, V.bool t.pau, V.sl m.length (psS m), V.int .i64 F] false, Ob.row 5 t.hd.root.length (bytesV t.hd.root) false, Ob.row 5 t.hd.set.length (bytesV t.hd.set) false, Ob.row 5 t.hd.nxt.length (bytesV t.hd.nxt) false, Ob.row 161 t.nx.length (vsS t.nx) false] = some (.tup [.int .i64 0, .int .i64 (⟨x, nx, t.per, t.pau, rcut m, F + ((m.length - 24 : Nat) : Int)⟩ : Tr).hd.hgt, .int .i64 (⟨x, nx, t.per, t.pau, rcut m, F + ((m.length - 24 : Nat) : Int)⟩ : Tr).hd.tim, .sl (⟨x, nx, t.per, t.pau, rcut m, F + ((m.length - 24 : Nat) : Int)⟩ : Tr).hd.root.length (bytesV (⟨x, nx, t.per, t.pau, rcut m, F + ((m.length - 24 : Nat) : Int)⟩ : Tr).hd.root), .sl (⟨x, nx, t.per, t.pau, rcut m, F + ((m.length - 24 : Nat) : Int)⟩ : Tr).hd.set.length (bytesV (⟨x, nx, t.per, t.pau, rcut m, F + ((m.length - 24 : Nat) : Int)⟩ : Tr).hd.set), .sl (⟨x, nx, t.per, t.pau, rcut m, F + ((m.length - 24 : Nat) : Int)⟩ : Tr).hd.nxt.length (bytesV (⟨x, nx, t.per, t.pau, rcut m, F + ((m.length - 24 : Nat) : Int)⟩ : Tr).hd.nxt), .sl (⟨x, nx, t.per, t.pau, rcut m, F + ((m.length - 24 : Nat) : Int)⟩ : Tr).nx.length (vsS (⟨x, nx, t.per, t.pau, rcut m, F + ((m.length - 24 : Nat) : Int)⟩ : Tr).nx), .int .i64 (⟨x, nx, t.per, t.pau, rcut m, F + ((m.length - 24 : Nat) : Int)⟩ : Tr).per, .bool (⟨x, nx, t.per, t.pau, rcut m, F + ((m.length - 24 : Nat) : Int)⟩ : Tr).pau, .sl (⟨x, nx, t.per, t.pau, rcut m, F + ((m.length - 24 : Nat) : Int)⟩ : Tr).roots.length (psS (⟨x, nx, t.per, t.pau, rcut m, F + ((m.length - 24 : Nat) : Int)⟩ : Tr).roots), .int .i64 (⟨x, nx, t.per, t.pau, rcut m, F + ((m.length - 24 : Nat) : Int)⟩ : Tr).frm])
  | 0, m, F, hk, hm, f1, f2 => by
    refine E165l2 _ _ _ _ _ _ _ _ _ _ _ _ _ _ _ _ _ _ _ _ _ _ _ _ _ _ _ _ _ _ _ _ _ _ _ _ _ _ _ _ _ _ _ ?_
    unfold T165l2
    have t1 : decide ((m.length : Int) > 24) = false := decide_eq_false (by omega)
    have ef : rcut m = m := rcut_few (by omega)
    have eF : F + ((0 : Nat) : Int) = F := by omega
    rw [ef, hk, eF]
    simp only [S0, t1, c144 x hx, c158 nx h1]
  | k + 1, [], F, hk, hm, f1, f2 => by simp at hk
  | k + 1, b :: m, F, hk, hm, f1, f2 => by
    simp only [List.length_cons] at hk hm
    have ih := l1165 t x vs nx hx h1 k m (F + 1) (by omega) (by omega) (by omega) (by omega)
    have ef : rcut (b :: m) = rcut m := rcut_more (by omega)
    have eF : F + 1 + ((m.length - 24 : Nat) : Int) = F + ((m.length + 1 - 24 : Nat) : Int) := by omega
    have w : IntKind.i64.wrap (F + 1) = F + 1 := w64 (by omega) (by omega)
    have t1 : decide (((m.length + 1 : Nat) : Int) > 24) = true := decide_eq_true (by omega)
    have t2 : decide (1 ≤ ((m.length + 1 : Nat) : Int)) = true := decide_eq_true (by omega)
    have ed : List.take m.length (List.drop 1 (psS (b :: m))) = psS m := List.take_of_length_le (Nat.le_of_eq (psS_length m))
    have e1 : m.length + 1 - 1 = m.length := rfl
    rw [eF] at ih
    refine E165l2 _ _ _ _ _ _ _ _ _ _ _ _ _ _ _ _ _ _ _ _ _ _ _ _ _ _ _ _ _ _ _ _ _ _ _ _ _ _ _ _ _ _ _ ?_
    unfold T165l2
    rw [ef]
    simp only [S0, t1, t2, e1, ed, w, ih]
theorem l2165 (t : Tr) (x : HB) (vs : List Vt) (nx : List Vd) (hx : fitH x) (h1 : fitV nx) : ∀ (m : List (List UInt8)) (F : Int), m.length ≤ 1000 → -10000000 ≤ F → F ≤ 1000000 →
    loopE C 165 0 [true, true, true, true, true, true, true, false] [] [(2, V.sl nx.length (vsS nx)), (4, V.ptr 0 0), (6, V.ptr 1 0), (8, V.ptr 7 0)] [Ob.box 55 [V.int .i64 x.hgt, V.int .i64 x.tim, V.sl x.root.length (bytesV x.root), V.sl x.set.length (bytesV x.set), V.sl x.nxt.length (bytesV x.nxt), V.sl vs.length (vtsS vs)] false, Ob.box 59 [V.int .i64 0, V.int .i64 0, V.int .i64 0, V.ref 2, V.ref 3, V.ref 4, V.ref 5, V.int .i64 0, V.bool false, V.ref 6, V.int .i64 0] false, Ob.row 5 0 [] false, Ob.row 5 0 [] false, Ob.row 5 0 [] false, Ob.row 161 0 [] false, Ob.nrow [] 22 0 [], Ob.box 52 [V.int .i64 t.hd.hgt, V.int .i64 t.hd.tim, V.ref 8, V.ref 9, V.ref 10, V.ref 11, V.int .i64 t.per, V.bool t.pau, V.ref 12, V.int .i64 F] false, Ob.row 5 t.hd.root.length (bytesV t.hd.root) false, Ob.row 5 t.hd.set.length (bytesV t.hd.set) false, Ob.row 5 t.hd.nxt.length (bytesV t.hd.nxt) false, Ob.row 161 t.nx.length (vsS t.nx) false, Ob.row 22 m.length (psS m) false] = some (.tup [.int .i64 0, .int .i64 (⟨x, nx, t.per, t.pau, rcut m, F + ((m.length - 24 : Nat) : Int)⟩ : Tr).hd.hgt, .int .i64 (⟨x, nx, t.per, t.pau, rcut m, F + ((m.length - 24 : Nat) : Int)⟩ : Tr).hd.tim, .sl (⟨x, nx, t.per, t.pau, rcut m, F + ((m.length - 24 : Nat) : Int)⟩ : Tr).hd.root.length (bytesV (⟨x, nx, t.per, t.pau, rcut m, F + ((m.length - 24 : Nat) : Int)⟩ : Tr).hd.root), .sl (⟨x, nx, t.per, t.pau, rcut m, F + ((m.length - 24 : Nat) : Int)⟩ : Tr).hd.set.length (bytesV (⟨x, nx, t.per, t.pau, rcut m, F + ((m.length - 24 : Nat) : Int)⟩ : Tr).hd.set), .sl (⟨x, nx, t.per, t.pau, rcut m, F + ((m.length - 24 : Nat) : Int)⟩ : Tr).hd.nxt.length (bytesV (⟨x, nx, t.per, t.pau, rcut m, F + ((m.length - 24 : Nat) : Int)⟩ : Tr).hd.nxt), .sl (⟨x, nx, t.per, t.pau, rcut m, F + ((m.length - 24 : Nat) : Int)⟩ : Tr).nx.length (vsS (⟨x, nx, t.per, t.pau, rcut m, F + ((m.length - 24 : Nat) : Int)⟩ : Tr).nx), .int .i64 (⟨x, nx, t.per, t.pau, rcut m, F + ((m.length - 24 : Nat) : Int)⟩ : Tr).per, .bool (⟨x, nx, t.per, t.pau, rcut m, F + ((m.length - 24 : Nat) : Int)⟩ : Tr).pau, .sl (⟨x, nx, t.per, t.pau, rcut m, F + ((m.length - 24 : Nat) : Int)⟩ : Tr).roots.length (psS (⟨x, nx, t.per, t.pau, rcut m, F + ((m.length - 24 : Nat) : Int)⟩ : Tr).roots), .int .i64 (⟨x, nx, t.per, t.pau, rcut m, F + ((m.length - 24 : Nat) : Int)⟩ : Tr).frm]) := by
  intro m F hm f1 f2
  refine E165l1 _ _ _ _ _ _ _ _ _ _ _ _ _ _ _ _ _ _ _ _ _ _ _ _ _ _ _ _ _ _ _ _ _ _ _ _ _ _ _ _ _ _ _ ?_
  unfold T165l1
  by_cases c : m.length ≤ 24
  · have t1 : decide ((m.length : Int) > 24) = false := decide_eq_false (by omega)
    have ef : rcut m = m := rcut_few (by omega)
    have e0 : m.length - 24 = 0 := by omega
    have eF : F + ((0 : Nat) : Int) = F := by omega
    rw [ef, e0, eF]
    simp only [S0, t1, c144 x hx, c158 nx h1]
  cases m with
  | nil => exact absurd (Nat.zero_le _) c
  | cons b m =>
    simp only [List.length_cons] at c hm
    have ih := l1165 t x vs nx hx h1 (m.length - 24) m (F + 1) rfl (by omega) (by omega) (by omega)
    have ef : rcut (b :: m) = rcut m := rcut_more (by omega)
    have eF : F + 1 + ((m.length - 24 : Nat) : Int) = F + ((m.length + 1 - 24 : Nat) : Int) := by omega
    have w : IntKind.i64.wrap (F + 1) = F + 1 := w64 (by omega) (by omega)
    have t1 : decide (((m.length + 1 : Nat) : Int) > 24) = true := decide_eq_true (by omega)
    have t2 : decide (1 ≤ ((m.length + 1 : Nat) : Int)) = true := decide_eq_true (by omega)
    have ed : List.take m.length (List.drop 1 (psS (b :: m))) = psS m := List.take_of_length_le (Nat.le_of_eq (psS_length m))
    have e1 : m.length + 1 - 1 = m.length := rfl
    rw [eF] at ih
    rw [ef]
    simp only [S0, t1, t2, e1, ed, w, ih]
theorem c165 (t : Tr) (x : HB) (vs : List Vt) (nx : List Vd) (h : tFault t = 0) (hp : t.pau = false) (hx : hbFault x = 0) (hg : t.hd.hgt < x.hgt) (a : fitH t.hd) (b : fitV t.nx) (c : fitP t.roots) (h1 : fitV nx) :
    runE C 165 [.agg [.int .i64 t.hd.hgt, .int .i64 t.hd.tim, .sl t.hd.root.length (bytesV t.hd.root), .sl t.hd.set.length (bytesV t.hd.set), .sl t.hd.nxt.length (bytesV t.hd.nxt), .sl t.nx.length (vsS t.nx), .int .i64 t.per, .bool t.pau, .sl t.roots.length (psS t.roots), .int .i64 t.frm], .agg [.int .i64 x.hgt, .int .i64 x.tim, .sl x.root.length (bytesV x.root), .sl x.set.length (bytesV x.set), .sl x.nxt.length (bytesV x.nxt), .sl vs.length (vtsS vs)], .sl nx.length (vsS nx)] = some (.tup [.int .i64 (stp t x nx).1, .int .i64 (stp t x nx).2.hd.hgt, .int .i64 (stp t x nx).2.hd.tim, .sl (stp t x nx).2.hd.root.length (bytesV (stp t x nx).2.hd.root), .sl (stp t x nx).2.hd.set.length (bytesV (stp t x nx).2.hd.set), .sl (stp t x nx).2.hd.nxt.length (bytesV (stp t x nx).2.hd.nxt), .sl (stp t x nx).2.nx.length (vsS (stp t x nx).2.nx), .int .i64 (stp t x nx).2.per, .bool (stp t x nx).2.pau, .sl (stp t x nx).2.roots.length (psS (stp t x nx).2.roots), .int .i64 (stp t x nx).2.frm]) := by
  obtain ⟨a1, a2, a3⟩ := tFault_more h
  have b1 := Go.PI.Set.hbFault_ok hx
  have b2 := Go.PI.Set.hbFault_ok (tFault_parts h).1
  have k0 := c97 nx h1
  by_cases g : setFault nx = 0
  case neg =>
    rw [show stp t x nx = (setFault nx, noT) from if_pos g]
    refine E165 _ _ _ _ _ _ _ _ _ _ _ _ _ _ _ _ _ _ _ _ _ _ _ _ _ _ _ ?_
    unfold T165
    simp only [S0, k0, bne_t g]
    rfl
  rw [g] at k0
  have kd := c69 nx (set_small g)
  have ke := c82 x.nxt (setDig nx) (by omega)
  rw [setDig_length] at ke
  by_cases g2 : x.nxt = setDig nx
  case neg =>
    rw [show stp t x nx = (1, noT) from (if_neg (fun k => k g)).trans (if_pos g2)]
    rw [decide_eq_false g2] at ke
    refine E165 _ _ _ _ _ _ _ _ _ _ _ _ _ _ _ _ _ _ _ _ _ _ _ _ _ _ _ ?_
    unfold T165
    simp only [S0, k0, bne_f, kd, ke]
    rfl
  rw [show stp t x nx = (0, stT t x nx) from (if_neg (fun k => k g)).trans (if_neg (fun k => k g2))]
  rw [decide_eq_true g2] at ke
  refine E165 _ _ _ _ _ _ _ _ _ _ _ _ _ _ _ _ _ _ _ _ _ _ _ _ _ _ _ ?_
  unfold T165
  have kc := c86 t a b c
  have w1 : IntKind.i64.wrap (x.hgt - t.hd.hgt) = x.hgt - t.hd.hgt := w64 (by omega) (by omega)
  have w2 : IntKind.i64.wrap (x.hgt - t.hd.hgt - 1) = ((sk t x : Nat) : Int) := by rw [w64 (by omega) (by omega)]; unfold sk; omega
  have es : ((sk t x : Nat) : Int) = x.hgt - t.hd.hgt - 1 := by unfold sk; omega
  have er := rcut_length (rts t x)
  rw [rts_length] at er
  have d1 : x.root.length ≤ 140737488355328 := by omega
  by_cases c2 : 24 ≤ sk t x
  · have t1 : decide (((sk t x : Nat) : Int) ≥ 24) = true := decide_eq_true (by omega)
    have w3 : IntKind.i64.wrap (x.hgt - 24) = x.hgt - 24 := w64 (by omega) (by omega)
    have w4 : IntKind.i64.wrap (x.hgt - 24 + 1) = x.hgt - 24 + 1 := w64 (by omega) (by omega)
    have kk := l2165 t x vs nx (hbOk_fit hx) h1 (List.replicate 23 [] ++ [x.root]) (x.hgt - 24 + 1) (by simp) (by omega) (by omega)
    have eb : rcut (rts t x) = List.replicate 23 [] ++ [x.root] := by
      unfold rts; rw [show min (sk t x) 24 = 24 by omega]; exact rcut_big _ _
    rw [rcut_few (by simp)] at kk
    have el : (List.replicate 23 ([] : List UInt8) ++ [x.root]).length = 24 := by simp
    have eF : x.hgt - 24 + 1 + (((List.replicate 23 ([] : List UInt8) ++ [x.root]).length - 24 : Nat) : Int) = x.hgt + 1 - ((rcut (rts t x)).length : Int) := by rw [eb, el]; omega
    rw [eF, ← eb, hp] at kk
    simp only [S0, k0, bne_f, kd, ke, kc, w1, w2, t1, w3, w4, d1]
    have ee : ((rcut (rts t x)).length : Nat) = 24 := by rw [eb]; exact el
    have es : psS (rcut (rts t x)) = [V.sl 0 [], V.sl 0 [], V.sl 0 [], V.sl 0 [], V.sl 0 [], V.sl 0 [], V.sl 0 [], V.sl 0 [], V.sl 0 [], V.sl 0 [], V.sl 0 [], V.sl 0 [], V.sl 0 [], V.sl 0 [], V.sl 0 [], V.sl 0 [], V.sl 0 [], V.sl 0 [], V.sl 0 [], V.sl 0 [], V.sl 0 [], V.sl 0 [], V.sl 0 [], V.sl x.root.length (bytesV x.root)] := by rw [eb]; rfl
    rw [es, ee] at kk
    unfold stT
    rw [es, ee, hp]
    exact kk
  · have t1 : decide (((sk t x : Nat) : Int) ≥ 24) = false := decide_eq_false (by omega)
    have t2 : decide (0 ≤ ((sk t x : Nat) : Int)) = true := decide_eq_true (by omega)
    have t3 : decide (((sk t x : Nat) : Int) ≤ 140737488355328) = true := decide_eq_true (by omega)
    have d2 : t.roots.length + sk t x ≤ 140737488355328 := by omega
    have d3 : (t.roots.length + sk t x) * 24 ≤ 140737488355328 := by omega
    have d4 : t.roots.length + sk t x + 1 ≤ 140737488355328 := by omega
    have d5 : (t.roots.length + sk t x + 1) * 24 ≤ 140737488355328 := by omega
    have em : rts t x = t.roots ++ (List.replicate (sk t x) [] ++ [x.root]) := by unfold rts; rw [show min (sk t x) 24 = sk t x by omega]
    have el : (rts t x).length = t.roots.length + sk t x + 1 := by rw [rts_length]; omega
    have kk := l2165 t x vs nx (hbOk_fit hx) h1 (rts t x) t.frm (by omega) (by omega) (by omega)
    have eF : t.frm + (((rts t x).length - 24 : Nat) : Int) = x.hgt + 1 - ((rcut (rts t x)).length : Int) := by omega
    rw [eF, el, hp] at kk
    simp only [S0, k0, bne_f, kd, ke, kc, w1, w2, t1, t2, t3, d1, d2, d3, d4, d5, psS_nils, ← em]
    unfold stT
    rw [hp]
    exact kk
theorem c88 (t : Tr) (now : Int) (a : fitH t.hd) (b : fitV t.nx) (c : fitP t.roots) : runE C 88 [.agg [.int .i64 t.hd.hgt, .int .i64 t.hd.tim, .sl t.hd.root.length (bytesV t.hd.root), .sl t.hd.set.length (bytesV t.hd.set), .sl t.hd.nxt.length (bytesV t.hd.nxt), .sl t.nx.length (vsS t.nx), .int .i64 t.per, .bool t.pau, .sl t.roots.length (psS t.roots), .int .i64 t.frm], .int .i64 now] = some (.tup [.int .i64 (stF t now)]) := by
  have k0 := c31 t a b c
  refine E88 _ _ _ _ _ _ _ _ _ _ _ _ _ _ _ _ ?_
  unfold T88 stF
  by_cases g : tFault t = 0
  case neg =>
    rw [if_pos g]
    simp only [S0, k0, bne_t g]
  rw [if_neg (fun h => h g)]
  have ko := c74 t now g
  rw [g] at k0
  cases g1 : t.pau <;> cases g2 : old t now <;> rw [g2] at ko <;> rw [g1] at k0 ko <;> simp only [S0, k0, bne_f, ko, and_self, and_true, true_and, and_false, false_and, or_true, true_or, or_false, false_or, not_true_eq_false, not_false_eq_true, if_true, if_false, Bool.true_eq_false, Bool.false_eq_true, Bool.true_and, Bool.false_and, Bool.and_false, Bool.and_true, Bool.or_true, Bool.true_or, Bool.not_true, Bool.not_false, cond_true, cond_false]
theorem c99 (t : Tr) (now : Int) (a : fitH t.hd) (b : fitV t.nx) (c : fitP t.roots) : runE C 99 [.agg [.int .i64 t.hd.hgt, .int .i64 t.hd.tim, .sl t.hd.root.length (bytesV t.hd.root), .sl t.hd.set.length (bytesV t.hd.set), .sl t.hd.nxt.length (bytesV t.hd.nxt), .sl t.nx.length (vsS t.nx), .int .i64 t.per, .bool t.pau, .sl t.roots.length (psS t.roots), .int .i64 t.frm], .int .i64 now] = some (.tup [.int .i64 (stF t now)]) := by
  have k0 := c29 t a b c
  refine E99 _ _ _ _ _ _ _ _ _ _ _ _ _ _ _ _ ?_
  unfold T99 stF
  by_cases g : tFault t = 0
  case neg =>
    rw [if_pos g]
    simp only [S0, k0, bne_t g]
  rw [if_neg (fun h => h g)]
  have ko := c80 t now g
  rw [g] at k0
  cases g1 : t.pau <;> cases g2 : old t now <;> rw [g2] at ko <;> rw [g1] at k0 ko <;> simp only [S0, k0, bne_f, ko, and_self, and_true, true_and, and_false, false_and, or_true, true_or, or_false, false_or, not_true_eq_false, not_false_eq_true, if_true, if_false, Bool.true_eq_false, Bool.false_eq_true, Bool.true_and, Bool.false_and, Bool.and_false, Bool.and_true, Bool.or_true, Bool.true_or, Bool.not_true, Bool.not_false, cond_true, cond_false]
theorem c89 (t : Tr) (x : HB) (ok : Bool) (now : Int) : runE C 89 [.agg [.int .i64 t.hd.hgt, .int .i64 t.hd.tim, .sl t.hd.root.length (bytesV t.hd.root), .sl t.hd.set.length (bytesV t.hd.set), .sl t.hd.nxt.length (bytesV t.hd.nxt), .sl t.nx.length (vsS t.nx), .int .i64 t.per, .bool t.pau, .sl t.roots.length (psS t.roots), .int .i64 t.frm], .agg [.int .i64 x.hgt, .int .i64 x.tim, .sl x.root.length (bytesV x.root), .sl x.set.length (bytesV x.set), .sl x.nxt.length (bytesV x.nxt)], .bool ok, .int .i64 now] = some (.tup [.int .i64 (tmF t x ok now)]) := by
  refine E89 _ _ _ _ _ _ _ _ _ _ _ _ _ _ _ _ _ _ _ _ _ _ _ _ _ ?_
  unfold T89 tmF
  cases ok
  · rfl
  · by_cases g : x.tim ≤ t.hd.tim
    · simp only [S0, decide_eq_true g, g, and_self, and_true, true_and, and_false, false_and, or_true, true_or, or_false, false_or, not_true_eq_false, not_false_eq_true, if_true, if_false, Bool.true_eq_false, Bool.false_eq_true, Bool.true_and, Bool.false_and, Bool.and_false, Bool.and_true, Bool.or_true, Bool.true_or, Bool.not_true, Bool.not_false, cond_true, cond_false]
    · by_cases g2 : x.tim > now
      · simp only [S0, decide_eq_false g, g, decide_eq_true g2, g2, and_self, and_true, true_and, and_false, false_and, or_true, true_or, or_false, false_or, not_true_eq_false, not_false_eq_true, if_true, if_false, Bool.true_eq_false, Bool.false_eq_true, Bool.true_and, Bool.false_and, Bool.and_false, Bool.and_true, Bool.or_true, Bool.true_or, Bool.not_true, Bool.not_false, cond_true, cond_false]
      · simp only [S0, decide_eq_false g, g, decide_eq_false g2, g2, and_self, and_true, true_and, and_false, false_and, or_true, true_or, or_false, false_or, not_true_eq_false, not_false_eq_true, if_true, if_false, Bool.true_eq_false, Bool.false_eq_true, Bool.true_and, Bool.false_and, Bool.and_false, Bool.and_true, Bool.or_true, Bool.true_or, Bool.not_true, Bool.not_false, cond_true, cond_false]
theorem c26 (t : Tr) (x : HB) (vs : List Vt) (nx : List Vd) (now : Int) (h : fitH t.hd) (h1 : fitV t.nx) (h2 : fitP t.roots) (hf : vtsfit vs) (hn : fitV nx) :
    runE C 26 [.agg [.int .i64 t.hd.hgt, .int .i64 t.hd.tim, .sl t.hd.root.length (bytesV t.hd.root), .sl t.hd.set.length (bytesV t.hd.set), .sl t.hd.nxt.length (bytesV t.hd.nxt), .sl t.nx.length (vsS t.nx), .int .i64 t.per, .bool t.pau, .sl t.roots.length (psS t.roots), .int .i64 t.frm], .agg [.int .i64 x.hgt, .int .i64 x.tim, .sl x.root.length (bytesV x.root), .sl x.set.length (bytesV x.set), .sl x.nxt.length (bytesV x.nxt), .sl vs.length (vtsS vs)], .sl nx.length (vsS nx), .int .i64 now] = some (.tup [.int .i64 (stepNext t x vs nx now).1, .int .i64 (stepNext t x vs nx now).2.hd.hgt, .int .i64 (stepNext t x vs nx now).2.hd.tim, .osl (stepNext t x vs nx now).2.hd.root.length (bytesV (stepNext t x vs nx now).2.hd.root), .osl (stepNext t x vs nx now).2.hd.set.length (bytesV (stepNext t x vs nx now).2.hd.set), .osl (stepNext t x vs nx now).2.hd.nxt.length (bytesV (stepNext t x vs nx now).2.hd.nxt), .osl (stepNext t x vs nx now).2.nx.length (vsO (stepNext t x vs nx now).2.nx), .int .i64 (stepNext t x vs nx now).2.per, .bool (stepNext t x vs nx now).2.pau, .osl (stepNext t x vs nx now).2.roots.length (psO (stepNext t x vs nx now).2.roots), .int .i64 (stepNext t x vs nx now).2.frm]) := by
  have k0 := c88 t now h h1 h2
  refine E26 _ _ _ _ _ _ _ _ _ _ _ _ _ _ _ _ _ _ _ _ _ _ _ _ _ _ _ _ ?_
  unfold T26 stepNext
  by_cases g : stF t now = 0
  case neg =>
    rw [if_pos g]
    simp only [S0, k0, bne_t g]
    rfl
  rw [if_neg (fun h => h g)]
  rw [g] at k0
  obtain ⟨p1, p2, p3⟩ := stF_ok g
  have b2 := Go.PI.Set.hbFault_ok (tFault_parts p1).1
  unfold nextP
  have ka := c75 t.nx x vs h1 hf
  by_cases g1 : sgFault t.nx x vs = 0
  case neg =>
    rw [if_pos g1]
    simp only [S0, k0, bne_f, ka, bne_t g1]
    rfl
  rw [if_neg (fun h => h g1)]
  rw [g1] at ka
  have w : IntKind.i64.wrap (t.hd.hgt + 1) = t.hd.hgt + 1 := w64 (by omega) (by omega)
  have kt := c89 t x (decide (x.hgt = t.hd.hgt + 1)) now
  rw [← intBeq] at kt
  by_cases g2 : tmF t x (decide (x.hgt = t.hd.hgt + 1)) now = 0
  case neg =>
    rw [if_pos g2]
    rw [intBeq] at kt
    simp only [S0, k0, bne_f, ka, w, intBeq, kt, bne_t g2]
    rfl
  rw [if_neg (fun h => h g2)]
  rw [intBeq] at kt
  rw [g2] at kt
  have gg := (tm_ok g2).1
  obtain ⟨q1, q2, q3, q4⟩ := sgFault_ok g1
  have km := c90 t.nx x vs q1 q3 q4
  by_cases g3 : mostV t.nx vs = true
  · rw [if_pos g3]
    rw [g3] at km
    have ks := c91 t x nx p1 q2 (by have := of_decide_eq_true gg; omega) hn
    simp only [S0, k0, bne_f, ka, w, intBeq, kt, km, ks]
  · rw [if_neg g3]
    have g3' : mostV t.nx vs = false := by simpa using g3
    rw [g3'] at km
    simp only [S0, k0, bne_f, ka, w, intBeq, kt, km]
    rfl
theorem c32 (t : Tr) (l : List Vd) (x : HB) (vs : List Vt) (nx : List Vd) (now : Int) (h : fitH t.hd) (h1 : fitV t.nx) (h2 : fitP t.roots) (hl : fitV l) (hf : vtsfit vs) (hn : fitV nx) :
    runE C 32 [.agg [.int .i64 t.hd.hgt, .int .i64 t.hd.tim, .sl t.hd.root.length (bytesV t.hd.root), .sl t.hd.set.length (bytesV t.hd.set), .sl t.hd.nxt.length (bytesV t.hd.nxt), .sl t.nx.length (vsS t.nx), .int .i64 t.per, .bool t.pau, .sl t.roots.length (psS t.roots), .int .i64 t.frm], .sl l.length (vsS l), .agg [.int .i64 x.hgt, .int .i64 x.tim, .sl x.root.length (bytesV x.root), .sl x.set.length (bytesV x.set), .sl x.nxt.length (bytesV x.nxt), .sl vs.length (vtsS vs)], .sl nx.length (vsS nx), .int .i64 now] = some (.tup [.int .i64 (stepSkip t l x vs nx now).1, .int .i64 (stepSkip t l x vs nx now).2.hd.hgt, .int .i64 (stepSkip t l x vs nx now).2.hd.tim, .osl (stepSkip t l x vs nx now).2.hd.root.length (bytesV (stepSkip t l x vs nx now).2.hd.root), .osl (stepSkip t l x vs nx now).2.hd.set.length (bytesV (stepSkip t l x vs nx now).2.hd.set), .osl (stepSkip t l x vs nx now).2.hd.nxt.length (bytesV (stepSkip t l x vs nx now).2.hd.nxt), .osl (stepSkip t l x vs nx now).2.nx.length (vsO (stepSkip t l x vs nx now).2.nx), .int .i64 (stepSkip t l x vs nx now).2.per, .bool (stepSkip t l x vs nx now).2.pau, .osl (stepSkip t l x vs nx now).2.roots.length (psO (stepSkip t l x vs nx now).2.roots), .int .i64 (stepSkip t l x vs nx now).2.frm]) := by
  have k0 := c88 t now h h1 h2
  refine E32 _ _ _ _ _ _ _ _ _ _ _ _ _ _ _ _ _ _ _ _ _ _ _ _ _ _ _ _ _ _ ?_
  unfold T32 stepSkip
  by_cases g : stF t now = 0
  case neg =>
    rw [if_pos g]
    simp only [S0, k0, bne_t g]
    rfl
  rw [if_neg (fun h => h g)]
  rw [g] at k0
  obtain ⟨p1, p2, p3⟩ := stF_ok g
  have b2 := Go.PI.Set.hbFault_ok (tFault_parts p1).1
  unfold skipP
  have ka := c75 l x vs hl hf
  by_cases g1 : sgFault l x vs = 0
  case neg =>
    rw [if_pos g1]
    simp only [S0, k0, bne_f, ka, bne_t g1]
    rfl
  rw [if_neg (fun h => h g1)]
  rw [g1] at ka
  have w : IntKind.i64.wrap (t.hd.hgt + 1) = t.hd.hgt + 1 := w64 (by omega) (by omega)
  have kt := c89 t x (decide (x.hgt > t.hd.hgt + 1)) now
  have q : True := trivial
  by_cases g2 : tmF t x (decide (x.hgt > t.hd.hgt + 1)) now = 0
  case neg =>
    rw [if_pos g2]
    have q : True := trivial
    simp only [S0, k0, bne_f, ka, w, kt, bne_t g2]
    rfl
  rw [if_neg (fun h => h g2)]
  have q : True := trivial
  rw [g2] at kt
  have gg := (tm_ok g2).1
  obtain ⟨q1, q2, q3, q4⟩ := sgFault_ok g1
  have km := c78 t l x vs p1 g1
  by_cases g3 : (mostV l vs && shd t l vs) = true
  · rw [if_pos g3]
    rw [g3] at km
    have ks := c91 t x nx p1 q2 (by have := of_decide_eq_true gg; omega) hn
    simp only [S0, k0, bne_f, ka, w, kt, km, ks]
  · rw [if_neg g3]
    have g3' : (mostV l vs && shd t l vs) = false := by simpa using g3
    rw [g3'] at km
    simp only [S0, k0, bne_f, ka, w, kt, km]
    rfl
theorem c100 (t : Tr) (x : HB) (vs : List Vt) (nx : List Vd) (now : Int) (h : fitH t.hd) (h1 : fitV t.nx) (h2 : fitP t.roots) (hf : vtsfit vs) (hn : fitV nx) (p1 : tFault t = 0) (p2 : t.pau = false) :
    runE C 100 [.agg [.int .i64 t.hd.hgt, .int .i64 t.hd.tim, .sl t.hd.root.length (bytesV t.hd.root), .sl t.hd.set.length (bytesV t.hd.set), .sl t.hd.nxt.length (bytesV t.hd.nxt), .sl t.nx.length (vsS t.nx), .int .i64 t.per, .bool t.pau, .sl t.roots.length (psS t.roots), .int .i64 t.frm], .agg [.int .i64 x.hgt, .int .i64 x.tim, .sl x.root.length (bytesV x.root), .sl x.set.length (bytesV x.set), .sl x.nxt.length (bytesV x.nxt), .sl vs.length (vtsS vs)], .sl nx.length (vsS nx), .int .i64 now] = some (.tup [.int .i64 (nextP t x vs nx now).1, .int .i64 (nextP t x vs nx now).2.hd.hgt, .int .i64 (nextP t x vs nx now).2.hd.tim, .sl (nextP t x vs nx now).2.hd.root.length (bytesV (nextP t x vs nx now).2.hd.root), .sl (nextP t x vs nx now).2.hd.set.length (bytesV (nextP t x vs nx now).2.hd.set), .sl (nextP t x vs nx now).2.hd.nxt.length (bytesV (nextP t x vs nx now).2.hd.nxt), .sl (nextP t x vs nx now).2.nx.length (vsS (nextP t x vs nx now).2.nx), .int .i64 (nextP t x vs nx now).2.per, .bool (nextP t x vs nx now).2.pau, .sl (nextP t x vs nx now).2.roots.length (psS (nextP t x vs nx now).2.roots), .int .i64 (nextP t x vs nx now).2.frm]) := by
  have b2 := Go.PI.Set.hbFault_ok (tFault_parts p1).1
  have ka := c81 t.nx x vs h1 hf
  refine E100 _ _ _ _ _ _ _ _ _ _ _ _ _ _ _ _ _ _ _ _ _ _ _ _ _ _ _ _ ?_
  unfold T100 nextP
  by_cases g1 : sgFault t.nx x vs = 0
  case neg =>
    rw [if_pos g1]
    simp only [S0, ka, bne_t g1]
    rfl
  rw [if_neg (fun h => h g1)]
  rw [g1] at ka
  have w : IntKind.i64.wrap (t.hd.hgt + 1) = t.hd.hgt + 1 := w64 (by omega) (by omega)
  unfold tmF
  by_cases g2 : x.hgt = t.hd.hgt + 1
  case neg =>
    have t1 : (x.hgt != t.hd.hgt + 1) = true := bne_t g2
    rw [decide_eq_false g2]
    simp only [S0, bne_f, ka, w, t1]
    rfl
  have t1 : (x.hgt != t.hd.hgt + 1) = false := by rw [g2]; exact bne_f _
  rw [decide_eq_true g2]
  rw [if_neg (show ¬ (true = false) by decide)]
  by_cases g3 : x.tim ≤ t.hd.tim
  · rw [if_pos g3]
    simp only [S0, bne_f, ka, w, t1, decide_eq_true g3]
    rfl
  rw [if_neg g3]
  by_cases g4 : x.tim > now
  · rw [if_pos g4]
    simp only [S0, bne_f, ka, w, t1, decide_eq_false g3, decide_eq_true g4]
    rfl
  rw [if_neg g4]
  rw [if_neg (show ¬ ((0 : Int) ≠ 0) by decide)]
  obtain ⟨q1, q2, q3, q4⟩ := sgFault_ok g1
  have ks := c165 t x vs nx p1 p2 q2 (by omega) h h1 h2 hn
  have km := c84 t.nx x vs h1 hf g1
  by_cases g5 : mostV t.nx vs = true
  · rw [if_pos g5]
    rw [g5] at km
    simp only [S0, bne_f, ka, w, t1, decide_eq_false g3, decide_eq_false g4, km, ks]
  · rw [if_neg g5]
    have g5' : mostV t.nx vs = false := by simpa using g5
    rw [g5'] at km
    simp only [S0, bne_f, ka, w, t1, decide_eq_false g3, decide_eq_false g4, km]
    rfl
theorem c108 (t : Tr) (l : List Vd) (x : HB) (vs : List Vt) (nx : List Vd) (now : Int) (h : fitH t.hd) (h1 : fitV t.nx) (h2 : fitP t.roots) (hl : fitV l) (hf : vtsfit vs) (hn : fitV nx) (p1 : tFault t = 0) (p2 : t.pau = false) :
    runE C 108 [.agg [.int .i64 t.hd.hgt, .int .i64 t.hd.tim, .sl t.hd.root.length (bytesV t.hd.root), .sl t.hd.set.length (bytesV t.hd.set), .sl t.hd.nxt.length (bytesV t.hd.nxt), .sl t.nx.length (vsS t.nx), .int .i64 t.per, .bool t.pau, .sl t.roots.length (psS t.roots), .int .i64 t.frm], .sl l.length (vsS l), .agg [.int .i64 x.hgt, .int .i64 x.tim, .sl x.root.length (bytesV x.root), .sl x.set.length (bytesV x.set), .sl x.nxt.length (bytesV x.nxt), .sl vs.length (vtsS vs)], .sl nx.length (vsS nx), .int .i64 now] = some (.tup [.int .i64 (skipP t l x vs nx now).1, .int .i64 (skipP t l x vs nx now).2.hd.hgt, .int .i64 (skipP t l x vs nx now).2.hd.tim, .sl (skipP t l x vs nx now).2.hd.root.length (bytesV (skipP t l x vs nx now).2.hd.root), .sl (skipP t l x vs nx now).2.hd.set.length (bytesV (skipP t l x vs nx now).2.hd.set), .sl (skipP t l x vs nx now).2.hd.nxt.length (bytesV (skipP t l x vs nx now).2.hd.nxt), .sl (skipP t l x vs nx now).2.nx.length (vsS (skipP t l x vs nx now).2.nx), .int .i64 (skipP t l x vs nx now).2.per, .bool (skipP t l x vs nx now).2.pau, .sl (skipP t l x vs nx now).2.roots.length (psS (skipP t l x vs nx now).2.roots), .int .i64 (skipP t l x vs nx now).2.frm]) := by
  have b2 := Go.PI.Set.hbFault_ok (tFault_parts p1).1
  have ka := c81 l x vs hl hf
  refine E108 _ _ _ _ _ _ _ _ _ _ _ _ _ _ _ _ _ _ _ _ _ _ _ _ _ _ _ _ _ _ ?_
  unfold T108 skipP
  by_cases g1 : sgFault l x vs = 0
  case neg =>
    rw [if_pos g1]
    simp only [S0, ka, bne_t g1]
    rfl
  rw [if_neg (fun h => h g1)]
  rw [g1] at ka
  have w : IntKind.i64.wrap (t.hd.hgt + 1) = t.hd.hgt + 1 := w64 (by omega) (by omega)
  unfold tmF
  by_cases g2 : x.hgt > t.hd.hgt + 1
  case neg =>
    have t1 : decide (x.hgt ≤ t.hd.hgt + 1) = true := decide_eq_true (by omega)
    rw [decide_eq_false g2]
    simp only [S0, bne_f, ka, w, t1]
    rfl
  have t1 : decide (x.hgt ≤ t.hd.hgt + 1) = false := decide_eq_false (by omega)
  rw [decide_eq_true g2]
  rw [if_neg (show ¬ (true = false) by decide)]
  by_cases g3 : x.tim ≤ t.hd.tim
  · rw [if_pos g3]
    simp only [S0, bne_f, ka, w, t1, decide_eq_true g3]
    rfl
  rw [if_neg g3]
  by_cases g4 : x.tim > now
  · rw [if_pos g4]
    simp only [S0, bne_f, ka, w, t1, decide_eq_false g3, decide_eq_true g4]
    rfl
  rw [if_neg g4]
  rw [if_neg (show ¬ ((0 : Int) ≠ 0) by decide)]
  obtain ⟨q1, q2, q3, q4⟩ := sgFault_ok g1
  have ks := c165 t x vs nx p1 p2 q2 (by omega) h h1 h2 hn
  have km := c84 l x vs hl hf g1
  have ku := c85 t l x vs p1 g1
  cases g5 : mostV l vs
  · rw [g5] at km
    rw [Bool.false_and, if_neg (by decide)]
    simp only [S0, bne_f, ka, w, t1, decide_eq_false g3, decide_eq_false g4, km]
    rfl
  · rw [g5] at km
    cases g6 : shd t l vs
    · rw [g6] at ku
      rw [Bool.true_and, if_neg (by decide)]
      simp only [S0, bne_f, ka, w, t1, decide_eq_false g3, decide_eq_false g4, km, ku]
      rfl
    · rw [g6] at ku
      rw [Bool.true_and, if_pos rfl]
      simp only [S0, bne_f, ka, w, t1, decide_eq_false g3, decide_eq_false g4, km, ku, ks]
theorem c34 (t : Tr) (l : List Vd) (x : HB) (vs : List Vt) (nx : List Vd) (now : Int) (h : fitH t.hd) (h1 : fitV t.nx) (h2 : fitP t.roots) (hl : fitV l) (hf : vtsfit vs) (hn : fitV nx) :
    runE C 34 [.agg [.int .i64 t.hd.hgt, .int .i64 t.hd.tim, .sl t.hd.root.length (bytesV t.hd.root), .sl t.hd.set.length (bytesV t.hd.set), .sl t.hd.nxt.length (bytesV t.hd.nxt), .sl t.nx.length (vsS t.nx), .int .i64 t.per, .bool t.pau, .sl t.roots.length (psS t.roots), .int .i64 t.frm], .sl l.length (vsS l), .agg [.int .i64 x.hgt, .int .i64 x.tim, .sl x.root.length (bytesV x.root), .sl x.set.length (bytesV x.set), .sl x.nxt.length (bytesV x.nxt), .sl vs.length (vtsS vs)], .sl nx.length (vsS nx), .int .i64 now] = some (.tup [.int .i64 (stepTo t l x vs nx now).1, .int .i64 (stepTo t l x vs nx now).2.hd.hgt, .int .i64 (stepTo t l x vs nx now).2.hd.tim, .osl (stepTo t l x vs nx now).2.hd.root.length (bytesV (stepTo t l x vs nx now).2.hd.root), .osl (stepTo t l x vs nx now).2.hd.set.length (bytesV (stepTo t l x vs nx now).2.hd.set), .osl (stepTo t l x vs nx now).2.hd.nxt.length (bytesV (stepTo t l x vs nx now).2.hd.nxt), .osl (stepTo t l x vs nx now).2.nx.length (vsO (stepTo t l x vs nx now).2.nx), .int .i64 (stepTo t l x vs nx now).2.per, .bool (stepTo t l x vs nx now).2.pau, .osl (stepTo t l x vs nx now).2.roots.length (psO (stepTo t l x vs nx now).2.roots), .int .i64 (stepTo t l x vs nx now).2.frm]) := by
  have k0 := c88 t now h h1 h2
  have kn := c26 t x vs nx now h h1 h2 hf hn
  have ks := c32 t l x vs nx now h h1 h2 hl hf hn
  refine E34 _ _ _ _ _ _ _ _ _ _ _ _ _ _ _ _ _ _ _ _ _ _ _ _ _ _ _ _ _ _ ?_
  unfold T34 stepTo
  unfold stepNext at kn
  unfold stepSkip at ks
  by_cases g : stF t now = 0
  case neg =>
    rw [if_pos g]
    simp only [S0, k0, bne_t g]
    rfl
  rw [if_neg (fun h => h g)] at kn ks ⊢
  rw [g] at k0
  obtain ⟨p1, p2, p3⟩ := stF_ok g
  have b2 := Go.PI.Set.hbFault_ok (tFault_parts p1).1
  have w : IntKind.i64.wrap (t.hd.hgt + 1) = t.hd.hgt + 1 := w64 (by omega) (by omega)
  by_cases g2 : x.hgt ≤ t.hd.hgt + 1
  · rw [if_pos g2]
    simp only [S0, k0, bne_f, w, decide_eq_true g2, kn]
  · rw [if_neg g2]
    simp only [S0, k0, bne_f, w, decide_eq_false g2, ks]
theorem c35 (t : Tr) (l : List Vd) (x : HB) (vs : List Vt) (nx : List Vd) (now : Int) (h : fitH t.hd) (h1 : fitV t.nx) (h2 : fitP t.roots) (hl : fitV l) (hf : vtsfit vs) (hn : fitV nx) :
    runE C 35 [.agg [.int .i64 t.hd.hgt, .int .i64 t.hd.tim, .sl t.hd.root.length (bytesV t.hd.root), .sl t.hd.set.length (bytesV t.hd.set), .sl t.hd.nxt.length (bytesV t.hd.nxt), .sl t.nx.length (vsS t.nx), .int .i64 t.per, .bool t.pau, .sl t.roots.length (psS t.roots), .int .i64 t.frm], .sl l.length (vsS l), .agg [.int .i64 x.hgt, .int .i64 x.tim, .sl x.root.length (bytesV x.root), .sl x.set.length (bytesV x.set), .sl x.nxt.length (bytesV x.nxt), .sl vs.length (vtsS vs)], .sl nx.length (vsS nx), .int .i64 now] = some (.tup [.int .i64 (stepTo t l x vs nx now).1, .int .i64 (stepTo t l x vs nx now).2.hd.hgt, .int .i64 (stepTo t l x vs nx now).2.hd.tim, .sl (stepTo t l x vs nx now).2.hd.root.length (bytesV (stepTo t l x vs nx now).2.hd.root), .sl (stepTo t l x vs nx now).2.hd.set.length (bytesV (stepTo t l x vs nx now).2.hd.set), .sl (stepTo t l x vs nx now).2.hd.nxt.length (bytesV (stepTo t l x vs nx now).2.hd.nxt), .sl (stepTo t l x vs nx now).2.nx.length (vsS (stepTo t l x vs nx now).2.nx), .int .i64 (stepTo t l x vs nx now).2.per, .bool (stepTo t l x vs nx now).2.pau, .sl (stepTo t l x vs nx now).2.roots.length (psS (stepTo t l x vs nx now).2.roots), .int .i64 (stepTo t l x vs nx now).2.frm]) := by
  have k0 := c99 t now h h1 h2
  refine E35 _ _ _ _ _ _ _ _ _ _ _ _ _ _ _ _ _ _ _ _ _ _ _ _ _ _ _ _ _ _ ?_
  unfold T35 stepTo
  by_cases g : stF t now = 0
  case neg =>
    rw [if_pos g]
    simp only [S0, k0, bne_t g]
    rfl
  rw [if_neg (fun h => h g)]
  rw [g] at k0
  obtain ⟨p1, p2, p3⟩ := stF_ok g
  have b2 := Go.PI.Set.hbFault_ok (tFault_parts p1).1
  have w : IntKind.i64.wrap (t.hd.hgt + 1) = t.hd.hgt + 1 := w64 (by omega) (by omega)
  by_cases g2 : x.hgt ≤ t.hd.hgt + 1
  · rw [if_pos g2]
    simp only [S0, k0, bne_f, w, decide_eq_true g2, c100 t x vs nx now h h1 h2 hf hn p1 p2]
  · rw [if_neg g2]
    simp only [S0, k0, bne_f, w, decide_eq_false g2, c108 t l x vs nx now h h1 h2 hl hf hn p1 p2]
end Go.Proofs.YtodapaplfjfnlaaGreat.Vote
