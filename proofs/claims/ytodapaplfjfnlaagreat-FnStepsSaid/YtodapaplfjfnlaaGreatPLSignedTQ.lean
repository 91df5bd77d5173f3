/-
  Signed heads: their faults, the powers of votes, both sides.
-/
import Derived.Test.YtodapaplfjfnlaaGreatPLVoteTQ
import Derived.Test.YtodapaplfjfnlaaGreatPLCheckTQ
namespace Go.Proofs.YtodapaplfjfnlaaGreat.Vote
open Go Go.PI Go.PI.Sha Go.PI.Rel Go.PI.Nest Go.PI.Tru Go.PI.Set Go.PI.Tree Go.PI.Vote Go.Proofs.YtodapaplfjfnlaaGreat.Sha Go.Proofs.YtodapaplfjfnlaaGreat.By Go.Proofs.YtodapaplfjfnlaaGreat.Nest Go.Proofs.YtodapaplfjfnlaaGreat.Tru Go.Proofs.YtodapaplfjfnlaaGreat.Set Go.Proofs.YtodapaplfjfnlaaGreat.Tree EqQ
set_option maxHeartbeats 1000000
set_option linter.unusedVariables false
set_option linter.unusedSimpArgs false
theorem hbW_cells (x : HB) : psS (hbW x) = [V.sl 7 (bytesV (num7 x.hgt)), V.sl 7 (bytesV (num7 x.tim)), V.sl x.root.length (bytesV x.root), V.sl x.set.length (bytesV x.set), V.sl x.nxt.length (bytesV x.nxt)] := by
  simp only [psS, hbW, List.flatMap_cons, List.flatMap_nil, bS, num7_length, List.cons_append, List.nil_append]
theorem ints_at {i : Nat} {d : List Int} (hi : i = d.length) (v : Int) (r : List Int) : (ints (d ++ v :: r))[i]? = some (.int .i64 v) := by
  subst hi
  rw [ints_append, List.getElem?_append_right (by rw [ints_length]; exact Nat.le_refl _), ints_length, Nat.sub_self]; rfl
theorem seed_at {l : List (List UInt8)} {i : Nat} (h : i < l.length) : (psS l)[i]? = some (.sl (l.getD i []).length (bytesV (l.getD i []))) := by
  have e : l = l.take i ++ l.getD i [] :: l.drop (i + 1) := by rw [List.getD_eq_getElem?_getD, List.getElem?_eq_getElem h, Option.getD_some, ← List.drop_eq_getElem_cons h, List.take_append_drop]
  have hl : (l.take i).length = i := by rw [List.length_take]; omega
  have := psS_at (l.take i) (l.getD i []) (l.drop (i + 1))
  rw [← e, hl] at this
  exact this
theorem seed_short {l : List (List UInt8)} (h : ¬ l.any long = true) {i : Nat} (hi : i < l.length) : (l.getD i []).length ≤ 1000 := by
  have hm : l.getD i [] ∈ l := by rw [List.getD_eq_getElem?_getD, List.getElem?_eq_getElem hi]; exact List.getElem_mem hi
  have : long (l.getD i []) = false := by
    by_cases e : long (l.getD i []) = true
    · exact absurd (List.any_eq_true.2 ⟨_, hm, e⟩) h
    · simpa using e
  unfold long at this
  have := of_decide_eq_false this
  omega
theorem c77 (x : HB) (h : hbFault x = 0) : runE C 77 [.agg [.int .i64 x.hgt, .int .i64 x.tim, .sl x.root.length (bytesV x.root), .sl x.set.length (bytesV x.set), .sl x.nxt.length (bytesV x.nxt)]] = some (.tup [.sl 32 (bytesV (hbDig x))]) := by
  have hs := hbW_small h
  have k1 : runE C 131 [.sl 5 (psS (hbW x))] = _ := c131 (hbW x) hs
  rw [hbW_cells] at k1
  have k2 := c147 bftTag (packW (hbW x)) (by decide) (by rw [packW_length]; have := hs.2.2; omega)
  have k2 : runE C 147 [V.str { data := #[(98 : UInt8), (102 : UInt8), (116 : UInt8)] }, V.sl 1 [V.sl (packW (hbW x)).length (bytesV (packW (hbW x)))]] = some (.tup [.osl 32 (bytesV (hbDig x))]) := k2
  refine E77 _ _ _ _ _ _ _ _ ?_
  unfold T77
  simp only [S0, c133, k1, k2]
theorem c83 (x : HB) (h : hbFault x = 0) : runE C 83 [.agg [.int .i64 x.hgt, .int .i64 x.tim, .sl x.root.length (bytesV x.root), .sl x.set.length (bytesV x.set), .sl x.nxt.length (bytesV x.nxt)]] = some (.tup [.sl 32 (bytesV (hbDig x))]) := by
  have hs := hbW_small h
  have k1 : runE C 143 [.sl 5 (psS (hbW x))] = _ := c143 (hbW x) hs
  rw [hbW_cells] at k1
  have k2 := c138 bftTag (packW (hbW x)) (by decide) (by rw [packW_length]; have := hs.2.2; omega)
  have k2 : runE C 138 [V.str { data := #[(98 : UInt8), (102 : UInt8), (116 : UInt8)] }, V.sl (packW (hbW x)).length (bytesV (packW (hbW x)))] = some (.tup [.osl 32 (bytesV (hbDig x))]) := k2
  have k0 := c96 x
  rw [h] at k0
  refine E83 _ _ _ _ _ _ _ _ ?_
  unfold T83
  simp only [S0, k0, bne_f, c142, k1, k2]
theorem l71 (seeds : List (List UInt8)) (lf : Nat) (x : HB) (hlf : lf < 4) (hsd : ¬ seeds.any long = true) (hsl : seeds.length ≤ 5) : ∀ (r d : List Int) (n i : Nat) (K : List Vt), n = d.length + r.length → i = d.length → n ≤ 1000000 → K.length = i → (∀ k ∈ r, 0 ≤ k ∧ k ≤ (seeds.length : Int) - 1) →
    loopE C 71 0 [true, true, true, false, true] [] [(0, V.sl seeds.length (psS seeds)), (1, V.sl n (ints (d ++ r))), (2, V.int .i64 (lf : Int)), (8, V.ptr 0 0), (9, V.ptr 5 0), (10, V.sl 32 (bytesV (hbDig x))), (11, V.int .i64 (i : Int))] [Ob.box 55 [V.int .i64 0, V.int .i64 0, V.ref 1, V.ref 2, V.ref 3, V.ref 4] false, Ob.row 5 0 [] false, Ob.row 5 0 [] false, Ob.row 5 0 [] false, Ob.nrow [] 170 0 [], Ob.box 55 [V.int .i64 x.hgt, V.int .i64 x.tim, V.ref 6, V.ref 7, V.ref 8, V.ref 9] false, Ob.row 5 x.root.length (bytesV x.root) false, Ob.row 5 x.set.length (bytesV x.set) false, Ob.row 5 x.nxt.length (bytesV x.nxt) false, Ob.nrow [] 170 K.length (vtsO K)] = some (.tup [.int .i64 x.hgt, .int .i64 x.tim, .sl x.root.length (bytesV x.root), .sl x.set.length (bytesV x.set), .sl x.nxt.length (bytesV x.nxt), .sl (K ++ r.map (vote seeds (lf : Int) (hbDig x))).length (vtsS (K ++ r.map (vote seeds (lf : Int) (hbDig x))))])
  | [], d, n, i, K, hn, hi, hq, hK, hr => by
    refine E71l1 _ _ _ _ _ _ _ _ _ _ _ _ _ _ _ _ _ _ _ _ _ _ _ _ _ _ _ _ ?_
    unfold T71l1
    have : ¬ i < n := by simp at hn; omega
    simp only [S0, this, List.map_nil, List.append_nil, vts_bare]
  | b :: r, d, n, i, K, hn, hi, hq, hK, hr => by
    simp only [List.length_cons] at hn
    have hb := hr b (by simp)
    have hlt : i < n := by omega
    have hw := w64_succ (n := i) (by omega)
    have hg := ints_at hi b r
    obtain ⟨kn, rfl⟩ : ∃ kn : Nat, b = (kn : Int) := ⟨b.toNat, by omega⟩
    have hkn : kn < seeds.length := by omega
    have gs := seed_at hkn
    have hl : (psS seeds).length = seeds.length := psS_length seeds
    have ks := c145 (seeds.getD kn []) lf (hbDig x) (seed_short hsd hkn) hlf (by rw [hbDig_length]; decide)
    rw [hbDig_length] at ks
    have d1 : K.length + 1 ≤ 140737488355328 := by omega
    have d2 : (K.length + 1) * 80 ≤ 140737488355328 := by omega
    have es : vtsO K ++ [.int .i64 (kn : Int), .int .i64 (lf : Int), .own true 22 1 (partsF (seeds.getD kn []) lf (digits (hbDig x)) 0).length (psO (partsF (seeds.getD kn []) lf (digits (hbDig x)) 0)), .int .i64 (lf : Int), .int .i64 4, .own true 22 1 (path (leaves (seeds.getD kn [])) lf).length (psO (path (leaves (seeds.getD kn [])) lf))] = vtsO (K ++ [vote seeds (lf : Int) (hbDig x) (kn : Int)]) := vtsO_snoc K (vote seeds (lf : Int) (hbDig x) (kn : Int))
    have ih := l71 seeds lf x hlf hsd hsl r (d ++ [(kn : Int)]) n (i + 1) (K ++ [vote seeds (lf : Int) (hbDig x) (kn : Int)]) (by simp; omega) (by simp; omega) hq (by simp; omega) (fun k h => hr k (by simp [h]))
    rw [List.length_append, List.length_singleton] at ih
    simp only [List.append_assoc, List.singleton_append] at ih
    refine E71l1 _ _ _ _ _ _ _ _ _ _ _ _ _ _ _ _ _ _ _ _ _ _ _ _ _ _ _ _ ?_
    unfold T71l1
    simp only [S0, hlt, hg, hkn, hl, gs, ks, d1, d2, es, hw, ih, List.map_cons]
theorem c71 (seeds : List (List UInt8)) (lf : Nat) (x : HB) (hf : hbFault x = 0) (hlf : lf < 4) (hsd : ¬ seeds.any long = true) (hsl : seeds.length ≤ 5) (places : List Int) (hq : places.length ≤ 5) (hr : ∀ k ∈ places, 0 ≤ k ∧ k ≤ (seeds.length : Int) - 1) :
    runE C 71 [.sl seeds.length (psS seeds), .sl places.length (ints places), .int .i64 (lf : Int), .agg [.int .i64 x.hgt, .int .i64 x.tim, .sl x.root.length (bytesV x.root), .sl x.set.length (bytesV x.set), .sl x.nxt.length (bytesV x.nxt)]] = some (.tup [.int .i64 x.hgt, .int .i64 x.tim, .sl x.root.length (bytesV x.root), .sl x.set.length (bytesV x.set), .sl x.nxt.length (bytesV x.nxt), .sl (places.map (vote seeds (lf : Int) (hbDig x))).length (vtsS (places.map (vote seeds (lf : Int) (hbDig x))))]) := by
  have kk := l71 seeds lf x hlf hsd hsl places [] places.length 0 [] (by simp) rfl (by omega) rfl hr
  rw [List.nil_append, List.nil_append] at kk
  refine E71 _ _ _ _ _ _ _ _ _ _ _ _ _ ?_
  unfold T71
  simp only [S0, c144 x (hbOk_fit hf), c83 x hf]
  exact kk
end Go.Proofs.YtodapaplfjfnlaaGreat.Vote
namespace Go.Proofs.YtodapaplfjfnlaaGreat.Vote
open Go Go.PI Go.PI.Sha Go.PI.Rel Go.PI.Nest Go.PI.Tru Go.PI.Set Go.PI.Tree Go.PI.Vote Go.Proofs.YtodapaplfjfnlaaGreat.Sha Go.Proofs.YtodapaplfjfnlaaGreat.By Go.Proofs.YtodapaplfjfnlaaGreat.Nest Go.Proofs.YtodapaplfjfnlaaGreat.Tru Go.Proofs.YtodapaplfjfnlaaGreat.Set Go.Proofs.YtodapaplfjfnlaaGreat.Tree EqQ
set_option maxHeartbeats 1000000
set_option linter.unusedVariables false
set_option linter.unusedSimpArgs false
theorem vs_split {l : List Vd} {i : Nat} (h : i < l.length) : l = l.take i ++ l.getD i noVd :: l.drop (i + 1) := by rw [List.getD_eq_getElem?_getD, List.getElem?_eq_getElem h, Option.getD_some, ← List.drop_eq_getElem_cons h, List.take_append_drop]
theorem vs_i0 {l : List Vd} {i : Nat} (h : i < l.length) : (vsS l)[i * 2]? = some (.sl (l.getD i noVd).key.length (bytesV (l.getD i noVd).key)) := by
  have := vsS_at0 (i := i) (d := l.take i) (by rw [List.length_take]; omega) (l.getD i noVd) (l.drop (i + 1))
  rwa [← vs_split h] at this
theorem vs_i1 {l : List Vd} {i : Nat} (h : i < l.length) : (vsS l)[i * 2 + 1]? = some (.int .i64 (l.getD i noVd).pow) := by
  have := vsS_at1 (i := i) (d := l.take i) (by rw [List.length_take]; omega) (l.getD i noVd) (l.drop (i + 1))
  rwa [← vs_split h] at this
theorem vf_cons (l : List Vd) (m : List UInt8) (v : Vt) (r : List Vt) (last : Int) : vf l m (v :: r) last = if ¬ (last + 1 ≤ v.plc ∧ v.plc ≤ (l.length : Int) - 1) then 3 else if ckSign (l.getD v.plc.toNat noVd).key m v = true then vf l m r v.plc else 6 := rfl
theorem l75 (l : List Vd) (m : List UInt8) (hm : m.length = 32) (hl : l.length ≤ 1000000) (n : Nat) : ∀ (r d : List Vt) (i : Nat) (last : Int), n = d.length + r.length → i = d.length → n < 1000000 → -1 ≤ last → last < 1000000 → (∀ v ∈ r, vtfit v) →
    loopE C 75 1 [true, true, true, true, true, false, true] [] [(0, V.sl l.length (vsS l)), (7, V.int .i64 last), (8, V.sl 32 (bytesV m)), (39, V.sl n (vtsS (d ++ r))), (40, V.int .i64 (n : Int)), (41, V.int .i64 (i : Int))] [] = some (.tup [.int .i64 (vf l m r last)])
  | [], d, i, last, hn, hi, hq, h1, h2, hv => by
    refine E75l1 _ _ _ _ _ _ _ _ _ ?_
    unfold T75l1
    have : ¬ i < n := by simp at hn; omega
    simp only [S0, this, vf]
  | b :: r, d, i, last, hn, hi, hq, h1, h2, hv => by
    simp only [List.length_cons] at hn
    have hlt : i < n := by omega
    have hw := w64_succ (n := i) (by omega)
    have g0 : (vtsS (d ++ b :: r))[i * 6]? = _ := vtsS_at0 hi b r
    have g1 : (vtsS (d ++ b :: r))[i * 6 + 1]? = _ := vtsS_at1 hi b r
    have g2 : (vtsS (d ++ b :: r))[i * 6 + 1 + 1]? = _ := vtsS_at2 hi b r
    have g3 : (vtsS (d ++ b :: r))[i * 6 + 1 + 1 + 1]? = _ := vtsS_at3 hi b r
    have g4 : (vtsS (d ++ b :: r))[i * 6 + 1 + 1 + 1 + 1]? = _ := vtsS_at4 hi b r
    have g5 : (vtsS (d ++ b :: r))[i * 6 + 1 + 1 + 1 + 1 + 1]? = _ := vtsS_at5 hi b r
    have w1 : IntKind.i64.wrap (last + 1) = last + 1 := w64 (by omega) (by omega)
    have w2 : IntKind.i64.wrap ((l.length : Int) - 1) = (l.length : Int) - 1 := w64 (by omega) (by omega)
    refine E75l1 _ _ _ _ _ _ _ _ _ ?_
    unfold T75l1
    rw [vf_cons]
    by_cases c1 : last + 1 ≤ b.plc ∧ b.plc ≤ (l.length : Int) - 1
    case neg =>
      rw [if_pos c1]
      simp only [S0, hlt, g0, g1, g2, g3, g4, g5, w1, w2, c51, decide_eq_false c1]
    rw [if_neg (fun h => h c1)]
    obtain ⟨k, hk⟩ : ∃ k : Nat, b.plc = (k : Int) := ⟨b.plc.toNat, by omega⟩
    have hkl : k < l.length := by omega
    have ks := c146 (l.getD k noVd).key m b (by omega) (hv b (by simp))
    rw [hm] at ks
    have ih := l75 l m hm hl n r (d ++ [b]) (i + 1) b.plc (by simp; omega) (by simp; omega) hq (by omega) (by omega) (fun v h => hv v (by simp [h]))
    have hvl : (vsS l).length = l.length * 2 := vsS_length l
    have hk2 : k * 2 < l.length * 2 := by omega
    rw [hk] at c1 g0 ih
    rw [hk, Int.toNat_natCast k]
    simp only [List.append_assoc, List.singleton_append] at ih
    by_cases c2 : ckSign (l.getD k noVd).key m b = true
    · rw [if_pos c2]
      rw [c2] at ks
      simp only [S0, hlt, g0, g1, g2, g3, g4, g5, w1, w2, c51, decide_eq_true c1, hkl, hvl, hk2, vs_i0 hkl, ks, hw, ih]
    · rw [if_neg c2]
      have c2' : ckSign (l.getD k noVd).key m b = false := by simpa using c2
      rw [c2'] at ks
      simp only [S0, hlt, g0, g1, g2, g3, g4, g5, w1, w2, c51, decide_eq_true c1, hkl, hvl, hk2, vs_i0 hkl, ks]
theorem l81 (l : List Vd) (x : HB) (m : List UInt8) (hm : m.length = 32) (hl : l.length ≤ 1000000) (n : Nat) (vs : List Vt) (hvs : vs.length = n) : ∀ (r d : List Vt) (i : Nat) (last : Int), vs = d ++ r → i = d.length → n < 1000000 → -1 ≤ last → last < 1000000 → (d = [] ∧ last = -1 ∨ ∃ d' u, d = d' ++ [u] ∧ u.plc = last) → (∀ v ∈ r, vtfit v) →
    loopE C 81 0 [true, true, true, true, true, true, false, true] [] [(0, V.sl l.length (vsS l)), (3, V.ptr 0 0), (7, V.sl 32 (bytesV m)), (8, V.int .i64 (i : Int))] [Ob.box 55 [V.int .i64 x.hgt, V.int .i64 x.tim, V.sl x.root.length (bytesV x.root), V.sl x.set.length (bytesV x.set), V.sl x.nxt.length (bytesV x.nxt), V.sl n (vtsS vs)] false] = some (.tup [.int .i64 (vf l m r last)])
  | [], d, i, last, hd, hi, hq, h1, h2, hp, hv => by
    have hn : n = d.length := by rw [← hvs, hd]; simp
    refine E81l1 _ _ _ _ _ _ _ _ _ _ _ _ _ _ _ ?_
    unfold T81l1
    have : ¬ i < n := by omega
    simp only [S0, this, vf]
  | b :: r, d, i, last, hd, hi, hq, h1, h2, hp, hv => by
    have hn : n = d.length + (r.length + 1) := by rw [← hvs, hd]; simp
    have hlt : i < n := by omega
    have hw := w64_succ (n := i) (by omega)
    have g0 : (vtsS (d ++ b :: r))[i * 6]? = _ := vtsS_at0 hi b r
    have g1 : (vtsS (d ++ b :: r))[i * 6 + 1]? = _ := vtsS_at1 hi b r
    have g2 : (vtsS (d ++ b :: r))[i * 6 + 1 + 1]? = _ := vtsS_at2 hi b r
    have g3 : (vtsS (d ++ b :: r))[i * 6 + 1 + 1 + 1]? = _ := vtsS_at3 hi b r
    have g4 : (vtsS (d ++ b :: r))[i * 6 + 1 + 1 + 1 + 1]? = _ := vtsS_at4 hi b r
    have g5 : (vtsS (d ++ b :: r))[i * 6 + 1 + 1 + 1 + 1 + 1]? = _ := vtsS_at5 hi b r
    rw [← hd] at g0 g1 g2 g3 g4 g5
    have w2 : IntKind.i64.wrap ((l.length : Int) - 1) = (l.length : Int) - 1 := w64 (by omega) (by omega)
    have hprev : ¬ d = [] → ∃ j : Nat, IntKind.i64.wrap ((i : Int) - 1) = (j : Int) ∧ j < n ∧ (vtsS vs)[j * 6]? = some (.int .i64 last) ∧ 0 < i := fun h => by
      obtain ⟨d', u, hd', hu⟩ := hp.resolve_left fun h' => h h'.1
      have hi' : i = d'.length + 1 := by rw [hi, hd']; simp
      refine ⟨d'.length, by rw [w64 (by omega) (by omega)]; omega, by omega, ?_, by omega⟩
      rw [hd, hd', List.append_assoc, ← hu]
      exact vtsS_at0 rfl u (b :: r)
    refine E81l1 _ _ _ _ _ _ _ _ _ _ _ _ _ _ _ ?_
    unfold T81l1
    rw [vf_cons]
    by_cases c0 : 0 ≤ b.plc ∧ b.plc ≤ (l.length : Int) - 1
    case neg =>
      rw [if_pos (show ¬ (last + 1 ≤ b.plc ∧ b.plc ≤ (l.length : Int) - 1) by omega)]
      simp only [S0, hlt, g0, g1, g2, g3, g4, g5, w2, c98, decide_eq_false c0]
    obtain ⟨k, hk⟩ : ∃ k : Nat, b.plc = (k : Int) := ⟨b.plc.toNat, by omega⟩
    have hkl : k < l.length := by omega
    have ks := c153 (l.getD k noVd).key m b (by omega) (hv b (by simp))
    rw [hm] at ks
    have ih := l81 l x m hm hl n vs hvs r (d ++ [b]) (i + 1) b.plc (by rw [hd]; simp) (by simp; omega) hq (by omega) (by omega) (.inr ⟨d, b, rfl, rfl⟩) (fun v h => hv v (by simp [h]))
    have hvl : (vsS l).length = l.length * 2 := vsS_length l
    have hk2 : k * 2 < l.length * 2 := by omega
    by_cases hne : d = []
    · have hl1 : last = -1 := by
        rcases hp with h | ⟨d', u, h, _⟩
        · exact h.2
        · rw [hne] at h; simp at h
      have hi0 : ¬ (i : Int) > 0 := by rw [hi, hne]; simp
      rw [if_neg (fun h => h (show last + 1 ≤ b.plc ∧ b.plc ≤ (l.length : Int) - 1 by omega))]
      rw [hk] at c0 g0 ih
      rw [hk, Int.toNat_natCast k]
      by_cases c2 : ckSign (l.getD k noVd).key m b = true
      · rw [if_pos c2]
        rw [c2] at ks
        simp only [S0, hlt, g0, g1, g2, g3, g4, g5, w2, c98, decide_eq_true c0, hi0, hkl, hvl, hk2, vs_i0 hkl, ks, hw, ih]
      · rw [if_neg c2]
        have c2' : ckSign (l.getD k noVd).key m b = false := by simpa using c2
        rw [c2'] at ks
        simp only [S0, hlt, g0, g1, g2, g3, g4, g5, w2, c98, decide_eq_true c0, hi0, hkl, hvl, hk2, vs_i0 hkl, ks]
    · obtain ⟨j, hj1, hj2, hj3, hj4⟩ := hprev hne
      have hi0 : (i : Int) > 0 := by omega
      by_cases c1 : b.plc ≤ last
      · rw [if_pos (show ¬ (last + 1 ≤ b.plc ∧ b.plc ≤ (l.length : Int) - 1) by omega)]
        simp only [S0, hlt, g0, g1, g2, g3, g4, g5, w2, c98, decide_eq_true c0, hi0, hj1, hj2, hj3, c1]
      · rw [if_neg (fun h => h (show last + 1 ≤ b.plc ∧ b.plc ≤ (l.length : Int) - 1 by omega))]
        rw [hk] at c0 c1 g0 ih
        rw [hk, Int.toNat_natCast k]
        by_cases c2 : ckSign (l.getD k noVd).key m b = true
        · rw [if_pos c2]
          rw [c2] at ks
          simp only [S0, hlt, g0, g1, g2, g3, g4, g5, w2, c98, decide_eq_true c0, hi0, hj1, hj2, hj3, c1, hkl, hvl, hk2, vs_i0 hkl, ks, hw, ih]
        · rw [if_neg c2]
          have c2' : ckSign (l.getD k noVd).key m b = false := by simpa using c2
          rw [c2'] at ks
          simp only [S0, hlt, g0, g1, g2, g3, g4, g5, w2, c98, decide_eq_true c0, hi0, hj1, hj2, hj3, c1, hkl, hvl, hk2, vs_i0 hkl, ks]
theorem c75 (l : List Vd) (x : HB) (vs : List Vt) (hl : fitV l) (hf : vtsfit vs) : runE C 75 [.sl l.length (vsS l), .agg [.int .i64 x.hgt, .int .i64 x.tim, .sl x.root.length (bytesV x.root), .sl x.set.length (bytesV x.set), .sl x.nxt.length (bytesV x.nxt), .sl vs.length (vtsS vs)]] = some (.tup [.int .i64 (sgFault l x vs)]) := by
  have k0 := c102 l (by have := hl.1; omega)
  have k1 := c101 x
  refine E75 _ _ _ _ _ _ _ _ _ _ _ _ ?_
  unfold T75 sgFault
  by_cases g0 : setFault l = 0
  case neg =>
    rw [if_pos g0]
    simp only [S0, k0, bne_t g0]
  rw [if_neg (fun h => h g0)]
  rw [g0] at k0
  by_cases g1 : hbFault x = 0
  case neg =>
    rw [if_pos g1]
    simp only [S0, k0, bne_f, k1, bne_t g1]
  rw [if_neg (fun h => h g1)]
  rw [g1] at k1
  have k2 := c103 l (set_small g0)
  have ho := setFault_ok g0
  have hx := Go.PI.Vote.hbFault_ok g1
  have k3 := c76 x.set (setDig l)
  rw [show (setDig l).length = 32 from sha_length _] at k3
  by_cases g2 : x.set = setDig l
  case neg =>
    rw [if_pos g2]
    rw [decide_eq_false g2] at k3
    simp only [S0, k0, bne_f, k1, k2, k3]
  rw [if_neg (fun h => h g2)]
  rw [decide_eq_true g2] at k3
  by_cases g3 : 5 < vs.length
  · rw [if_pos g3]
    have t : (vs.length : Int) > 5 := by omega
    simp only [S0, k0, bne_f, k1, k2, k3, decide_eq_true t]
  rw [if_neg g3]
  have t : ¬ (vs.length : Int) > 5 := by omega
  have kk := l75 l (hbDig x) (hbDig_length x) (by omega) vs.length vs [] 0 (-1) (by simp) rfl (by omega) (by omega) (by omega) (fun v h => vtsfit_of hf h)
  have kk : loopE C 75 1 [true, true, true, true, true, false, true] [] [(0, V.sl l.length (vsS l)), (7, V.int .i64 (-1)), (8, V.sl 32 (bytesV (hbDig x))), (39, V.sl vs.length (vtsS vs)), (40, V.int .i64 (vs.length : Int)), (41, V.int .i64 0)] [] = _ := kk
  simp only [S0, k0, bne_f, k1, k2, k3, decide_eq_false t, c77 x g1, kk]
theorem c81 (l : List Vd) (x : HB) (vs : List Vt) (hl : fitV l) (hf : vtsfit vs) : runE C 81 [.sl l.length (vsS l), .agg [.int .i64 x.hgt, .int .i64 x.tim, .sl x.root.length (bytesV x.root), .sl x.set.length (bytesV x.set), .sl x.nxt.length (bytesV x.nxt), .sl vs.length (vtsS vs)]] = some (.tup [.int .i64 (sgFault l x vs)]) := by
  have k0 := c97 l hl
  have k1 := c96 x
  refine E81 _ _ _ _ _ _ _ _ _ _ _ _ ?_
  unfold T81 sgFault
  by_cases g0 : setFault l = 0
  case neg =>
    rw [if_pos g0]
    simp only [S0, k0, bne_t g0]
  rw [if_neg (fun h => h g0)]
  rw [g0] at k0
  by_cases g1 : hbFault x = 0
  case neg =>
    rw [if_pos g1]
    simp only [S0, k0, bne_f, k1, bne_t g1]
  rw [if_neg (fun h => h g1)]
  rw [g1] at k1
  have k2 := c69 l (set_small g0)
  have ho := setFault_ok g0
  have hx := Go.PI.Vote.hbFault_ok g1
  have k3 := c82 x.set (setDig l) (by omega)
  rw [show (setDig l).length = 32 from sha_length _] at k3
  by_cases g2 : x.set = setDig l
  case neg =>
    rw [if_pos g2]
    rw [decide_eq_false g2] at k3
    simp only [S0, k0, bne_f, k1, k2, k3]
  rw [if_neg (fun h => h g2)]
  rw [decide_eq_true g2] at k3
  by_cases g3 : 5 < vs.length
  · rw [if_pos g3]
    have t : (vs.length : Int) > 5 := by omega
    simp only [S0, k0, bne_f, k1, k2, k3, decide_eq_true t]
  rw [if_neg g3]
  have t : ¬ (vs.length : Int) > 5 := by omega
  have kk := l81 l x (hbDig x) (hbDig_length x) (by omega) vs.length vs rfl vs [] 0 (-1) rfl rfl (by omega) (by omega) (by omega) (.inl ⟨rfl, rfl⟩) (fun v h => vtsfit_of hf h)
  have kk : loopE C 81 0 [true, true, true, true, true, true, false, true] [] [(0, V.sl l.length (vsS l)), (3, V.ptr 0 0), (7, V.sl 32 (bytesV (hbDig x))), (8, V.int .i64 0)] [Ob.box 55 [V.int .i64 x.hgt, V.int .i64 x.tim, V.sl x.root.length (bytesV x.root), V.sl x.set.length (bytesV x.set), V.sl x.nxt.length (bytesV x.nxt), V.sl vs.length (vtsS vs)] false] = _ := kk
  simp only [S0, k0, bne_f, k1, k2, k3, decide_eq_false t, c83 x g1, kk]
theorem getD_pow {l : List Vd} (h : setFault l = 0) {i : Nat} (hi : i < l.length) : 1 ≤ (l.getD i noVd).pow ∧ (l.getD i noVd).pow ≤ 1000 := ((setFault_ok h).2.2 _ (getD_mem hi)).2
theorem tot_bound {l : List Vd} (h : ∀ v ∈ l, 1 ≤ v.pow ∧ v.pow ≤ 1000) : 0 ≤ totP l ∧ totP l ≤ 1000 * l.length := by
  induction l with
  | nil => simp [totP]
  | cons v r ih =>
    have := ih (fun u hu => h u (by simp [hu]))
    have := h v (by simp)
    simp only [totP, List.length_cons]; omega
theorem voted_bound {l : List Vd} (h : setFault l = 0) : ∀ {vs : List Vt}, inSet l vs → 0 ≤ votedP l vs ∧ votedP l vs ≤ 1000 * vs.length
  | [], _ => by simp [votedP]
  | v :: r, hi => by
    have h1 := voted_bound h (vs := r) (fun u hu => hi u (by simp [hu]))
    have h2 := hi v (by simp)
    have h3 := getD_pow h (i := v.plc.toNat) (by omega)
    simp only [votedP, List.length_cons]; omega
theorem keyPow_bound (k : List UInt8) : ∀ {o : List Vd}, (∀ v ∈ o, 1 ≤ v.pow ∧ v.pow ≤ 1000) → 0 ≤ keyPow k o ∧ keyPow k o ≤ 1000
  | [], _ => by simp [keyPow]
  | v :: r, h => by
    unfold keyPow
    split
    · have := h v (by simp); omega
    · exact keyPow_bound k (fun u hu => h u (by simp [hu]))
theorem shared_bound (l : List Vd) {o : List Vd} (h : ∀ v ∈ o, 1 ≤ v.pow ∧ v.pow ≤ 1000) : ∀ (vs : List Vt), 0 ≤ sharedP l o vs ∧ sharedP l o vs ≤ 1000 * vs.length
  | [] => by simp [sharedP]
  | v :: r => by
    have h1 := shared_bound l h r
    have h2 := keyPow_bound (l.getD v.plc.toNat noVd).key h
    simp only [sharedP, List.length_cons]; omega
theorem set_pow {l : List Vd} (h : setFault l = 0) : ∀ v ∈ l, 1 ≤ v.pow ∧ v.pow ≤ 1000 := fun v hv => ((setFault_ok h).2.2 v hv).2
theorem l149 : ∀ (r d : List Vd) (n i : Nat) (a : Int), n = d.length + r.length → i = d.length → n ≤ 1000000 → 0 ≤ a → a + totP r ≤ 4000000000000 → (∀ v ∈ r, 1 ≤ v.pow ∧ v.pow ≤ 1000) →
    loopE C 149 0 [true, true, false, true] [] [(3, V.int .i64 a), (6, V.sl n (vsS (d ++ r))), (7, V.int .i64 (n : Int)), (8, V.int .i64 (i : Int))] [] = some (.tup [.int .i64 (a + totP r)])
  | [], d, n, i, a, hn, hi, hq, h0, h1, hv => by
    refine E149l1 _ _ _ _ _ ?_
    unfold T149l1
    have : ¬ i < n := by simp at hn; omega
    simp [this, totP]
  | b :: r, d, n, i, a, hn, hi, hq, h0, h1, hv => by
    simp only [List.length_cons] at hn
    have hb := hv b (by simp)
    have hr := tot_bound (l := r) (fun v h => hv v (by simp [h]))
    simp only [totP] at h1 ⊢
    have hlt : i < n := by omega
    have hw := w64_succ (n := i) (by omega)
    have hw2 : IntKind.i64.wrap (a + b.pow) = a + b.pow := w64 (by omega) (by omega)
    have g0 := vsS_at0 hi b r
    have g1 := vsS_at1 hi b r
    have ih := l149 r (d ++ [b]) n (i + 1) (a + b.pow) (by simp; omega) (by simp; omega) hq (by omega) (by omega) (fun v h => hv v (by simp [h]))
    simp only [List.append_assoc, List.singleton_append] at ih
    refine E149l1 _ _ _ _ _ ?_
    unfold T149l1
    simp only [S0, hlt, g0, g1, hw, hw2, ih, Int.add_assoc]
theorem c149 (l : List Vd) (h : setFault l = 0) : runE C 149 [.sl l.length (vsS l)] = some (.tup [.int .i64 (totP l)]) := by
  have ho := setFault_ok h
  have hb := tot_bound (set_pow h)
  have kk := l149 l [] l.length 0 0 (by simp) rfl (by omega) (by omega) (by omega) (set_pow h)
  rw [Int.zero_add] at kk
  refine E149 _ _ ?_
  unfold T149
  exact kk
theorem l160 (l : List Vd) (x : HB) (h : setFault l = 0) : ∀ (r d : List Vt) (n i : Nat) (a : Int), n = d.length + r.length → i = d.length → n ≤ 1000000 → 0 ≤ a → a ≤ 1000 * i → inSet l r →
    loopE C 160 0 [true, true, false, true] [] [(0, V.sl l.length (vsS l)), (5, V.int .i64 a), (9, V.sl n (vtsS (d ++ r))), (10, V.int .i64 (n : Int)), (11, V.int .i64 (i : Int))] [] = some (.tup [.int .i64 (a + votedP l r)])
  | [], d, n, i, a, hn, hi, hq, h0, h1, hv => by
    refine E160l1 _ _ _ _ _ _ _ ?_
    unfold T160l1
    have : ¬ i < n := by simp at hn; omega
    simp [this, votedP]
  | b :: r, d, n, i, a, hn, hi, hq, h0, h1, hv => by
    simp only [List.length_cons] at hn
    have hb := hv b (by simp)
    obtain ⟨k, hk⟩ : ∃ k : Nat, b.plc = (k : Int) := ⟨b.plc.toNat, by omega⟩
    have hkl : k < l.length := by omega
    have hp := getD_pow h hkl
    have hlt : i < n := by omega
    have hw := w64_succ (n := i) (by omega)
    have hw2 : IntKind.i64.wrap (a + (l.getD k noVd).pow) = a + (l.getD k noVd).pow := w64 (by omega) (by omega)
    have g0 : (vtsS (d ++ b :: r))[i * 6]? = _ := vtsS_at0 hi b r
    have g1 : (vtsS (d ++ b :: r))[i * 6 + 1]? = _ := vtsS_at1 hi b r
    have g2 : (vtsS (d ++ b :: r))[i * 6 + 1 + 1]? = _ := vtsS_at2 hi b r
    have g3 : (vtsS (d ++ b :: r))[i * 6 + 1 + 1 + 1]? = _ := vtsS_at3 hi b r
    have g4 : (vtsS (d ++ b :: r))[i * 6 + 1 + 1 + 1 + 1]? = _ := vtsS_at4 hi b r
    have g5 : (vtsS (d ++ b :: r))[i * 6 + 1 + 1 + 1 + 1 + 1]? = _ := vtsS_at5 hi b r
    have ih := l160 l x h r (d ++ [b]) n (i + 1) (a + (l.getD k noVd).pow) (by simp; omega) (by simp; omega) hq (by omega) (by omega) (fun v h => hv v (by simp [h]))
    simp only [List.append_assoc, List.singleton_append] at ih
    have e : votedP l (b :: r) = (l.getD k noVd).pow + votedP l r := by simp only [votedP, hk, Int.toNat_natCast]
    rw [hk] at g0
    rw [e]
    refine E160l1 _ _ _ _ _ _ _ ?_
    unfold T160l1
    simp only [S0, hlt, g0, g1, g2, g3, g4, g5, hkl, vs_i1 hkl, hw, hw2, ih, Int.add_assoc]
theorem c160 (l : List Vd) (x : HB) (vs : List Vt) (h : setFault l = 0) (hn : vs.length ≤ 5) (hv : inSet l vs) : runE C 160 [.sl l.length (vsS l), .agg [.int .i64 x.hgt, .int .i64 x.tim, .sl x.root.length (bytesV x.root), .sl x.set.length (bytesV x.set), .sl x.nxt.length (bytesV x.nxt), .sl vs.length (vtsS vs)]] = some (.tup [.int .i64 (votedP l vs)]) := by
  have kk := l160 l x h vs [] vs.length 0 0 (by simp) rfl (by omega) (by omega) (by omega) hv
  rw [Int.zero_add, List.nil_append] at kk
  refine E160 _ _ _ _ _ _ _ _ _ _ _ _ ?_
  unfold T160
  exact kk
theorem l156 : ∀ (r d : List Vd) (n i : Nat) (a : Int), n = d.length + r.length → i = d.length → n ≤ 1000000 → 0 ≤ a → a + totP r ≤ 4000000000000 → (∀ v ∈ r, 1 ≤ v.pow ∧ v.pow ≤ 1000) →
    loopE C 156 0 [true, true, false, true] [] [(0, V.sl n (vsS (d ++ r))), (3, V.int .i64 a), (4, V.int .i64 (i : Int))] [] = some (.tup [.int .i64 (a + totP r)])
  | [], d, n, i, a, hn, hi, hq, h0, h1, hv => by
    refine E156l1 _ _ _ _ ?_
    unfold T156l1
    have : ¬ i < n := by simp at hn; omega
    simp [this, totP]
  | b :: r, d, n, i, a, hn, hi, hq, h0, h1, hv => by
    simp only [List.length_cons] at hn
    have hb := hv b (by simp)
    have hr := tot_bound (l := r) (fun v h => hv v (by simp [h]))
    simp only [totP] at h1 ⊢
    have hlt : i < n := by omega
    have hw := w64_succ (n := i) (by omega)
    have hw2 : IntKind.i64.wrap (a + b.pow) = a + b.pow := w64 (by omega) (by omega)
    have g0 := vsS_at0 hi b r
    have g1 := vsS_at1 hi b r
    have ih := l156 r (d ++ [b]) n (i + 1) (a + b.pow) (by simp; omega) (by simp; omega) hq (by omega) (by omega) (fun v h => hv v (by simp [h]))
    simp only [List.append_assoc, List.singleton_append] at ih
    refine E156l1 _ _ _ _ ?_
    unfold T156l1
    simp only [S0, hlt, g0, g1, hw, hw2, ih, Int.add_assoc]
theorem c156 (l : List Vd) (h : setFault l = 0) : runE C 156 [.sl l.length (vsS l)] = some (.tup [.int .i64 (totP l)]) := by
  have ho := setFault_ok h
  have hb := tot_bound (set_pow h)
  have kk := l156 l [] l.length 0 0 (by simp) rfl (by omega) (by omega) (by omega) (set_pow h)
  rw [Int.zero_add] at kk
  refine E156 _ _ ?_
  unfold T156
  exact kk
theorem l155 (l : List Vd) (x : HB) (h : setFault l = 0) : ∀ (r d : List Vt) (n i : Nat) (a : Int), n = d.length + r.length → i = d.length → n ≤ 1000000 → 0 ≤ a → a ≤ 1000 * i → inSet l r →
    loopE C 155 0 [true, true, false, true] [] [(0, V.sl l.length (vsS l)), (3, V.ptr 0 0), (5, V.int .i64 a), (6, V.int .i64 (i : Int))] [Ob.box 55 [V.int .i64 x.hgt, V.int .i64 x.tim, V.sl x.root.length (bytesV x.root), V.sl x.set.length (bytesV x.set), V.sl x.nxt.length (bytesV x.nxt), V.sl n (vtsS (d ++ r))] false] = some (.tup [.int .i64 (a + votedP l r)])
  | [], d, n, i, a, hn, hi, hq, h0, h1, hv => by
    refine E155l1 _ _ _ _ _ _ _ _ _ _ _ _ _ _ ?_
    unfold T155l1
    have : ¬ i < n := by simp at hn; omega
    simp [this, votedP]
  | b :: r, d, n, i, a, hn, hi, hq, h0, h1, hv => by
    simp only [List.length_cons] at hn
    have hb := hv b (by simp)
    obtain ⟨k, hk⟩ : ∃ k : Nat, b.plc = (k : Int) := ⟨b.plc.toNat, by omega⟩
    have hkl : k < l.length := by omega
    have hp := getD_pow h hkl
    have hlt : i < n := by omega
    have hw := w64_succ (n := i) (by omega)
    have hw2 : IntKind.i64.wrap (a + (l.getD k noVd).pow) = a + (l.getD k noVd).pow := w64 (by omega) (by omega)
    have g0 : (vtsS (d ++ b :: r))[i * 6]? = _ := vtsS_at0 hi b r
    have g1 : (vtsS (d ++ b :: r))[i * 6 + 1]? = _ := vtsS_at1 hi b r
    have g2 : (vtsS (d ++ b :: r))[i * 6 + 1 + 1]? = _ := vtsS_at2 hi b r
    have g3 : (vtsS (d ++ b :: r))[i * 6 + 1 + 1 + 1]? = _ := vtsS_at3 hi b r
    have g4 : (vtsS (d ++ b :: r))[i * 6 + 1 + 1 + 1 + 1]? = _ := vtsS_at4 hi b r
    have g5 : (vtsS (d ++ b :: r))[i * 6 + 1 + 1 + 1 + 1 + 1]? = _ := vtsS_at5 hi b r
    have ih := l155 l x h r (d ++ [b]) n (i + 1) (a + (l.getD k noVd).pow) (by simp; omega) (by simp; omega) hq (by omega) (by omega) (fun v h => hv v (by simp [h]))
    simp only [List.append_assoc, List.singleton_append] at ih
    have e : votedP l (b :: r) = (l.getD k noVd).pow + votedP l r := by simp only [votedP, hk, Int.toNat_natCast]
    rw [hk] at g0
    rw [e]
    refine E155l1 _ _ _ _ _ _ _ _ _ _ _ _ _ _ ?_
    unfold T155l1
    simp only [S0, hlt, g0, g1, g2, g3, g4, g5, hkl, vs_i1 hkl, hw, hw2, ih, Int.add_assoc]
theorem c155 (l : List Vd) (x : HB) (vs : List Vt) (h : setFault l = 0) (hn : vs.length ≤ 5) (hv : inSet l vs) : runE C 155 [.sl l.length (vsS l), .agg [.int .i64 x.hgt, .int .i64 x.tim, .sl x.root.length (bytesV x.root), .sl x.set.length (bytesV x.set), .sl x.nxt.length (bytesV x.nxt), .sl vs.length (vtsS vs)]] = some (.tup [.int .i64 (votedP l vs)]) := by
  have kk := l155 l x h vs [] vs.length 0 0 (by simp) rfl (by omega) (by omega) (by omega) hv
  rw [Int.zero_add, List.nil_append] at kk
  refine E155 _ _ _ _ _ _ _ _ _ _ _ _ ?_
  unfold T155
  exact kk
def mostV (l : List Vd) (vs : List Vt) : Bool := decide (3 * votedP l vs > 2 * totP l)
theorem c90 (l : List Vd) (x : HB) (vs : List Vt) (h : setFault l = 0) (hn : vs.length ≤ 5) (hv : inSet l vs) : runE C 90 [.sl l.length (vsS l), .agg [.int .i64 x.hgt, .int .i64 x.tim, .sl x.root.length (bytesV x.root), .sl x.set.length (bytesV x.set), .sl x.nxt.length (bytesV x.nxt), .sl vs.length (vtsS vs)]] = some (.tup [.bool (mostV l vs)]) := by
  have h1 := voted_bound h hv
  have h2 := tot_bound (set_pow h)
  have ho := setFault_ok h
  have w1 : IntKind.i64.wrap (3 * votedP l vs) = 3 * votedP l vs := w64 (by omega) (by omega)
  have w2 : IntKind.i64.wrap (2 * totP l) = 2 * totP l := w64 (by omega) (by omega)
  refine E90 _ _ _ _ _ _ _ _ _ _ _ _ ?_
  unfold T90
  simp only [S0, c160 l x vs h hn hv, c149 l h, w1, w2]
  rfl
theorem c84 (l : List Vd) (x : HB) (vs : List Vt) (hl : fitV l) (hf : vtsfit vs) (g : sgFault l x vs = 0) : runE C 84 [.sl l.length (vsS l), .agg [.int .i64 x.hgt, .int .i64 x.tim, .sl x.root.length (bytesV x.root), .sl x.set.length (bytesV x.set), .sl x.nxt.length (bytesV x.nxt), .sl vs.length (vtsS vs)]] = some (.tup [.bool (mostV l vs)]) := by
  obtain ⟨h, hx, hn, hv⟩ := sgFault_ok g
  have h1 := voted_bound h hv
  have h2 := tot_bound (set_pow h)
  have ho := setFault_ok h
  have w1 : IntKind.i64.wrap (3 * votedP l vs) = 3 * votedP l vs := w64 (by omega) (by omega)
  have w2 : IntKind.i64.wrap (2 * totP l) = 2 * totP l := w64 (by omega) (by omega)
  have k := c81 l x vs hl hf
  rw [g] at k
  refine E84 _ _ _ _ _ _ _ _ _ _ _ _ ?_
  unfold T84
  simp only [S0, k, beq_self_eq_true, c155 l x vs h hn hv, c156 l h, w1, w2]
  rfl
theorem kAt_pow (k : List UInt8) : ∀ (o d : List Vd) (i : Int), i = d.length → (0 ≤ kAt k o i → ((d ++ o).getD (kAt k o i).toNat noVd).pow = keyPow k o ∧ kAt k o i < d.length + o.length) ∧ (kAt k o i < 0 → keyPow k o = 0)
  | [], d, i, hi => by simp [kAt, keyPow]
  | v :: r, d, i, hi => by
    simp only [kAt, keyPow]
    by_cases e : v.key = k
    · rw [if_pos e, if_pos e]
      refine ⟨fun _ => ⟨?_, by simp; omega⟩, fun h => by omega⟩
      rw [hi, Int.toNat_natCast, List.getD_eq_getElem?_getD, List.getElem?_append_right (Nat.le_refl _), Nat.sub_self]; rfl
    · rw [if_neg e, if_neg e]
      have := kAt_pow k r (d ++ [v]) (i + 1) (by simp; omega)
      simp only [List.append_assoc, List.singleton_append, List.length_append, List.length_singleton, List.length_cons, List.length_nil, Nat.zero_add] at this ⊢
      refine ⟨fun h => ?_, this.2⟩
      have := this.1 h
      exact ⟨this.1, by omega⟩
theorem l148 (l o : List Vd) (ho : o.length ≤ 1000000) (hp : ∀ v ∈ o, 1 ≤ v.pow ∧ v.pow ≤ 1000) : ∀ (r d : List Vt) (n i : Nat) (a : Int), n = d.length + r.length → i = d.length → n ≤ 1000000 → 0 ≤ a → a ≤ 1000 * i → inSet l r →
    loopE C 148 0 [true, true, false, true] [] [(0, V.sl l.length (vsS l)), (1, V.sl o.length (vsS o)), (7, V.int .i64 a), (12, V.sl n (vtsS (d ++ r))), (13, V.int .i64 (n : Int)), (14, V.int .i64 (i : Int))] [] = some (.tup [.int .i64 (a + sharedP l o r)])
  | [], d, n, i, a, hn, hi, hq, h0, h1, hv => by
    refine E148l1 _ _ _ _ _ _ _ _ _ ?_
    unfold T148l1
    have : ¬ i < n := by simp at hn; omega
    simp [this, sharedP]
  | b :: r, d, n, i, a, hn, hi, hq, h0, h1, hv => by
    simp only [List.length_cons] at hn
    have hb := hv b (by simp)
    obtain ⟨k, hk⟩ : ∃ k : Nat, b.plc = (k : Int) := ⟨b.plc.toNat, by omega⟩
    have hkl : k < l.length := by omega
    have hlt : i < n := by omega
    have hw := w64_succ (n := i) (by omega)
    have hvl : (vsS l).length = l.length * 2 := vsS_length l
    have hk2 : k * 2 < l.length * 2 := by omega
    have hkp := keyPow_bound (l.getD k noVd).key hp
    have hw2 : IntKind.i64.wrap (a + keyPow (l.getD k noVd).key o) = a + keyPow (l.getD k noVd).key o := w64 (by omega) (by omega)
    have g0 : (vtsS (d ++ b :: r))[i * 6]? = _ := vtsS_at0 hi b r
    have g1 : (vtsS (d ++ b :: r))[i * 6 + 1]? = _ := vtsS_at1 hi b r
    have g2 : (vtsS (d ++ b :: r))[i * 6 + 1 + 1]? = _ := vtsS_at2 hi b r
    have g3 : (vtsS (d ++ b :: r))[i * 6 + 1 + 1 + 1]? = _ := vtsS_at3 hi b r
    have g4 : (vtsS (d ++ b :: r))[i * 6 + 1 + 1 + 1 + 1]? = _ := vtsS_at4 hi b r
    have g5 : (vtsS (d ++ b :: r))[i * 6 + 1 + 1 + 1 + 1 + 1]? = _ := vtsS_at5 hi b r
    have ih := l148 l o ho hp r (d ++ [b]) n (i + 1) (a + keyPow (l.getD k noVd).key o) (by simp; omega) (by simp; omega) hq (by omega) (by omega) (fun v h => hv v (by simp [h]))
    simp only [List.append_assoc, List.singleton_append] at ih
    have e : sharedP l o (b :: r) = keyPow (l.getD k noVd).key o + sharedP l o r := by simp only [sharedP, hk, Int.toNat_natCast]
    rw [hk] at g0
    rw [e]
    have kk := c166 o (l.getD k noVd).key (by omega)
    have kp := kAt_pow (l.getD k noVd).key o [] 0 rfl
    rw [List.nil_append] at kp
    refine E148l1 _ _ _ _ _ _ _ _ _ ?_
    unfold T148l1
    by_cases c : 0 ≤ kAt (l.getD k noVd).key o 0
    · obtain ⟨p1, p2⟩ := kp.1 c
      obtain ⟨j, hj⟩ : ∃ j : Nat, kAt (l.getD k noVd).key o 0 = (j : Int) := ⟨(kAt (l.getD k noVd).key o 0).toNat, by omega⟩
      rw [hj] at kk p1 p2
      rw [Int.toNat_natCast] at p1
      have hjo : j < o.length := by simp at p2; omega
      have hj0 : (j : Int) ≥ 0 := by omega
      have q1 := vs_i1 hjo
      rw [p1] at q1
      simp only [S0, hlt, g0, g1, g2, g3, g4, g5, hkl, hvl, hk2, vs_i0 hkl, kk, decide_eq_true hj0, hjo, q1, hw, hw2, ih, Int.add_assoc]
    · have c' : ¬ kAt (l.getD k noVd).key o 0 ≥ 0 := c
      have p3 := kp.2 (by omega)
      rw [p3, Int.add_zero] at ih
      rw [p3, Int.zero_add]
      simp only [S0, hlt, g0, g1, g2, g3, g4, g5, hkl, hvl, hk2, vs_i0 hkl, kk, decide_eq_false c', hw, ih]
theorem c148 (l o : List Vd) (x : HB) (vs : List Vt) (ho : setFault o = 0) (hn : vs.length ≤ 5) (hv : inSet l vs) : runE C 148 [.sl l.length (vsS l), .sl o.length (vsS o), .agg [.int .i64 x.hgt, .int .i64 x.tim, .sl x.root.length (bytesV x.root), .sl x.set.length (bytesV x.set), .sl x.nxt.length (bytesV x.nxt), .sl vs.length (vtsS vs)]] = some (.tup [.int .i64 (sharedP l o vs)]) := by
  have h5 := setFault_ok ho
  have kk := l148 l o (by omega) (set_pow ho) vs [] vs.length 0 0 (by simp) rfl (by omega) (by omega) (by omega) hv
  rw [Int.zero_add, List.nil_append] at kk
  refine E148 _ _ _ _ _ _ _ _ _ _ _ _ _ _ ?_
  unfold T148
  exact kk
def sumPow (k : List UInt8) : List Vd → Int
  | [] => 0
  | v :: r => (if v.key = k then v.pow else 0) + sumPow k r
theorem sum_none (k : List UInt8) : ∀ (r : List Vd), (∀ v ∈ r, v.key ≠ k) → sumPow k r = 0
  | [], _ => rfl
  | v :: r, h => by simp only [sumPow, if_neg (h v (by simp)), sum_none k r (fun u hu => h u (by simp [hu]))]; omega
theorem sf_keys (k : List UInt8) : ∀ (r d : List Vd), sf d r = 0 → (∀ u ∈ d, u.key = k → ∀ v ∈ r, v.key ≠ k) ∧ sumPow k r = keyPow k r
  | [], d, h => ⟨fun _ _ _ v hv => by simp at hv, rfl⟩
  | v :: r, d, h => by
    unfold sf at h
    split at h
    · cases h
    · split at h
      · cases h
      · split at h
        · cases h
        · rename_i h1 h2 h3
          obtain ⟨q1, q2⟩ := sf_keys k r (d ++ [v]) h
          refine ⟨fun u hu e w hw => ?_, ?_⟩
          · rcases List.mem_cons.1 hw with e1 | hw
            · rw [e1]; intro e2
              exact h3 ((hasK_iff v.key d).2 ⟨u, hu, by rw [e, e2]⟩)
            · exact q1 u (by simp [hu]) e w hw
          · simp only [sumPow, keyPow]
            by_cases e : v.key = k
            · rw [if_pos e, if_pos e, sum_none k r (q1 v (by simp) e)]; omega
            · rw [if_neg e, if_neg e, q2]; omega
theorem set_sum (k : List UInt8) {o : List Vd} (h : setFault o = 0) : sumPow k o = keyPow k o := by
  have ho := setFault_ok h
  unfold setFault at h
  rw [if_neg (by omega), if_neg (by omega)] at h
  exact (sf_keys k o [] h).2
theorem l2157 (l o : List Vd) (x : HB) (j : Nat) (hj : j < l.length) (hp : ∀ v ∈ o, 1 ≤ v.pow ∧ v.pow ≤ 1000) (hs : ∀ v ∈ o, v.key.length ≤ 1000) (n i : Nat) (vs : List Vt) {v : V} : ∀ (r d : List Vd) (t : Nat) (a : Int), o = d ++ r → t = d.length → o.length ≤ 1000000 → 0 ≤ a → a + 1000 * r.length ≤ 4000000000000 →
    loopE C 157 0 [true, true, false, true] [] [(0, V.sl l.length (vsS l)), (1, V.sl o.length (vsS o)), (5, V.ptr 0 0), (7, V.int .i64 (a + sumPow (l.getD j noVd).key r)), (8, V.int .i64 (IntKind.i64.wrap ((i : Int) + 1)))] [Ob.box 55 [V.int .i64 x.hgt, V.int .i64 x.tim, V.sl x.root.length (bytesV x.root), V.sl x.set.length (bytesV x.set), V.sl x.nxt.length (bytesV x.nxt), V.sl n (vtsS vs)] false] = some v →
    loopE C 157 2 [true, true, false, true, false, true, false, false, true, true] [0] [(0, V.sl l.length (vsS l)), (1, V.sl o.length (vsS o)), (5, V.ptr 0 0), (7, V.int .i64 a), (8, V.int .i64 (i : Int)), (9, V.prj (vsS l) (j * 2)), (10, V.int .i64 (t : Int))] [Ob.box 55 [V.int .i64 x.hgt, V.int .i64 x.tim, V.sl x.root.length (bytesV x.root), V.sl x.set.length (bytesV x.set), V.sl x.nxt.length (bytesV x.nxt), V.sl n (vtsS vs)] false] = some v
  | [], d, t, a, hd, ht, hq, h0, h1, hres => by
    have hl : o.length = d.length := by rw [hd]; simp
    refine E157l2 _ _ _ _ _ _ _ _ _ _ _ _ _ _ _ _ _ _ _ ?_
    unfold T157l2
    have : ¬ t < o.length := by omega
    simp only [sumPow, Int.add_zero] at hres
    simp only [S0, this, hres]
  | b :: r, d, t, a, hd, ht, hq, h0, h1, hres => by
    have hl : o.length = d.length + (r.length + 1) := by rw [hd]; simp
    simp only [List.length_cons] at h1
    have hlt : t < o.length := by omega
    have hw := w64_succ (n := t) (by omega)
    have hb := hp b (by rw [hd]; simp)
    have hbl := hs b (by rw [hd]; simp)
    have g0 : (vsS o)[t * 2]? = some (.sl b.key.length (bytesV b.key)) := by rw [hd]; exact vsS_at0 ht b r
    have g1 : (vsS o)[t * 2 + 1]? = some (.int .i64 b.pow) := by rw [hd]; exact vsS_at1 ht b r
    have hvo : (vsS o).length = o.length * 2 := vsS_length o
    have ht2 : t * 2 < o.length * 2 := by omega
    have ke := c82 b.key (l.getD j noVd).key (by omega)
    refine E157l2 _ _ _ _ _ _ _ _ _ _ _ _ _ _ _ _ _ _ _ ?_
    unfold T157l2
    simp only [sumPow] at hres
    by_cases e : b.key = (l.getD j noVd).key
    · rw [decide_eq_true e] at ke
      rw [if_pos e, ← Int.add_assoc] at hres
      have w1 : IntKind.i64.wrap (a + b.pow) = a + b.pow := w64 (by omega) (by omega)
      have ih := l2157 l o x j hj hp hs n i vs r (d ++ [b]) (t + 1) (a + b.pow) (by rw [hd]; simp) (by simp; omega) hq (by omega) (by omega) hres
      simp only [S0, hlt, hvo, ht2, g0, g1, vs_i0 hj, ke, w1, hw, ih]
    · rw [decide_eq_false e] at ke
      rw [if_neg e, Int.zero_add] at hres
      have ih := l2157 l o x j hj hp hs n i vs r (d ++ [b]) (t + 1) a (by rw [hd]; simp) (by simp; omega) hq (by omega) (by omega) hres
      simp only [S0, hlt, hvo, ht2, g0, vs_i0 hj, ke, hw, ih]
theorem l157 (l o : List Vd) (x : HB) (h : setFault o = 0) : ∀ (r d : List Vt) (n i : Nat) (a : Int), n = d.length + r.length → i = d.length → n ≤ 1000000 → 0 ≤ a → a ≤ 1000 * i → inSet l r →
    loopE C 157 0 [true, true, false, true] [] [(0, V.sl l.length (vsS l)), (1, V.sl o.length (vsS o)), (5, V.ptr 0 0), (7, V.int .i64 a), (8, V.int .i64 (i : Int))] [Ob.box 55 [V.int .i64 x.hgt, V.int .i64 x.tim, V.sl x.root.length (bytesV x.root), V.sl x.set.length (bytesV x.set), V.sl x.nxt.length (bytesV x.nxt), V.sl n (vtsS (d ++ r))] false] = some (.tup [.int .i64 (a + sharedP l o r)])
  | [], d, n, i, a, hn, hi, hq, h0, h1, hv => by
    refine E157l1 _ _ _ _ _ _ _ _ _ _ _ _ _ _ _ _ ?_
    unfold T157l1
    have : ¬ i < n := by simp at hn; omega
    simp [this, sharedP]
  | b :: r, d, n, i, a, hn, hi, hq, h0, h1, hv => by
    simp only [List.length_cons] at hn
    have hb := hv b (by simp)
    have ho := setFault_ok h
    obtain ⟨k, hk⟩ : ∃ k : Nat, b.plc = (k : Int) := ⟨b.plc.toNat, by omega⟩
    have hkl : k < l.length := by omega
    have hlt : i < n := by omega
    have hw := w64_succ (n := i) (by omega)
    have hvl : (vsS l).length = l.length * 2 := vsS_length l
    have hk2 : k * 2 < l.length * 2 := by omega
    have hkp := keyPow_bound (l.getD k noVd).key (set_pow h)
    have g0 : (vtsS (d ++ b :: r))[i * 6]? = some (.int .i64 b.plc) := vtsS_at0 hi b r
    have ih := l157 l o x h r (d ++ [b]) n (i + 1) (a + keyPow (l.getD k noVd).key o) (by simp; omega) (by simp; omega) hq (by omega) (by omega) (fun v h => hv v (by simp [h]))
    simp only [List.append_assoc, List.singleton_append] at ih
    have e : sharedP l o (b :: r) = keyPow (l.getD k noVd).key o + sharedP l o r := by simp only [sharedP, hk, Int.toNat_natCast]
    rw [hk] at g0
    rw [e]
    have kk := l2157 l o x k hkl (set_pow h) (fun v hv => by have := (ho.2.2 v hv).1; omega) n i (d ++ b :: r) o [] 0 a rfl rfl (by omega) h0 (by omega) (v := .tup [.int .i64 (a + (keyPow (l.getD k noVd).key o + sharedP l o r))]) (by rw [set_sum _ h, hw, ih, Int.add_assoc])
    refine E157l1 _ _ _ _ _ _ _ _ _ _ _ _ _ _ _ _ ?_
    unfold T157l1
    simp only [S0, hlt, g0, hkl, hvl, hk2]
    exact kk
theorem c157 (l o : List Vd) (x : HB) (vs : List Vt) (ho : setFault o = 0) (hn : vs.length ≤ 5) (hv : inSet l vs) : runE C 157 [.sl l.length (vsS l), .sl o.length (vsS o), .agg [.int .i64 x.hgt, .int .i64 x.tim, .sl x.root.length (bytesV x.root), .sl x.set.length (bytesV x.set), .sl x.nxt.length (bytesV x.nxt), .sl vs.length (vtsS vs)]] = some (.tup [.int .i64 (sharedP l o vs)]) := by
  have kk := l157 l o x ho vs [] vs.length 0 0 (by simp) rfl (by omega) (by omega) (by omega) hv
  rw [Int.zero_add, List.nil_append] at kk
  refine E157 _ _ _ _ _ _ _ _ _ _ _ _ _ _ ?_
  unfold T157
  exact kk
end Go.Proofs.YtodapaplfjfnlaaGreat.Vote
