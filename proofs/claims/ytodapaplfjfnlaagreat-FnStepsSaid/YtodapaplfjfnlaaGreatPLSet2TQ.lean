/-
  Chapters 7 and 8: the faults of heads, sets and trusts, both sides; NewTrust.
-/
import Derived.Test.YtodapaplfjfnlaaGreatPLSetTQ
namespace Go.Proofs.YtodapaplfjfnlaaGreat.Set
open Go Go.PI Go.PI.Sha Go.PI.Rel Go.PI.Nest Go.PI.Tru Go.PI.Set Go.Proofs.YtodapaplfjfnlaaGreat.Sha Go.Proofs.YtodapaplfjfnlaaGreat.By Go.Proofs.YtodapaplfjfnlaaGreat.Nest Go.Proofs.YtodapaplfjfnlaaGreat.Tru EqQ
set_option maxHeartbeats 1000000
set_option linter.unusedVariables false
set_option linter.unusedSimpArgs false
theorem c106 (b : List UInt8) : runE C 106 [.sl b.length (bytesV b)] = some (.tup [.bool (decide (b.length = 32))]) := by
  refine E106 _ _ ?_
  unfold T106
  have : (((b.length : Nat) : Int) == 32) = decide (b.length = 32) := by rw [Bool.eq_iff_iff]; simp; omega
  rw [this]
def notD (b : List UInt8) : Bool := !decide (b.length = 32)
theorem c181 (b : List UInt8) : runE C 181 [.sl b.length (bytesV b)] = some (.tup [.bool (notD b)]) := by
  refine E181 _ _ ?_
  unfold T181
  simp only [S0, c106]
  rfl
theorem lD : ∀ (r d : List (List UInt8)) (n i : Nat), n = d.length + r.length → i = d.length → n < 1000000000 →
    ∃ x : Int, (decide (x ≥ 0) = r.any notD) ∧ loopE C 167 0 [true, false, true] [] [(0, V.sl n (psS (d ++ r))), (1, V.fn 181 []), (7, V.int .i64 (n : Int)), (8, V.int .i64 (i : Int))] [] = some (.tup [.int .i64 x])
  | [], d, n, i, hn, hi, hq => by
    refine ⟨-1, by simp, E167l2 _ _ _ _ ?_⟩
    unfold T167l2
    have : ¬ i < n := by simp at hn; omega
    simp [this]
  | b :: r, d, n, i, hn, hi, hq => by
    simp only [List.length_cons] at hn
    have hlt : i < n := by omega
    have hw := w64_succ (n := i) (by omega)
    have hg : (psS (d ++ b :: r))[i]? = some (bS b) := by subst hi; exact psS_at d b r
    have hl : (psS (d ++ b :: r)).length = n := by rw [psS_length]; simp; omega
    by_cases e : notD b = true
    · refine ⟨i, by simp [e], E167l2 _ _ _ _ ?_⟩
      unfold T167l2
      simp only [S0, hlt, hg, hl, bS, c181, e]
    · obtain ⟨x, h1, ih⟩ := lD r (d ++ [b]) n (i + 1) (by simp; omega) (by simp; omega) hq
      refine ⟨x, by rw [h1]; simp [e], E167l2 _ _ _ _ ?_⟩
      unfold T167l2
      have e : notD b = false := by simpa using e
      simp only [List.append_assoc, List.singleton_append] at ih
      simp only [S0, hlt, hg, hl, bS, c181, e, hw, ih]
theorem iD (l : List (List UInt8)) (h : l.length < 1000000000) : ∃ x : Int, (decide (x ≥ 0) = l.any notD) ∧ runE C 167 [.sl l.length (psS l), .fn 181 []] = some (.tup [.int .i64 x]) := by
  obtain ⟨x, h1, h2⟩ := lD l [] l.length 0 (by simp) rfl h
  refine ⟨x, h1, E167s2 _ _ ?_⟩
  unfold T167s2
  exact h2
theorem cDG (l : List (List UInt8)) (h : l.length < 1000000000) : runE C 104 [.sl l.length (psS l), .fn 181 []] = some (.tup [.bool (l.any notD)]) := by
  obtain ⟨x, h1, h2⟩ := iD l h
  refine E104s2 _ _ ?_
  unfold T104s2
  simp only [S0, h2, h1]
theorem c128 (l : List (List UInt8)) (h : l.length < 1000000000) : runE C 128 [.sl l.length (psS l)] = some (.tup [.bool (!l.any notD)]) := by
  obtain ⟨x, h1, h2⟩ := iD l h
  refine E128 _ _ ?_
  unfold T128
  first
    | (simp only [S0, h2, h1]; done)
    | simp only [S0, cDG l h]
theorem c101 (x : HB) : runE C 101 [.agg [.int .i64 x.hgt, .int .i64 x.tim, .sl x.root.length (bytesV x.root), .sl x.set.length (bytesV x.set), .sl x.nxt.length (bytesV x.nxt)]] = some (.tup [.int .i64 (hbFault x)]) := by
  refine E101 _ _ _ _ _ _ _ _ ?_
  unfold T101
  have k := c128 [x.root, x.set, x.nxt] (by simp)
  have k : runE C 128 [.sl 3 [.sl x.root.length (bytesV x.root), .sl x.set.length (bytesV x.set), .sl x.nxt.length (bytesV x.nxt)]] = _ := k
  unfold hbFault
  by_cases g1 : x.root.length = 32 ∧ x.set.length = 32 ∧ x.nxt.length = 32
  · have e : (!([x.root, x.set, x.nxt] : List (List UInt8)).any notD) = true := by simp [notD, g1]
    rw [e] at k
    simp only [S0, k, c51]
    by_cases g2 : 1 ≤ x.hgt ∧ x.hgt ≤ 1000000 <;> by_cases g3 : 0 ≤ x.tim ∧ x.tim ≤ 1099511627776 <;> simp [g1, g2, g3]
  · have e : (!([x.root, x.set, x.nxt] : List (List UInt8)).any notD) = false := by
      simp only [notD, List.any_cons, List.any_nil, Bool.or_false, Bool.not_eq_false', Bool.or_eq_true, Bool.not_eq_true', decide_eq_false_iff_not]
      omega
    rw [e] at k
    simp only [S0, k]
    simp [g1]
theorem c96 (x : HB) : runE C 96 [.agg [.int .i64 x.hgt, .int .i64 x.tim, .sl x.root.length (bytesV x.root), .sl x.set.length (bytesV x.set), .sl x.nxt.length (bytesV x.nxt)]] = some (.tup [.int .i64 (hbFault x)]) := by
  refine E96 _ _ _ _ _ _ _ _ ?_
  unfold T96
  unfold hbFault
  have z : ∀ n : Nat, ((n : Int) != 32) = !decide (n = 32) := fun n => by rw [Bool.eq_iff_iff]; simp; omega
  simp only [z, c98, S0]
  by_cases g1 : x.root.length = 32 <;> by_cases g1' : x.set.length = 32 <;> by_cases g1'' : x.nxt.length = 32 <;> by_cases g2 : 1 ≤ x.hgt ∧ x.hgt ≤ 1000000 <;> by_cases g3 : 0 ≤ x.tim ∧ x.tim ≤ 1099511627776 <;> simp [g1, g1', g1'', g2, g3]
theorem c201 (v : Vd) (k : List UInt8) : runE C 201 [.agg [.sl v.key.length (bytesV v.key), .int .i64 v.pow], .pin [.sl k.length (bytesV k)] 0] = some (.tup [.bool (decide (v.key = k))]) := by
  refine E201 _ _ _ _ _ ?_
  unfold T201
  simp only [S0, c76]
theorem lK (k : List UInt8) : ∀ (r d : List Vd) (n i : Nat), n = d.length + r.length → i = d.length → n < 1000000000 →
    loopE C 200 0 [true, false, true] [] [(0, V.sl n (vsS (d ++ r))), (1, V.fn 201 [V.pin [V.sl k.length (bytesV k)] 0]), (7, V.int .i64 (n : Int)), (8, V.int .i64 (i : Int))] [] = some (.tup [.int .i64 (kAt k r i)])
  | [], d, n, i, hn, hi, hq => by
    refine E200l1 _ _ _ _ _ _ ?_
    unfold T200l1
    have : ¬ i < n := by simp at hn; omega
    simp [this, kAt]
  | b :: r, d, n, i, hn, hi, hq => by
    simp only [List.length_cons] at hn
    have hlt : i < n := by omega
    have hw := w64_succ (n := i) (by omega)
    have ih := lK k r (d ++ [b]) n (i + 1) (by simp; omega) (by simp; omega) hq
    have g0 := vsS_at0 hi b r
    have g1 := vsS_at1 hi b r
    refine E200l1 _ _ _ _ _ _ ?_
    unfold T200l1
    simp only [List.append_assoc, List.singleton_append] at ih
    simp only [S0, hlt, g0, g1, c201, hw, ih, kAt]
    by_cases e : b.key = k <;> simp [e]
theorem c166 (l : List Vd) (k : List UInt8) (h : l.length < 1000000000) : runE C 166 [.sl l.length (vsS l), .sl k.length (bytesV k)] = some (.tup [.int .i64 (kAt k l 0)]) := by
  have j : runE C 200 [.sl l.length (vsS l), .fn 201 [.pin [.sl k.length (bytesV k)] 0]] = some (.tup [.int .i64 (kAt k l 0)]) := by
    refine E200 _ _ _ _ ?_
    unfold T200
    exact lK k l [] l.length 0 (by simp) rfl h
  refine E166 _ _ _ _ ?_
  unfold T166
  simp only [S0, j]
theorem vsS_take (d : List Vd) (v : Vd) (r : List Vd) : (vsS (d ++ v :: r)).take (d.length * 2) = vsS d := by
  have := rows_take vdS vdS2 d.length (d ++ v :: r)
  unfold vsS
  rw [this]
  simp
theorem l102 : ∀ (r d : List Vd) (n i : Nat), n = d.length + r.length → i = d.length → n < 1000000000 →
    loopE C 102 1 [true, true, false, true] [] [(0, V.sl n (vsS (d ++ r))), (13, V.sl n (vsS (d ++ r))), (14, V.int .i64 (n : Int)), (15, V.int .i64 (i : Int))] [] = some (.tup [.int .i64 (sf d r)])
  | [], d, n, i, hn, hi, hq => by
    refine E102l1 _ _ _ _ _ _ ?_
    unfold T102l1
    have : ¬ i < n := by simp at hn; omega
    simp [this, sf]
  | b :: r, d, n, i, hn, hi, hq => by
    simp only [List.length_cons] at hn
    have hlt : i < n := by omega
    have hle : (i : Int) ≤ (n : Int) := by omega
    have hw := w64_succ (n := i) (by omega)
    have ih := l102 r (d ++ [b]) n (i + 1) (by simp; omega) (by simp; omega) hq
    have g0 := vsS_at0 hi b r
    have g1 := vsS_at1 hi b r
    have ht : (vsS (d ++ b :: r)).take (i * 2) = vsS d := by subst hi; exact vsS_take d b r
    have hk := c166 d b.key (by omega)
    rw [← hi] at hk
    refine E102l1 _ _ _ _ _ _ ?_
    unfold T102l1
    simp only [List.append_assoc, List.singleton_append] at ih
    have e2 : decide (kAt b.key d 0 ≥ 0) = hasK b.key d := kAt_has _ _
    simp only [S0, hlt, g0, g1, c106, c51, List.drop_zero, ht, hle, Int.natCast_nonneg, hk, e2, hw, ih, sf]
    by_cases c1 : b.key.length = 32 <;> by_cases c2 : 1 ≤ b.pow ∧ b.pow ≤ 1000 <;> by_cases c3 : hasK b.key d = true <;> simp [c1, c2, c3]
theorem c102 (l : List Vd) (h : l.length < 1000000000) : runE C 102 [.sl l.length (vsS l)] = some (.tup [.int .i64 (setFault l)]) := by
  refine E102 _ _ ?_
  unfold T102
  have := l102 l [] l.length 0 (by simp) rfl h
  unfold setFault
  by_cases c1 : l.length = 0
  · simp [c1]
  · have c1' : ((l.length : Int) == 0) = false := beq_f (by omega)
    by_cases c2 : 5 < l.length
    · have c2' : (l.length : Int) > 5 := by omega
      simp [c1, c1', c2, c2']
    · have c2' : ¬ (l.length : Int) > 5 := by omega
      rw [if_neg c1, if_neg c2, c1', decide_eq_false c2']
      exact this
theorem l297 (v : Vd) (d r : List Vd) (n i : Nat) (hn : n = d.length + (r.length + 1)) (hi : i = d.length) (hq : n < 1000000000) (hv : ∀ u ∈ d ++ v :: r, u.key.length < 1000000000)
    (hnext : loopE C 97 0 [true, true, true, false, true] [] [(0, V.sl n (vsS (d ++ v :: r))), (3, V.int .i64 ((i + 1 : Nat) : Int))] [] = some (.tup [.int .i64 (sf (d ++ [v]) r)])) :
    ∀ (r2 d2 : List Vd) (j : Nat), d = d2 ++ r2 → j = d2.length →
    loopE C 97 2 [true, true, true, false, true, false, true, false, false, true, true, true] [0] [(0, V.sl n (vsS (d ++ v :: r))), (3, V.int .i64 (i : Int)), (4, V.int .i64 (j : Int))] [] = some (.tup [.int .i64 (if hasK v.key r2 = true then 7 else sf (d ++ [v]) r)])
  | [], d2, j, hd, hj => by
    refine E97l2 _ _ _ _ ?_
    unfold T97l2
    have : ¬ j < i := by rw [hd] at hi; simp at hi; omega
    have hw := w64_succ (n := i) (by omega)
    simp only [S0, this, hw, hnext]
    simp [hasK]
  | b :: r2, d2, j, hd, hj => by
    have hji : j < i := by rw [hi, hd, hj]; simp
    have hjn : j < n := by omega
    have hin : i < n := by omega
    have hw := w64_succ (n := j) (by omega)
    have ih := l297 v d r n i hn hi hq hv hnext r2 (d2 ++ [b]) (j + 1) (by rw [hd]; simp) (by simp; omega)
    have g0 : (vsS (d ++ v :: r))[j * 2]? = some (.sl b.key.length (bytesV b.key)) := by
      rw [hd, List.append_assoc, List.cons_append]
      exact vsS_at0 hj b (r2 ++ v :: r)
    have g1 := vsS_at0 hi v r
    have hl : (vsS (d ++ v :: r)).length = n * 2 := by rw [vsS_length]; simp; omega
    have l1 : j * 2 < n * 2 := by omega
    have l2 : i * 2 < n * 2 := by omega
    have hb : b.key.length < 1000000000 := hv b (by rw [hd]; simp)
    refine E97l2 _ _ _ _ ?_
    unfold T97l2
    have eh : hasK v.key (b :: r2) = (decide (b.key = v.key) || hasK v.key r2) := by simp [hasK]
    simp only [S0, hji, hjn, hin, hl, l1, l2, g0, g1, c82 b.key v.key (by omega), hw, ih, eh]
    by_cases e : b.key = v.key <;> simp [e]
theorem l97 : ∀ (r d : List Vd) (n i : Nat), n = d.length + r.length → i = d.length → n < 1000000000 → (∀ u ∈ d ++ r, u.key.length < 1000000000) →
    loopE C 97 0 [true, true, true, false, true] [] [(0, V.sl n (vsS (d ++ r))), (3, V.int .i64 (i : Int))] [] = some (.tup [.int .i64 (sf d r)])
  | [], d, n, i, hn, hi, hq, hv => by
    refine E97l1 _ _ _ ?_
    unfold T97l1
    have : ¬ i < n := by simp at hn; omega
    simp [this, sf]
  | b :: r, d, n, i, hn, hi, hq, hv => by
    simp only [List.length_cons] at hn
    have hlt : i < n := by omega
    have ih := l97 r (d ++ [b]) n (i + 1) (by simp; omega) (by simp; omega) hq (by simpa using hv)
    simp only [List.append_assoc, List.singleton_append] at ih
    have inner := l297 b d r n i hn hi hq hv ih d [] 0 rfl rfl
    have g0 := vsS_at0 hi b r
    have g1 := vsS_at1 hi b r
    have hl : (vsS (d ++ b :: r)).length = n * 2 := by rw [vsS_length]; simp; omega
    have l1 : i * 2 < n * 2 := by omega
    have z : ((b.key.length : Int) != 32) = !decide (b.key.length = 32) := by rw [Bool.eq_iff_iff]; simp; omega
    have inner : loopE C 97 2 [true, true, true, false, true, false, true, false, false, true, true, true] [0] [(0, V.sl n (vsS (d ++ b :: r))), (3, V.int .i64 (i : Int)), (4, V.int .i64 0)] [] = _ := inner
    refine E97l1 _ _ _ ?_
    unfold T97l1
    simp only [S0, hlt, hl, l1, g0, g1, z, c98, inner, sf]
    by_cases c1 : b.key.length = 32 <;> by_cases c2 : 1 ≤ b.pow ∧ b.pow ≤ 1000 <;> simp [c1, c2]
theorem c97 (l : List Vd) (hf : fitV l) : runE C 97 [.sl l.length (vsS l)] = some (.tup [.int .i64 (setFault l)]) := by
  refine E97 _ _ ?_
  unfold T97
  have := l97 l [] l.length 0 (by simp) rfl (by have := hf.1; omega) (fun u hu => by have := le_tot kl (l := l) (by simpa using hu); have := hf.2; unfold kl at *; omega)
  unfold setFault
  by_cases c1 : l.length = 0
  · simp [c1]
  · have c1' : ((l.length : Int) == 0) = false := beq_f (by omega)
    by_cases c2 : 5 < l.length
    · have c2' : (l.length : Int) > 5 := by omega
      simp [c1, c1', c2, c2']
    · have c2' : ¬ (l.length : Int) > 5 := by omega
      rw [if_neg c1, if_neg c2, c1', decide_eq_false c2']
      exact this
end Go.Proofs.YtodapaplfjfnlaaGreat.Set
