/-
  Validators, heads that validators sign, trusts: sizes, copies, sameness, marks.
-/
import Derived.Test.YtgbpimaidhhnjaaGreatPLNestTX
import Derived.Test.YtgbpimaidhhnjaaGreatPMTrust
namespace Go.Proofs.YtgbpimaidhhnjaaGreat.Tru
open Go Go.PI Go.PI.Sha Go.PI.Rel Go.PI.Nest Go.PI.Tru Go.Proofs.YtgbpimaidhhnjaaGreat.Sha Go.Proofs.YtgbpimaidhhnjaaGreat.By Go.Proofs.YtgbpimaidhhnjaaGreat.Nest EqX
set_option maxHeartbeats 1000000
set_option linter.unusedVariables false
set_option linter.unusedSimpArgs false
theorem c32 (v : Vd) (left : Int) (h : v.key.length ≤ 9223372036854775807) (h1 : 0 ≤ left) (h2 : left ≤ 4611686018427387904) :
    runE C 32 [.agg [.sl v.key.length (bytesV v.key), .int .i64 v.pow], .int .i64 left] = some (.tup [.int .i64 (if left < v.key.length then -1 else left - v.key.length)]) := by
  refine E32 _ _ _ _ ?_
  unfold T32
  have k := c69 v.key.length (bytesV v.key) left h h1 h2
  by_cases g : left < v.key.length
  · rw [if_pos g] at k ⊢
    simp only [S0, k]
    rfl
  · rw [if_neg g] at k ⊢
    have n1 : ¬ (left - (v.key.length : Int) < 0) := by omega
    simp only [S0, k, n1]
theorem l8 : ∀ (r d : List Vd) (left : Int) (n i : Nat), n = d.length + r.length → i = d.length → n ≤ 4611686018427387904 → (∀ v ∈ r, v.key.length ≤ 9223372036854775807) → 0 ≤ left → left ≤ 4611686018427387904 →
    loopE C 8 0 [true, true, true, false, true] [] [(0, V.sl n (vsS (d ++ r))), (1, V.int .i64 left), (5, V.int .i64 (i : Int))] [] = some (.tup [.int .i64 (less left (tot kl r))])
  | [], d, left, n, i, hn, hi, hq, hv, h1, h2 => by
    refine E8l1 _ _ _ _ ?_
    unfold T8l1
    have : ¬ i < n := by simp at hn; omega
    rw [less_ge (by simp [tot]; omega)]
    simp [this, tot]
  | v :: r, d, left, n, i, hn, hi, hq, hv, h1, h2 => by
    simp only [List.length_cons] at hn
    have hlt : i < n := by omega
    have hw := w64_succ (n := i) (by omega)
    have g0 := vsS_at0 hi v r
    have g1 := vsS_at1 hi v r
    have k := c32 v left (hv v (by simp)) h1 h2
    have et : tot kl (v :: r) = v.key.length + tot kl r := rfl
    rw [et]
    refine E8l1 _ _ _ _ ?_
    unfold T8l1
    by_cases g : left < v.key.length
    · rw [if_pos g] at k
      rw [less_lt (by omega)]
      simp only [S0, hlt, g0, g1, k]
      rfl
    · rw [if_neg g] at k
      have n1 : ¬ (left - (v.key.length : Int) < 0) := by omega
      have ih := l8 r (d ++ [v]) (left - v.key.length) n (i + 1) (by simp; omega) (by simp; omega) hq (fun u hu => hv u (by simp [hu])) (by omega) (by omega)
      rw [less_less g] at ih
      simp only [List.append_assoc, List.singleton_append] at ih
      simp only [S0, hlt, g0, g1, k, n1, hw, ih]
theorem c8 (l : List Vd) (left : Int) (h : l.length ≤ 9223372036854775807) (hv : ∀ v ∈ l, v.key.length ≤ 9223372036854775807) (h1 : 0 ≤ left) (h2 : left ≤ 4611686018427387904) :
    runE C 8 [.sl l.length (vsS l), .int .i64 left] = some (.tup [.int .i64 (less left (l.length + tot kl l))]) := by
  refine E8 _ _ _ ?_
  unfold T8
  rw [w64 (by omega) (by omega)]
  by_cases g : left < (l.length : Int)
  · rw [less_lt (by omega), decide_eq_true (by omega)]
    rfl
  · have k := l8 l [] (left - l.length) l.length 0 (by simp) rfl (by omega) hv (by omega) (by omega)
    rw [less_less g] at k
    rw [decide_eq_false (by omega)]
    exact k
theorem c44 (v : Vd) (h : v.key.length ≤ 100000000) : runE C 44 [.agg [.sl v.key.length (bytesV v.key), .int .i64 v.pow]] = some (.tup [.osl v.key.length (bytesV v.key), .int .i64 v.pow]) := by
  refine E44 _ _ _ ?_
  unfold T44
  simp only [S0, c86 v.key (by omega)]
theorem l12 : ∀ (r d : List Vd) (n i : Nat), n = d.length + r.length → i = d.length → n < 1000000000 → tot kl r ≤ 100000000 →
    loopE C 12 0 [true, true, false, true] [] [(0, V.sl n (vsS (d ++ r))), (3, V.ref 0), (4, V.int .i64 (i : Int))] [Ob.nrow [] 78 n (prt vdO zV d r.length)] = some (.tup [.osl n (vsO (d ++ r))])
  | [], d, n, i, hn, hi, hq, ht => by
    refine E12l1 _ _ _ _ _ ?_
    unfold T12l1
    have : ¬ i < n := by simp at hn; omega
    rw [List.length_nil, prt_full]
    simp [this, vsO]
  | v :: r, d, n, i, hn, hi, hq, ht => by
    simp only [List.length_cons] at hn ⊢
    simp only [tot, kl] at ht
    have ih := l12 r (d ++ [v]) n (i + 1) (by simp; omega) (by simp; omega) hq (by omega)
    refine E12l1 _ _ _ _ _ ?_
    unfold T12l1
    have hlt : i < n := by omega
    have hw := w64_succ (n := i) (by omega)
    have g0 := vsS_at0 hi v r
    have g1 := vsS_at1 hi v r
    have hs : splice (prt vdO zV d (r.length + 1)) (i * 2) [V.own false 5 1 v.key.length (bytesV v.key), V.int .i64 v.pow] = prt vdO zV (d ++ [v]) r.length := by subst hi; exact vs_part d v r.length
    have hl : (prt vdO zV d (r.length + 1)).length = n * 2 := by rw [prt_length vdO vdO2 (z := zV) rfl]; congr 1; omega
    have hb : i * 2 + (0 + 1 + 1) ≤ n * 2 := by omega
    simp only [List.append_assoc, List.singleton_append] at ih
    simp only [S0, hlt, g0, g1, c44 v (by omega), hl, hs, hw, ih]
    simp only [hb, S0]
theorem c12 (l : List Vd) (hf : fitV l) : runE C 12 [.sl l.length (vsS l)] = some (.tup [.osl l.length (vsO l)]) := by
  refine E12 _ _ ?_
  unfold T12
  have := l12 l [] l.length 0 (by simp) rfl (by have := hf.1; omega) hf.2
  rw [prt_zero] at this
  rw [must_of (by have := hf.1; simp; omega)]
  simpa [zV] using this
theorem c55 (v u : Vd) (h : v.key.length < 4611686018427387904) : runE C 55 [.agg [.sl v.key.length (bytesV v.key), .int .i64 v.pow], .agg [.sl u.key.length (bytesV u.key), .int .i64 u.pow]] = some (.tup [.bool (decide (v = u))]) := by
  refine E55 _ _ _ _ _ _ ?_
  unfold T55
  simp only [S0, c104 v.key u.key h]
  obtain ⟨a, b⟩ := v
  obtain ⟨c, d⟩ := u
  simp only [Vd.mk.injEq]
  by_cases e1 : a = c <;> by_cases e2 : b = d <;> simp [e1, e2, bne_t]
theorem l17 : ∀ (r r' d d' : List Vd) (n i : Nat), n = d.length + r.length → r.length = r'.length → d'.length = d.length → i = d.length → n < 1000000000 → tot kl r ≤ 1000000000 →
    loopE C 17 0 [true, true, false, true] [] [(0, V.sl n (vsS (d ++ r))), (1, V.sl n (vsS (d' ++ r'))), (5, V.int .i64 (i : Int))] [] = some (.tup [.bool (decide (r = r'))])
  | [], [], d, d', n, i, hn, hr, hd, hi, hq, ht => by
    refine E17l1 _ _ _ _ _ ?_
    unfold T17l1
    have : ¬ i < n := by simp at hn; omega
    simp [this]
  | [], _ :: _, d, d', n, i, hn, hr, hd, hi, hq, ht => by simp at hr
  | _ :: _, [], d, d', n, i, hn, hr, hd, hi, hq, ht => by simp at hr
  | b :: r, b' :: r', d, d', n, i, hn, hr, hd, hi, hq, ht => by
    simp only [List.length_cons] at hn hr
    simp only [tot, kl] at ht
    have ih := l17 r r' (d ++ [b]) (d' ++ [b']) n (i + 1) (by simp; omega) (by omega) (by simp [hd]) (by simp; omega) hq (by omega)
    refine E17l1 _ _ _ _ _ ?_
    unfold T17l1
    have hlt : i < n := by omega
    have hw := w64_succ (n := i) (by omega)
    have g0 := vsS_at0 hi b r
    have g1 := vsS_at1 hi b r
    have g2 := vsS_at0 (hi.trans hd.symm) b' r'
    have g3 := vsS_at1 (hi.trans hd.symm) b' r'
    simp only [List.append_assoc, List.singleton_append] at ih
    rw [dec_cons]
    simp only [S0, hlt, g0, g1, g2, g3, c55 b b' (by omega), hw, ih]
    by_cases e : b = b' <;> simp [e]
theorem c17 (a b : List Vd) (hf : fitV a) : runE C 17 [.sl a.length (vsS a), .sl b.length (vsS b)] = some (.tup [.bool (decide (a = b))]) := by
  refine E17 _ _ _ _ ?_
  unfold T17
  by_cases e : a.length = b.length
  · have := l17 a b [] [] a.length 0 (by simp) e rfl rfl (by have := hf.1; omega) (by have := hf.2; omega)
    simp only [List.nil_append] at this
    rw [← e]
    simpa using this
  · have h1 : a ≠ b := fun h => e (by rw [h])
    have h2 : ((a.length : Int) != (b.length : Int)) = true := by simp; omega
    simp [h1, h2]
theorem l20 : ∀ (r d : List Vd) (k : Int) (n i : Nat), n = d.length + r.length → i = d.length → 0 ≤ k → k + cV r < 4611686017427387904 → n < 1000000000 → tot kl r < 1000000000 →
    loopWE C 20 [0] [Ob.nrow [] 78 0 []] 0 [true, false, true] [] [(0, V.ref 0), (1, V.int .i64 k), (5, V.int .i64 (i : Int))] [Ob.nrow [] 78 n (vsO (d ++ r))] = some (.tup [.int .i64 (k + cV r), .osl n (vsO (d ++ mkVs k r))])
  | [], d, k, n, i, hn, hi, hk, hk2, hq, ht => by
    refine E20l1 _ _ _ _ ?_
    unfold T20l1
    have : ¬ i < n := by simp at hn; omega
    simp [this, mkVs, cV, tot]
  | v :: r, d, k, n, i, hn, hi, hk, hk2, hq, ht => by
    simp only [List.length_cons] at hn
    have ec : cV (v :: r) = v.key.length + 1 + cV r := rfl
    rw [ec] at hk2 ⊢
    simp only [tot, kl] at ht
    have ih := l20 r (d ++ [⟨mkB k v.key.length, k + v.key.length⟩]) (k + v.key.length + 1) n (i + 1) (by simp; omega) (by simp; omega) (by omega) (by omega) hq (by omega)
    refine E20l1 _ _ _ _ ?_
    unfold T20l1
    have hlt : i < n := by omega
    have hw := w64_succ (n := i) (by omega)
    have g0 := vsO_at0 hi v r
    have hs : (vsO (d ++ v :: r)).set (i * 2) (V.own false 5 1 v.key.length (bytesV (mkB k v.key.length))) = vsO (d ++ ⟨mkB k v.key.length, v.pow⟩ :: r) := by
      subst hi
      have := vsO_set0 d v r (mkB k v.key.length)
      simpa using this
    have hs1 : splice (vsO (d ++ ⟨mkB k v.key.length, v.pow⟩ :: r)) (i * 2 + 1) [V.int .i64 (k + v.key.length)] = vsO (d ++ ⟨mkB k v.key.length, k + v.key.length⟩ :: r) := by
      subst hi; exact vsO_set1 d _ r _
    have hl : (vsO (d ++ ⟨mkB k v.key.length, v.pow⟩ :: r)).length = n * 2 := by rw [vsO_len]; congr 1; omega
    have hb : i * 2 + 1 + (0 + 1) ≤ n * 2 := by omega
    have hk' : IntKind.i64.wrap (k + v.key.length + 1) = k + v.key.length + 1 := w64 (by omega) (by omega)
    have e1 : k + (v.key.length : Int) + 1 + (cV r : Int) = k + ((v.key.length + 1 + cV r : Nat) : Int) := by omega
    simp only [List.append_assoc, List.singleton_append, e1] at ih
    simp only [S0, hlt, g0, asOwn_own, c59 v.key k hk (by omega) (by omega), hs, hl, hs1, hw, hk', mkVs, ih]
    simp only [hb, S0]
theorem c20 (l : List Vd) (k : Int) (hk : 0 ≤ k) (hk2 : k < 4611686016427387904) (hf : fitV l) :
    runWE C 20 [0] [.ref 0, .int .i64 k] [.nrow [] 78 l.length (vsO l)] = some (.tup [.int .i64 (k + cV l), .osl l.length (vsO (mkVs k l))]) := by
  refine E20 _ _ _ ?_
  unfold T20
  have := cV_le l
  exact l20 l [] k l.length 0 (by simp) rfl hk (by have := hf.1; have := hf.2; omega) (by have := hf.1; omega) (by have := hf.2; omega)
theorem l107 : ∀ (r d : List Vd) (k : Int) (n i : Nat), n = d.length + r.length → i = d.length → 0 ≤ k → k + cV r < 4611686017427387904 → n < 1000000000 → tot kl r < 1000000000 →
    loopE C 107 0 [true, false, true] [] [(0, V.sl n (vsS (d ++ mkVs k r))), (1, V.int .i64 k), (5, V.int .i64 (i : Int))] [] = some (.tup [.int .i64 (k + cV r)])
  | [], d, k, n, i, hn, hi, hk, hk2, hq, ht => by
    refine E107l1 _ _ _ _ ?_
    unfold T107l1
    have : ¬ i < n := by simp at hn; omega
    simp [this, mkVs, cV, tot]
  | v :: r, d, k, n, i, hn, hi, hk, hk2, hq, ht => by
    simp only [List.length_cons] at hn
    have ec : cV (v :: r) = v.key.length + 1 + cV r := rfl
    rw [ec] at hk2 ⊢
    simp only [tot, kl] at ht
    have ih := l107 r (d ++ [⟨mkB k v.key.length, k + v.key.length⟩]) (k + v.key.length + 1) n (i + 1) (by simp; omega) (by simp; omega) (by omega) (by omega) hq (by omega)
    refine E107l1 _ _ _ _ ?_
    unfold T107l1
    have hlt : i < n := by omega
    have hw := w64_succ (n := i) (by omega)
    simp only [mkVs]
    have g0 := vsS_at0 hi (⟨mkB k v.key.length, k + v.key.length⟩ : Vd) (mkVs (k + v.key.length + 1) r)
    have g1 := vsS_at1 hi (⟨mkB k v.key.length, k + v.key.length⟩ : Vd) (mkVs (k + v.key.length + 1) r)
    have hl : (vsS (d ++ ⟨mkB k v.key.length, k + v.key.length⟩ :: mkVs (k + v.key.length + 1) r)).length = n * 2 := by rw [vsS_length]; simp [mkVs_length]; omega
    have hb : i * 2 < n * 2 := by omega
    have hk' : IntKind.i64.wrap (k + v.key.length + 1) = k + v.key.length + 1 := w64 (by omega) (by omega)
    have e1 : k + (v.key.length : Int) + 1 + (cV r : Int) = k + ((v.key.length + 1 + cV r : Nat) : Int) := by omega
    have e2 : ¬ (k + (v.key.length : Int) < 0) := by omega
    simp only [List.append_assoc, List.singleton_append, e1] at ih
    simp only [S0, hlt, hl, hb, g0, g1, mkB_length, c130 v.key.length k hk (by omega) (by omega), e2, bne_f, hw, hk', ih]
theorem c107 (l : List Vd) (k : Int) (hk : 0 ≤ k) (hk2 : k < 4611686016427387904) (hf : fitV l) :
    runE C 107 [.sl l.length (vsS (mkVs k l)), .int .i64 k] = some (.tup [.int .i64 (k + cV l)]) := by
  refine E107 _ _ _ ?_
  unfold T107
  have := cV_le l
  exact l107 l [] k l.length 0 (by simp) rfl hk (by have := hf.1; have := hf.2; omega) (by have := hf.1; omega) (by have := hf.2; omega)
theorem l102 : ∀ (r d : List Vd) (n i : Nat), n = d.length + r.length → i = d.length → n < 1000000000 → tot kl r ≤ 1000000000 →
    loopE C 102 0 [true, true, false, true] [] [(3, V.ref 0), (7, V.sl n (vsS (d ++ r))), (8, V.int .i64 (n : Int)), (9, V.int .i64 (i : Int))] [Ob.nrow [] 78 i (vsO d)] = some (.tup [.osl n (vsO (d ++ r))])
  | [], d, n, i, hn, hi, hq, ht => by
    refine E102l1 _ _ _ _ _ _ ?_
    unfold T102l1
    have e : i = n := by simp at hn; omega
    have : ¬ n < n := by omega
    subst e
    simp [this]
  | b :: r, d, n, i, hn, hi, hq, ht => by
    simp only [List.length_cons] at hn
    simp only [tot, kl] at ht
    have ih := l102 r (d ++ [b]) n (i + 1) (by simp; omega) (by simp; omega) hq (by omega)
    refine E102l1 _ _ _ _ _ _ ?_
    unfold T102l1
    have hlt : i < n := by omega
    have hw := w64_succ (n := i) (by omega)
    have g0 := vsS_at0 hi b r
    have g1 := vsS_at1 hi b r
    have d1 : i + 1 ≤ 140737488355328 := by omega
    have d2 : (i + 1) * 32 ≤ 140737488355328 := by omega
    simp only [List.append_assoc, List.singleton_append] at ih
    simp only [S0, hlt, g0, g1, c128 b.key (by omega), hw, d1, d2, vsO_snoc, ih]
theorem c102 (l : List Vd) (hf : fitV l) : runE C 102 [.sl l.length (vsS l)] = some (.tup [.osl l.length (vsO l)]) := by
  refine E102 _ _ ?_
  unfold T102
  exact l102 l [] l.length 0 (by simp) rfl (by have := hf.1; omega) (by have := hf.2; omega)
theorem l84 : ∀ (r d : List Vd) (n i : Nat), n = d.length + r.length → i = d.length → n < 1000000000 → tot kl r ≤ 1000000000 →
    loopE C 84 0 [true, true, false, true] [] [(0, V.sl n (vsS (d ++ r))), (3, V.ref 0), (4, V.int .i64 (i : Int))] [Ob.row 78 i (vsS d) false] = some (.tup [.osl n (vsS (d ++ r))])
  | [], d, n, i, hn, hi, hq, ht => by
    refine E84l1 _ _ _ _ _ ?_
    unfold T84l1
    have e : i = n := by simp at hn; omega
    have : ¬ n < n := by omega
    subst e
    simp [this]
  | b :: r, d, n, i, hn, hi, hq, ht => by
    simp only [List.length_cons] at hn
    simp only [tot, kl] at ht
    have ih := l84 r (d ++ [b]) n (i + 1) (by simp; omega) (by simp; omega) hq (by omega)
    refine E84l1 _ _ _ _ _ ?_
    unfold T84l1
    have hlt : i < n := by omega
    have hw := w64_succ (n := i) (by omega)
    have g0 := vsS_at0 hi b r
    have g1 := vsS_at1 hi b r
    have hl : (vsS (d ++ b :: r)).length = n * 2 := by rw [vsS_length]; simp; omega
    have hb : i * 2 < n * 2 := by omega
    have d0 : b.key.length ≤ 140737488355328 := by omega
    have d1 : i + 1 ≤ 140737488355328 := by omega
    have d2 : (i + 1) * 32 ≤ 140737488355328 := by omega
    simp only [List.append_assoc, List.singleton_append] at ih
    simp only [S0, hlt, hl, hb, g0, g1, hw, d0, d1, d2, vsS_snoc, ih]
theorem c84 (l : List Vd) (hf : fitV l) : runE C 84 [.sl l.length (vsS l)] = some (.tup [.osl l.length (vsS l)]) := by
  refine E84 _ _ ?_
  unfold T84
  exact l84 l [] l.length 0 (by simp) rfl (by have := hf.1; omega) (by have := hf.2; omega)
theorem c30 (x : HB) (left : Int) (h : x.root.length ≤ 9223372036854775807 ∧ x.set.length ≤ 9223372036854775807 ∧ x.nxt.length ≤ 9223372036854775807) (h1 : 0 ≤ left) (h2 : left ≤ 4611686018427387904) :
    runE C 30 [.agg [.int .i64 x.hgt, .int .i64 x.tim, .sl x.root.length (bytesV x.root), .sl x.set.length (bytesV x.set), .sl x.nxt.length (bytesV x.nxt)], .int .i64 left] = some (.tup [.int .i64 (less left (szH x))]) := by
  refine E30 _ _ _ _ _ _ _ _ _ ?_
  unfold T30
  have k1 := c69 x.root.length (bytesV x.root) left h.1 h1 h2
  by_cases g1 : left < x.root.length
  · rw [if_pos g1] at k1
    rw [less_lt (by unfold szH; omega)]
    simp only [S0, k1]
    rfl
  rw [if_neg g1] at k1
  have n1 : ¬ (left - (x.root.length : Int) < 0) := by omega
  have k2 := c69 x.set.length (bytesV x.set) (left - x.root.length) h.2.1 (by omega) (by omega)
  by_cases g2 : left - (x.root.length : Int) < x.set.length
  · rw [if_pos g2] at k2
    rw [less_lt (by unfold szH; omega)]
    simp only [S0, k1, n1, k2]
    rfl
  rw [if_neg g2] at k2
  have n2 : ¬ (left - (x.root.length : Int) - (x.set.length : Int) < 0) := by omega
  have k3 := c69 x.nxt.length (bytesV x.nxt) (left - x.root.length - x.set.length) h.2.2 (by omega) (by omega)
  by_cases g3 : left - (x.root.length : Int) - (x.set.length : Int) < x.nxt.length
  · rw [if_pos g3] at k3
    rw [less_lt (by unfold szH; omega)]
    simp only [S0, k1, n1, k2, n2, k3]
    rfl
  rw [if_neg g3] at k3
  have n3 : ¬ (left - (x.root.length : Int) - (x.set.length : Int) - (x.nxt.length : Int) < 0) := by omega
  rw [less_ge (by unfold szH; omega)]
  have e : left - (x.root.length : Int) - (x.set.length : Int) - (x.nxt.length : Int) = left - (szH x : Int) := by unfold szH; omega
  rw [e] at k3 n3
  simp only [S0, k1, n1, k2, n2, k3, n3]
theorem c42 (x : HB) (h : fitH x) : runE C 42 [.agg [.int .i64 x.hgt, .int .i64 x.tim, .sl x.root.length (bytesV x.root), .sl x.set.length (bytesV x.set), .sl x.nxt.length (bytesV x.nxt)]] = some (.tup [.int .i64 x.hgt, .int .i64 x.tim, .osl x.root.length (bytesV x.root), .osl x.set.length (bytesV x.set), .osl x.nxt.length (bytesV x.nxt)]) := by
  refine E42 _ _ _ _ _ _ _ _ ?_
  unfold T42
  unfold fitH szH at h
  simp only [S0, c86 x.root (by omega), c86 x.set (by omega), c86 x.nxt (by omega)]
theorem c53 (x y : HB) (h : fitH x) : runE C 53 [.agg [.int .i64 x.hgt, .int .i64 x.tim, .sl x.root.length (bytesV x.root), .sl x.set.length (bytesV x.set), .sl x.nxt.length (bytesV x.nxt)], .agg [.int .i64 y.hgt, .int .i64 y.tim, .sl y.root.length (bytesV y.root), .sl y.set.length (bytesV y.set), .sl y.nxt.length (bytesV y.nxt)]] = some (.tup [.bool (decide (x = y))]) := by
  refine E53 _ _ _ _ _ _ _ _ _ _ _ _ _ _ _ _ ?_
  unfold T53
  unfold fitH szH at h
  simp only [S0, c104 x.root y.root (by omega), c104 x.set y.set (by omega), c104 x.nxt y.nxt (by omega)]
  obtain ⟨a, b, c, d, e⟩ := x
  obtain ⟨a', b', c', d', e'⟩ := y
  simp only [HB.mk.injEq]
  by_cases e1 : a = a' <;> by_cases e2 : b = b' <;> by_cases e3 : c = c' <;> by_cases e4 : d = d' <;> by_cases e5 : e = e' <;> simp [e1, e2, e3, e4, e5, bne_t]
theorem c57 (x : HB) (k : Int) (hk : 0 ≤ k) (hk2 : k < 4611686014427387904) (h : fitH x) :
    runWE C 57 [0, 1, 2] [.agg [.int .i64 x.hgt, .int .i64 x.tim, .ref 0, .ref 1, .ref 2], .int .i64 k] [.row 5 x.root.length (bytesV x.root) false, .row 5 x.set.length (bytesV x.set) false, .row 5 x.nxt.length (bytesV x.nxt) false] =
      some (.tup [.int .i64 (k + szH x), .osl x.root.length (bytesV (mkH k x).root), .osl x.set.length (bytesV (mkH k x).set), .osl x.nxt.length (bytesV (mkH k x).nxt)]) := by
  refine E57 _ _ _ _ _ _ _ _ _ ?_
  unfold T57
  unfold fitH szH at h
  have e : k + (x.root.length : Int) + (x.set.length : Int) + (x.nxt.length : Int) = k + (szH x : Int) := by unfold szH; omega
  simp only [S0, c59 x.root k hk (by omega) (by omega), c59 x.set (k + x.root.length) (by omega) (by omega) (by omega), c59 x.nxt (k + x.root.length + x.set.length) (by omega) (by omega) (by omega), mkH, e]
theorem c106 (x : HB) (k : Int) (hk : 0 ≤ k) (hk2 : k < 4611686014427387904) (h : fitH x) :
    runE C 106 [.agg [.int .i64 x.hgt, .int .i64 x.tim, .sl x.root.length (bytesV (mkH k x).root), .sl x.set.length (bytesV (mkH k x).set), .sl x.nxt.length (bytesV (mkH k x).nxt)], .int .i64 k] = some (.tup [.int .i64 (k + szH x)]) := by
  refine E106 _ _ _ _ _ _ _ _ _ ?_
  unfold T106
  unfold fitH szH at h
  have e : k + (x.root.length : Int) + (x.set.length : Int) + (x.nxt.length : Int) = k + (szH x : Int) := by unfold szH; omega
  have n1 : ¬ (k + (x.root.length : Int) < 0) := by omega
  have n2 : ¬ (k + (x.root.length : Int) + (x.set.length : Int) < 0) := by omega
  have n3 : ¬ (k + (szH x : Int) < 0) := by omega
  simp only [S0, mkH, c130 x.root.length k hk (by omega) (by omega), n1, c130 x.set.length (k + x.root.length) (by omega) (by omega) (by omega), n2, c130 x.nxt.length (k + x.root.length + x.set.length) (by omega) (by omega) (by omega), e, n3]
theorem c101 (x : HB) (h : fitH x) : runE C 101 [.agg [.int .i64 x.hgt, .int .i64 x.tim, .sl x.root.length (bytesV x.root), .sl x.set.length (bytesV x.set), .sl x.nxt.length (bytesV x.nxt)]] = some (.tup [.int .i64 x.hgt, .int .i64 x.tim, .osl x.root.length (bytesV x.root), .osl x.set.length (bytesV x.set), .osl x.nxt.length (bytesV x.nxt)]) := by
  refine E101 _ _ _ _ _ _ _ _ ?_
  unfold T101
  unfold fitH szH at h
  simp only [S0, c128 x.root (by omega), c128 x.set (by omega), c128 x.nxt (by omega)]
theorem c83 (x : HB) (h : fitH x) : runE C 83 [.agg [.int .i64 x.hgt, .int .i64 x.tim, .sl x.root.length (bytesV x.root), .sl x.set.length (bytesV x.set), .sl x.nxt.length (bytesV x.nxt)]] = some (.tup [.int .i64 x.hgt, .int .i64 x.tim, .osl x.root.length (bytesV x.root), .osl x.set.length (bytesV x.set), .osl x.nxt.length (bytesV x.nxt)]) := by
  refine E83 _ _ _ _ _ _ _ _ ?_
  unfold T83
  unfold fitH szH at h
  have d1 : x.root.length ≤ 140737488355328 := by omega
  have d2 : x.set.length ≤ 140737488355328 := by omega
  have d3 : x.nxt.length ≤ 140737488355328 := by omega
  simp only [S0, d1, d2, d3]
theorem c16 (x y : Tr) (h : fitH x.hd) (h1 : fitV x.nx) (h2 : fitP x.roots) : runE C 16 [.agg [.int .i64 x.hd.hgt, .int .i64 x.hd.tim, .sl x.hd.root.length (bytesV x.hd.root), .sl x.hd.set.length (bytesV x.hd.set), .sl x.hd.nxt.length (bytesV x.hd.nxt), .sl x.nx.length (vsS x.nx), .int .i64 x.per, .bool x.pau, .sl x.roots.length (psS x.roots), .int .i64 x.frm], .agg [.int .i64 y.hd.hgt, .int .i64 y.hd.tim, .sl y.hd.root.length (bytesV y.hd.root), .sl y.hd.set.length (bytesV y.hd.set), .sl y.hd.nxt.length (bytesV y.hd.nxt), .sl y.nx.length (vsS y.nx), .int .i64 y.per, .bool y.pau, .sl y.roots.length (psS y.roots), .int .i64 y.frm]] = some (.tup [.bool (decide (x = y))]) := by
  refine E16 _ _ _ _ _ _ _ _ _ _ _ _ _ _ _ _ _ _ _ _ _ _ _ _ _ _ _ _ _ _ ?_
  unfold T16
  simp only [S0, c53 x.hd y.hd h, c17 x.nx y.nx h1, c54 x.roots y.roots (by have := h2.1; omega) (by have := h2.2; omega)]
  obtain ⟨a, b, c, d, e, f⟩ := x
  obtain ⟨a', b', c', d', e', f'⟩ := y
  simp only [Tr.mk.injEq]
  by_cases e1 : a = a' <;> by_cases e2 : b = b' <;> by_cases e3 : c = c' <;> by_cases e5 : e = e' <;> by_cases e6 : f = f' <;> cases d <;> cases d' <;> simp [e1, e2, e3, e5, e6, bne_t]
theorem c15 (a b : Int) (x y : Tr) (h : fitH x.hd) (h1 : fitV x.nx) (h2 : fitP x.roots) : runE C 15 [.agg [.int .i64 a, .int .i64 x.hd.hgt, .int .i64 x.hd.tim, .sl x.hd.root.length (bytesV x.hd.root), .sl x.hd.set.length (bytesV x.hd.set), .sl x.hd.nxt.length (bytesV x.hd.nxt), .sl x.nx.length (vsS x.nx), .int .i64 x.per, .bool x.pau, .sl x.roots.length (psS x.roots), .int .i64 x.frm], .agg [.int .i64 b, .int .i64 y.hd.hgt, .int .i64 y.hd.tim, .sl y.hd.root.length (bytesV y.hd.root), .sl y.hd.set.length (bytesV y.hd.set), .sl y.hd.nxt.length (bytesV y.hd.nxt), .sl y.nx.length (vsS y.nx), .int .i64 y.per, .bool y.pau, .sl y.roots.length (psS y.roots), .int .i64 y.frm]] = some (.tup [.bool (decide (a = b ∧ x = y))]) := by
  refine E15 _ _ _ _ _ _ _ _ _ _ _ _ _ _ _ _ _ _ _ _ _ _ _ _ _ _ _ _ _ _ _ _ ?_
  unfold T15
  simp only [S0, c16 x y h h1 h2]
  by_cases e1 : a = b <;> by_cases e2 : x = y <;> simp [e1, e2, bne_t]
theorem c19 (x : Tr) (k : Int) (hk : 0 ≤ k) (hk2 : k < 4611686010427387904) (h : fitH x.hd) (h1 : fitV x.nx) (h2 : fitP x.roots) :
    runWE C 19 [0, 1, 2, 3, 4] [.agg [.int .i64 x.hd.hgt, .int .i64 x.hd.tim, .ref 0, .ref 1, .ref 2, .ref 3, .int .i64 x.per, .bool x.pau, .ref 4, .int .i64 x.frm], .int .i64 k]
      [.row 5 x.hd.root.length (bytesV x.hd.root) false, .row 5 x.hd.set.length (bytesV x.hd.set) false, .row 5 x.hd.nxt.length (bytesV x.hd.nxt) false, .nrow [] 78 x.nx.length (vsO x.nx), .nrow [] 22 x.roots.length (psO x.roots)] =
      some (.tup [.int .i64 (k + szT x), .osl x.hd.root.length (bytesV (mkT k x).hd.root), .osl x.hd.set.length (bytesV (mkT k x).hd.set), .osl x.hd.nxt.length (bytesV (mkT k x).hd.nxt), .osl x.nx.length (vsO (mkT k x).nx), .osl x.roots.length (psO (mkT k x).roots)]) := by
  refine E19 _ _ _ _ _ _ _ _ _ _ _ _ _ _ _ _ ?_
  unfold T19
  have := cV_le x.nx
  have q0 : szH x.hd ≤ 100000000 := h
  obtain ⟨q1, q2⟩ := h1
  obtain ⟨q3, q4⟩ := h2
  have e : k + (szH x.hd : Int) + (cV x.nx : Int) + (tot List.length x.roots : Int) = k + (szT x : Int) := by unfold szT; omega
  have w1 := c57 x.hd k hk (by omega) h
  have w2 := c20 x.nx (k + szH x.hd) (by omega) (by omega) ⟨q1, q2⟩
  have w3 := c58 x.roots (k + szH x.hd + cV x.nx) (by omega) (by omega) (by omega) (by omega)
  simp only [S0, w1, w2, w3, mkT, e]
theorem c22 (a : Int) (x : Tr) (k : Int) (hk : 0 ≤ k) (hk2 : k < 4611686010427387904) (h : fitH x.hd) (h1 : fitV x.nx) (h2 : fitP x.roots) :
    runWE C 22 [0, 1, 2, 3, 4] [.agg [.int .i64 a, .int .i64 x.hd.hgt, .int .i64 x.hd.tim, .ref 0, .ref 1, .ref 2, .ref 3, .int .i64 x.per, .bool x.pau, .ref 4, .int .i64 x.frm], .int .i64 k]
      [.row 5 x.hd.root.length (bytesV x.hd.root) false, .row 5 x.hd.set.length (bytesV x.hd.set) false, .row 5 x.hd.nxt.length (bytesV x.hd.nxt) false, .nrow [] 78 x.nx.length (vsO x.nx), .nrow [] 22 x.roots.length (psO x.roots)] =
      some (.tup [.int .i64 (k + szT x), .osl x.hd.root.length (bytesV (mkT k x).hd.root), .osl x.hd.set.length (bytesV (mkT k x).hd.set), .osl x.hd.nxt.length (bytesV (mkT k x).hd.nxt), .osl x.nx.length (vsO (mkT k x).nx), .osl x.roots.length (psO (mkT k x).roots)]) := by
  refine E22 _ _ _ _ _ _ _ _ _ _ _ _ _ _ _ _ _ ?_
  unfold T22
  simp only [S0, c19 x k hk hk2 h h1 h2]
theorem c61 (x : Tr) (k : Int) (hk : 0 ≤ k) (hk2 : k < 4611686010427387904) (h : fitH x.hd) (h1 : fitV x.nx) (h2 : fitP x.roots) :
    runE C 61 [.agg [.int .i64 x.hd.hgt, .int .i64 x.hd.tim, .sl x.hd.root.length (bytesV (mkT k x).hd.root), .sl x.hd.set.length (bytesV (mkT k x).hd.set), .sl x.hd.nxt.length (bytesV (mkT k x).hd.nxt), .sl x.nx.length (vsS (mkT k x).nx), .int .i64 x.per, .bool x.pau, .sl x.roots.length (psS (mkT k x).roots), .int .i64 x.frm], .int .i64 k] =
      some (.tup [.int .i64 (k + szT x)]) := by
  refine E61 _ _ _ _ _ _ _ _ _ _ _ _ _ _ _ _ ?_
  unfold T61
  have := cV_le x.nx
  have q0 : szH x.hd ≤ 100000000 := h
  obtain ⟨q1, q2⟩ := h1
  obtain ⟨q3, q4⟩ := h2
  have e : k + (szH x.hd : Int) + (cV x.nx : Int) + (tot List.length x.roots : Int) = k + (szT x : Int) := by unfold szT; omega
  have n1 : ¬ (k + (szH x.hd : Int) < 0) := by omega
  have n2 : ¬ (k + (szH x.hd : Int) + (cV x.nx : Int) < 0) := by omega
  have n3 : ¬ (k + (szT x : Int) < 0) := by omega
  have w1 := c106 x.hd k hk (by omega) h
  have w2 := c107 x.nx (k + szH x.hd) (by omega) (by omega) ⟨q1, q2⟩
  have w3 := c108 x.roots (k + szH x.hd + cV x.nx) (by omega) (by omega) (by omega) (by omega)
  simp only [S0, mkT, w1, n1, w2, n2, w3, e, n3]
theorem c23 (a : Int) (x : Tr) (k : Int) (hk : 0 ≤ k) (hk2 : k < 4611686010427387904) (h : fitH x.hd) (h1 : fitV x.nx) (h2 : fitP x.roots) :
    runE C 23 [.agg [.int .i64 a, .int .i64 x.hd.hgt, .int .i64 x.hd.tim, .sl x.hd.root.length (bytesV (mkT k x).hd.root), .sl x.hd.set.length (bytesV (mkT k x).hd.set), .sl x.hd.nxt.length (bytesV (mkT k x).hd.nxt), .sl x.nx.length (vsS (mkT k x).nx), .int .i64 x.per, .bool x.pau, .sl x.roots.length (psS (mkT k x).roots), .int .i64 x.frm], .int .i64 k] =
      some (.tup [.int .i64 (k + szT x)]) := by
  refine E23 _ _ _ _ _ _ _ _ _ _ _ _ _ _ _ _ _ ?_
  unfold T23
  have n3 : ¬ (k + (szT x : Int) < 0) := by omega
  simp only [S0, c61 x k hk hk2 h h1 h2, n3]
theorem c52 (x : Tr) (h : fitH x.hd) (h1 : fitV x.nx) (h2 : fitP x.roots) : runE C 52 [.agg [.int .i64 x.hd.hgt, .int .i64 x.hd.tim, .sl x.hd.root.length (bytesV x.hd.root), .sl x.hd.set.length (bytesV x.hd.set), .sl x.hd.nxt.length (bytesV x.hd.nxt), .sl x.nx.length (vsS x.nx), .int .i64 x.per, .bool x.pau, .sl x.roots.length (psS x.roots), .int .i64 x.frm]] = some (.tup [.int .i64 x.hd.hgt, .int .i64 x.hd.tim, .osl x.hd.root.length (bytesV x.hd.root), .osl x.hd.set.length (bytesV x.hd.set), .osl x.hd.nxt.length (bytesV x.hd.nxt), .osl x.nx.length (vsO x.nx), .int .i64 x.per, .bool x.pau, .osl x.roots.length (psO x.roots), .int .i64 x.frm]) := by
  refine E52 _ _ _ _ _ _ _ _ _ _ _ _ _ _ _ ?_
  unfold T52
  simp only [S0, c101 x.hd h, c102 x.nx h1, c103 x.roots (by have := h2.1; omega) (by have := h2.2; omega)]
theorem c41 (x : Tr) (h : fitH x.hd) (h1 : fitV x.nx) (h2 : fitP x.roots) : runE C 41 [.agg [.int .i64 x.hd.hgt, .int .i64 x.hd.tim, .sl x.hd.root.length (bytesV x.hd.root), .sl x.hd.set.length (bytesV x.hd.set), .sl x.hd.nxt.length (bytesV x.hd.nxt), .sl x.nx.length (vsS x.nx), .int .i64 x.per, .bool x.pau, .sl x.roots.length (psS x.roots), .int .i64 x.frm]] = some (.tup [.int .i64 x.hd.hgt, .int .i64 x.hd.tim, .osl x.hd.root.length (bytesV x.hd.root), .osl x.hd.set.length (bytesV x.hd.set), .osl x.hd.nxt.length (bytesV x.hd.nxt), .osl x.nx.length (vsS x.nx), .int .i64 x.per, .bool x.pau, .osl x.roots.length (psS x.roots), .int .i64 x.frm]) := by
  refine E41 _ _ _ _ _ _ _ _ _ _ _ _ _ _ _ ?_
  unfold T41
  simp only [S0, c83 x.hd h, c84 x.nx h1, c85 x.roots (by have := h2.1; omega) (by have := h2.2; omega)]
end Go.Proofs.YtgbpimaidhhnjaaGreat.Tru
