/-
  Votes and signed heads: sameness, marks; numbers and words in rows.
-/
import Derived.Test.YtgbpimaidhhnjaaGreatPLOts2TX
import Derived.Test.YtgbpimaidhhnjaaGreatPLSet2TX
import Derived.Test.YtgbpimaidhhnjaaGreatPMVote
namespace Go.PI.Vote
open Go Go.PI Go.PI.Sha Go.PI.Rel Go.PI.Nest Go.PI.Tru
theorem ps_part (d : List (List UInt8)) (b : List UInt8) (r : Nat) : splice (prt (fun b => [bO b]) [.nilsl] d (r + 1)) d.length [.own false 5 1 b.length (bytesV b)] = prt (fun b => [bO b]) [.nilsl] (d ++ [b]) r := by
  have := prt_step (fun b => [bO b]) (sz := 1) (fun _ => rfl) (z := [.nilsl]) rfl d b r
  rw [Nat.mul_one] at this
  exact this
end Go.PI.Vote
namespace Go.Proofs.YtgbpimaidhhnjaaGreat.Vote
open Go Go.PI Go.PI.Sha Go.PI.Rel Go.PI.Nest Go.PI.Tru Go.PI.Set Go.PI.Tree Go.PI.Vote Go.Proofs.YtgbpimaidhhnjaaGreat.Sha Go.Proofs.YtgbpimaidhhnjaaGreat.By Go.Proofs.YtgbpimaidhhnjaaGreat.Nest Go.Proofs.YtgbpimaidhhnjaaGreat.Tru Go.Proofs.YtgbpimaidhhnjaaGreat.Set Go.Proofs.YtgbpimaidhhnjaaGreat.Tree EqX
set_option maxHeartbeats 1000000
set_option linter.unusedVariables false
set_option linter.unusedSimpArgs false
theorem l31 : ∀ (r d : List (List UInt8)) (left : Int) (n i : Nat), n = d.length + r.length → i = d.length → n ≤ 4611686018427387904 → (∀ v ∈ r, v.length ≤ 9223372036854775807) → 0 ≤ left → left ≤ 4611686018427387904 →
    loopE C 31 0 [true, true, true, false, true] [] [(0, V.sl n (psS (d ++ r))), (1, V.int .i64 left), (5, V.int .i64 (i : Int))] [] = some (.tup [.int .i64 (less left (tot List.length r))])
  | [], d, left, n, i, hn, hi, hq, hv, h1, h2 => by
    refine E31l1 _ _ _ _ ?_
    unfold T31l1
    have : ¬ i < n := by simp at hn; omega
    rw [less_ge (by simp [tot]; omega)]
    simp [this, tot]
  | v :: r, d, left, n, i, hn, hi, hq, hv, h1, h2 => by
    simp only [List.length_cons] at hn
    have hlt : i < n := by omega
    have hw := w64_succ (n := i) (by omega)
    have hg : (psS (d ++ v :: r))[i]? = some (bS v) := by subst hi; exact psS_at d v r
    have hl : (psS (d ++ v :: r)).length = n := by rw [psS_length]; simp; omega
    have k := c69 v.length (bytesV v) left (hv v (by simp)) h1 h2
    have et : tot List.length (v :: r) = v.length + tot List.length r := rfl
    rw [et]
    refine E31l1 _ _ _ _ ?_
    unfold T31l1
    by_cases g : left < v.length
    · rw [if_pos g] at k
      rw [less_lt (by omega)]
      simp only [S0, hlt, hl, hg, bS, k]
      rfl
    · rw [if_neg g] at k
      have n1 : ¬ (left - (v.length : Int) < 0) := by omega
      have ih := l31 r (d ++ [v]) (left - v.length) n (i + 1) (by simp; omega) (by simp; omega) hq (fun u hu => hv u (by simp [hu])) (by omega) (by omega)
      rw [less_less g] at ih
      simp only [List.append_assoc, List.singleton_append] at ih
      simp only [S0, hlt, hl, hg, bS, k, n1, hw, ih]
theorem c31 (l : List (List UInt8)) (left : Int) (h : l.length ≤ 9223372036854775807) (hv : ∀ v ∈ l, v.length ≤ 9223372036854775807) (h1 : 0 ≤ left) (h2 : left ≤ 4611686018427387904) :
    runE C 31 [.sl l.length (psS l), .int .i64 left] = some (.tup [.int .i64 (less left (l.length + tot List.length l))]) := by
  refine E31 _ _ _ ?_
  unfold T31
  rw [w64 (by omega) (by omega)]
  by_cases g : left < (l.length : Int)
  · rw [less_lt (by omega), decide_eq_true (by omega)]
    rfl
  · have k := l31 l [] (left - l.length) l.length 0 (by simp) rfl (by omega) hv (by omega) (by omega)
    rw [less_less g] at k
    rw [decide_eq_false (by omega)]
    exact k
theorem l43 : ∀ (r d : List (List UInt8)) (n i : Nat), n = d.length + r.length → i = d.length → n < 1000000000 → tot List.length r ≤ 100000000 →
    loopE C 43 0 [true, true, false, true] [] [(0, V.sl n (psS (d ++ r))), (3, V.ref 0), (4, V.int .i64 (i : Int))] [Ob.nrow [] 22 n (prt (fun b => [bO b]) [.nilsl] d r.length)] = some (.tup [.osl n (psO (d ++ r))])
  | [], d, n, i, hn, hi, hq, ht => by
    refine E43l1 _ _ _ _ _ ?_
    unfold T43l1
    have : ¬ i < n := by simp at hn; omega
    rw [List.length_nil, prt_full]
    simp [this, psO]
  | v :: r, d, n, i, hn, hi, hq, ht => by
    simp only [List.length_cons] at hn ⊢
    simp only [tot] at ht
    have ih := l43 r (d ++ [v]) n (i + 1) (by simp; omega) (by simp; omega) hq (by omega)
    refine E43l1 _ _ _ _ _ ?_
    unfold T43l1
    have hlt : i < n := by omega
    have hw := w64_succ (n := i) (by omega)
    have hg : (psS (d ++ v :: r))[i]? = some (bS v) := by subst hi; exact psS_at d v r
    have hl : (psS (d ++ v :: r)).length = n := by rw [psS_length]; simp; omega
    have hs : splice (prt (fun b => [bO b]) [.nilsl] d (r.length + 1)) i [V.own false 5 1 v.length (bytesV v)] = prt (fun b => [bO b]) [.nilsl] (d ++ [v]) r.length := by subst hi; exact ps_part d v r.length
    have hl2 : (prt (fun b => [bO b]) [.nilsl] d (r.length + 1)).length = n := by rw [prt_length (fun b => [bO b]) (sz := 1) (fun _ => rfl) (z := [.nilsl]) rfl]; omega
    have hb : i + (0 + 1) ≤ n := by omega
    simp only [List.append_assoc, List.singleton_append] at ih
    simp only [S0, hlt, hl, hg, bS, c86 v (by omega), hl2, hs, hw, ih]
    simp only [hb, S0]
theorem c43 (l : List (List UInt8)) (hf : fitP l) : runE C 43 [.sl l.length (psS l)] = some (.tup [.osl l.length (psO l)]) := by
  refine E43 _ _ ?_
  unfold T43
  have := l43 l [] l.length 0 (by simp) rfl (by have := hf.1; omega) hf.2
  rw [prt_zero] at this
  rw [must_of (by have := hf.1; simp; omega)]
  simpa using this
theorem bb (p : Bool) : (bif !p then some (V.tup [V.bool false]) else some (V.tup [V.bool true])) = some (V.tup [V.bool p]) := by cases p <;> rfl
theorem ba (a b : Int) (q : Prop) [Decidable q] : (bif a != b then some (V.tup [V.bool false]) else some (V.tup [V.bool (decide q)])) = some (V.tup [V.bool (decide (a = b ∧ q))]) := by
  by_cases e : a = b <;> simp [e, bne_t]
theorem bp (p q : Prop) [Decidable p] [Decidable q] : (bif !decide p then some (V.tup [V.bool false]) else some (V.tup [V.bool (decide q)])) = some (V.tup [V.bool (decide (p ∧ q))]) := by
  by_cases e : p <;> simp [e]
theorem c153 (x y : Vt) (h : vtfit x) : runE C 153 [.agg [.int .i64 x.spl, .int .i64 x.cnt, .sl x.path.length (psS x.path)], .agg [.int .i64 y.spl, .int .i64 y.cnt, .sl y.path.length (psS y.path)]] = some (.tup [.bool (decide (x.spl = y.spl ∧ x.cnt = y.cnt ∧ x.path = y.path))]) := by
  refine E153 _ _ _ _ _ _ _ _ ?_
  unfold T153
  have k := c54 x.path y.path (by have := h.2; unfold vtN at this; omega) (by have := h.1; unfold vtZ at this; omega)
  simp only [S0, k]
  by_cases e1 : x.spl = y.spl <;> by_cases e2 : x.cnt = y.cnt <;> by_cases e3 : x.path = y.path <;> simp [e1, e2, e3, bne_t]
theorem c129 (x y : Vt) (h : vtfit x) : runE C 129 [.agg [.int .i64 x.leaf, .sl x.parts.length (psS x.parts), .int .i64 x.spl, .int .i64 x.cnt, .sl x.path.length (psS x.path)], .agg [.int .i64 y.leaf, .sl y.parts.length (psS y.parts), .int .i64 y.spl, .int .i64 y.cnt, .sl y.path.length (psS y.path)]] = some (.tup [.bool (decide (x.leaf = y.leaf ∧ x.parts = y.parts ∧ x.spl = y.spl ∧ x.cnt = y.cnt ∧ x.path = y.path))]) := by
  refine E129 _ _ _ _ _ _ _ _ _ _ _ _ _ _ ?_
  unfold T129
  have k := c54 x.parts y.parts (by have := h.2; unfold vtN at this; omega) (by have := h.1; unfold vtZ at this; omega)
  simp only [S0, k, c153 x y h, bb, bp, ba]
theorem c105 (x y : Vt) (h : vtfit x) : runE C 105 [.agg [.int .i64 x.plc, .int .i64 x.leaf, .sl x.parts.length (psS x.parts), .int .i64 x.spl, .int .i64 x.cnt, .sl x.path.length (psS x.path)], .agg [.int .i64 y.plc, .int .i64 y.leaf, .sl y.parts.length (psS y.parts), .int .i64 y.spl, .int .i64 y.cnt, .sl y.path.length (psS y.path)]] = some (.tup [.bool (decide (x = y))]) := by
  refine E105 _ _ _ _ _ _ _ _ _ _ _ _ _ _ _ _ ?_
  unfold T105
  simp only [S0, c129 x y h, bb, ba]
  obtain ⟨a0, a1, a2, a3, a4, a5⟩ := x
  obtain ⟨b0, b1, b2, b3, b4, b5⟩ := y
  simp only [Vt.mk.injEq]
theorem l56 : ∀ (r r' d d' : List Vt) (n i : Nat), n = d.length + r.length → r.length = r'.length → d'.length = d.length → i = d.length → n < 1000000000 → (∀ v ∈ r, vtfit v) →
    loopE C 56 0 [true, true, false, true] [] [(0, V.sl n (vtsS (d ++ r))), (1, V.sl n (vtsS (d' ++ r'))), (5, V.int .i64 (i : Int))] [] = some (.tup [.bool (decide (r = r'))])
  | [], [], d, d', n, i, hn, hr, hd, hi, hq, ht => by
    refine E56l1 _ _ _ _ _ ?_
    unfold T56l1
    have : ¬ i < n := by simp at hn; omega
    simp [this]
  | [], _ :: _, d, d', n, i, hn, hr, hd, hi, hq, ht => by simp at hr
  | _ :: _, [], d, d', n, i, hn, hr, hd, hi, hq, ht => by simp at hr
  | b :: r, b' :: r', d, d', n, i, hn, hr, hd, hi, hq, ht => by
    simp only [List.length_cons] at hn hr
    have ih := l56 r r' (d ++ [b]) (d' ++ [b']) n (i + 1) (by simp; omega) (by omega) (by simp [hd]) (by simp; omega) hq (fun v h => ht v (by simp [h]))
    refine E56l1 _ _ _ _ _ ?_
    unfold T56l1
    have hlt : i < n := by omega
    have hw := w64_succ (n := i) (by omega)
    have g0 : (vtsS (d ++ b :: r))[i * 6]? = _ := vtsS_at0 hi b r
    have g1 : (vtsS (d ++ b :: r))[i * 6 + 1]? = _ := vtsS_at1 hi b r
    have g2 : (vtsS (d ++ b :: r))[i * 6 + 1 + 1]? = _ := vtsS_at2 hi b r
    have g3 : (vtsS (d ++ b :: r))[i * 6 + 1 + 1 + 1]? = _ := vtsS_at3 hi b r
    have g4 : (vtsS (d ++ b :: r))[i * 6 + 1 + 1 + 1 + 1]? = _ := vtsS_at4 hi b r
    have g5 : (vtsS (d ++ b :: r))[i * 6 + 1 + 1 + 1 + 1 + 1]? = _ := vtsS_at5 hi b r
    have j0 : (vtsS (d' ++ b' :: r'))[i * 6]? = _ := vtsS_at0 (hi.trans hd.symm) b' r'
    have j1 : (vtsS (d' ++ b' :: r'))[i * 6 + 1]? = _ := vtsS_at1 (hi.trans hd.symm) b' r'
    have j2 : (vtsS (d' ++ b' :: r'))[i * 6 + 1 + 1]? = _ := vtsS_at2 (hi.trans hd.symm) b' r'
    have j3 : (vtsS (d' ++ b' :: r'))[i * 6 + 1 + 1 + 1]? = _ := vtsS_at3 (hi.trans hd.symm) b' r'
    have j4 : (vtsS (d' ++ b' :: r'))[i * 6 + 1 + 1 + 1 + 1]? = _ := vtsS_at4 (hi.trans hd.symm) b' r'
    have j5 : (vtsS (d' ++ b' :: r'))[i * 6 + 1 + 1 + 1 + 1 + 1]? = _ := vtsS_at5 (hi.trans hd.symm) b' r'
    simp only [List.append_assoc, List.singleton_append] at ih
    rw [dec_cons]
    simp only [S0, hlt, g0, g1, g2, g3, g4, g5, j0, j1, j2, j3, j4, j5, c105 b b' (ht b (by simp)), hw, ih]
    by_cases e : b = b' <;> simp [e]
theorem c56 (a b : List Vt) (hf : vtsfit a) : runE C 56 [.sl a.length (vtsS a), .sl b.length (vtsS b)] = some (.tup [.bool (decide (a = b))]) := by
  refine E56 _ _ _ _ ?_
  unfold T56
  by_cases e : a.length = b.length
  · have := l56 a b [] [] a.length 0 (by simp) e rfl rfl (by have := hf.1; omega) (fun v h => vtsfit_of hf h)
    simp only [List.nil_append] at this
    rw [← e]
    simpa using this
  · have h1 : a ≠ b := fun h => e (by rw [h])
    have h2 : ((a.length : Int) != (b.length : Int)) = true := by simp; omega
    simp [h1, h2]
theorem c18 (x y : HB) (a b : List Vt) (h : fitH x) (hf : vtsfit a) : runE C 18 [.agg [.int .i64 x.hgt, .int .i64 x.tim, .sl x.root.length (bytesV x.root), .sl x.set.length (bytesV x.set), .sl x.nxt.length (bytesV x.nxt), .sl a.length (vtsS a)], .agg [.int .i64 y.hgt, .int .i64 y.tim, .sl y.root.length (bytesV y.root), .sl y.set.length (bytesV y.set), .sl y.nxt.length (bytesV y.nxt), .sl b.length (vtsS b)]] = some (.tup [.bool (decide (x = y ∧ a = b))]) := by
  refine E18 _ _ _ _ _ _ _ _ _ _ _ _ _ _ _ _ _ _ _ _ ?_
  unfold T18
  simp only [S0, c53 x y h, c56 a b hf, bb, bp]
theorem l60 : ∀ (r d : List Vt) (k : Int) (n i : Nat), n = d.length + r.length → i = d.length → 0 ≤ k → k + vtsC r < 4611686010427387904 → n < 1000000000 → (∀ v ∈ r, vtfit v) →
    loopWE C 60 [0] [Ob.nrow [] 110 0 []] 0 [true, false, true] [] [(0, V.ref 0), (1, V.int .i64 k), (5, V.int .i64 (i : Int))] [Ob.nrow [] 110 n (vtsO (d ++ r))] = some (.tup [.int .i64 (k + vtsC r), .osl n (vtsO (d ++ vtsM k r))])
  | [], d, k, n, i, hn, hi, hk, hk2, hq, ht => by
    refine E60l1 _ _ _ _ ?_
    unfold T60l1
    have : ¬ i < n := by simp at hn; omega
    simp [this, vtsM, vtsC, tot]
  | v :: r, d, k, n, i, hn, hi, hk, hk2, hq, ht => by
    simp only [List.length_cons] at hn
    have ec : vtsC (v :: r) = vtC v + vtsC r := rfl
    rw [ec] at hk2 ⊢
    have hv := ht v (by simp)
    unfold vtfit vtZ vtN at hv
    have ec2 : vtC v = tot List.length v.parts + tot List.length v.path + 4 := rfl
    have ih := l60 r (d ++ [vtR k v]) (k + vtC v) n (i + 1) (by simp; omega) (by simp; omega) (by omega) (by omega) hq (fun u hu => ht u (by simp [hu]))
    refine E60l1 _ _ _ _ ?_
    unfold T60l1
    have hlt : i < n := by omega
    have hw := w64_succ (n := i) (by omega)
    have w1 : IntKind.i64.wrap (k + 1) = k + 1 := w64 (by omega) (by omega)
    have w2 : IntKind.i64.wrap (k + 1 + 1) = k + 2 := by rw [w64 (by omega) (by omega)]; omega
    have w3 : IntKind.i64.wrap (k + 2 + (tot List.length v.parts : Int) + 1) = k + 3 + (tot List.length v.parts : Int) := by rw [w64 (by omega) (by omega)]; omega
    have w4 : IntKind.i64.wrap (k + 3 + (tot List.length v.parts : Int) + 1) = k + 4 + (tot List.length v.parts : Int) := by rw [w64 (by omega) (by omega)]; omega
    have s0 : splice (vtsO (d ++ v :: r)) (i * 6) [.int .i64 k] = _ := vtsO_set0 hi v r k
    have s1 : splice (vtsO (d ++ (⟨k, v.leaf, v.parts, v.spl, v.cnt, v.path⟩ : Vt) :: r)) (i * 6 + 1) [.int .i64 (k + 1)] = _ := vtsO_set1 hi _ r (k + 1)
    have q2 : (vtsO (d ++ (⟨k, k + 1, v.parts, v.spl, v.cnt, v.path⟩ : Vt) :: r))[i * 6 + 1 + 1]? = _ := vtsO_at2 hi _ r
    have m2 := c58 v.parts (k + 2) (by omega) (by omega) (by omega) (by omega)
    have s2 : (vtsO (d ++ (⟨k, k + 1, v.parts, v.spl, v.cnt, v.path⟩ : Vt) :: r)).set (i * 6 + 1 + 1) (.own true 22 1 v.parts.length (psO (mkPs (k + 2) v.parts))) = _ := vtsO_set2 hi _ r (mkPs (k + 2) v.parts) (mkPs_length _ _).symm
    have s3 : splice (vtsO (d ++ (⟨k, k + 1, mkPs (k + 2) v.parts, v.spl, v.cnt, v.path⟩ : Vt) :: r)) (i * 6 + 1 + 2) [.int .i64 (k + 2 + (tot List.length v.parts : Int))] = _ := vtsO_set3 hi _ r _
    have s4 : splice (vtsO (d ++ (⟨k, k + 1, mkPs (k + 2) v.parts, k + 2 + (tot List.length v.parts : Int), v.cnt, v.path⟩ : Vt) :: r)) (i * 6 + 1 + 2 + 1) [.int .i64 (k + 3 + (tot List.length v.parts : Int))] = _ := vtsO_set4 hi _ r _
    have q5 : (vtsO (d ++ (⟨k, k + 1, mkPs (k + 2) v.parts, k + 2 + (tot List.length v.parts : Int), k + 3 + (tot List.length v.parts : Int), v.path⟩ : Vt) :: r))[i * 6 + 1 + 2 + 2]? = _ := vtsO_at5 hi _ r
    have m5 := c58 v.path (k + 4 + (tot List.length v.parts : Int)) (by omega) (by omega) (by omega) (by omega)
    have s5 : (vtsO (d ++ (⟨k, k + 1, mkPs (k + 2) v.parts, k + 2 + (tot List.length v.parts : Int), k + 3 + (tot List.length v.parts : Int), v.path⟩ : Vt) :: r)).set (i * 6 + 1 + 2 + 2) (.own true 22 1 v.path.length (psO (mkPs (k + 4 + (tot List.length v.parts : Int)) v.path))) = _ := vtsO_set5 hi _ r (mkPs (k + 4 + (tot List.length v.parts : Int)) v.path) (mkPs_length _ _).symm
    have hl : ∀ u : Vt, (vtsO (d ++ u :: r)).length = n * 6 := fun u => by rw [vtsO_length]; simp; omega
    have b0 : i * 6 + (0 + 1) ≤ n * 6 := by omega
    have b1 : i * 6 + 1 + (0 + 1) ≤ n * 6 := by omega
    have b3 : i * 6 + 1 + 2 + (0 + 1) ≤ n * 6 := by omega
    have b4 : i * 6 + 1 + 2 + 1 + (0 + 1) ≤ n * 6 := by omega
    have e1 : k + (vtC v : Int) = k + 4 + (tot List.length v.parts : Int) + (tot List.length v.path : Int) := by rw [ec2]; omega
    have e2 : d ++ [vtR k v] ++ vtsM (k + vtC v) r = d ++ vtsM k (v :: r) := by simp [vtsM]
    have e3 : k + (vtC v : Int) + (vtsC r : Int) = k + ((vtC v + vtsC r : Nat) : Int) := by omega
    rw [e2, e3, e1] at ih
    simp only [List.append_assoc, List.singleton_append, vtR] at ih
    simp only [S0, hlt, w1, w2, s0, s1, hl, q2, asOwn_own, m2, s2, w3, s3, s4, w4, q5, m5, s5, hw, ih]
    simp only [b0, b1, b3, b4, asOwn_own, S0, m2, m5, w3, w4, hl, s2, s3, s4, s5, q5, hw, ih]
theorem c60 (l : List Vt) (k : Int) (hk : 0 ≤ k) (hk2 : k < 4611686009427387904) (hf : vtsfit l) :
    runWE C 60 [0] [.ref 0, .int .i64 k] [.nrow [] 110 l.length (vtsO l)] = some (.tup [.int .i64 (k + vtsC l), .osl l.length (vtsO (vtsM k l))]) := by
  refine E60 _ _ _ ?_
  unfold T60
  have := vtsC_bound hf
  exact l60 l [] k l.length 0 (by simp) rfl hk (by omega) (by have := hf.1; omega) (fun v h => vtsfit_of hf h)
theorem c21 (x : HB) (l : List Vt) (k : Int) (hk : 0 ≤ k) (hk2 : k < 4611686000427387904) (h : fitH x) (hf : vtsfit l) :
    runWE C 21 [0, 1, 2, 3] [.agg [.int .i64 x.hgt, .int .i64 x.tim, .ref 0, .ref 1, .ref 2, .ref 3], .int .i64 k] [Ob.row 5 x.root.length (bytesV x.root) false, Ob.row 5 x.set.length (bytesV x.set) false, Ob.row 5 x.nxt.length (bytesV x.nxt) false, Ob.nrow [] 110 l.length (vtsO l)] =
      some (.tup [.int .i64 (k + szH x + vtsC l), .osl x.root.length (bytesV (mkH k x).root), .osl x.set.length (bytesV (mkH k x).set), .osl x.nxt.length (bytesV (mkH k x).nxt), .osl l.length (vtsO (vtsM (k + szH x) l))]) := by
  refine E21 _ _ _ _ _ _ _ _ _ _ _ ?_
  unfold T21
  have hs : szH x ≤ 100000000 := h
  simp only [S0, c57 x k hk (by omega) h, c60 l (k + szH x) (by omega) (by omega) hf]
end Go.Proofs.YtgbpimaidhhnjaaGreat.Vote
