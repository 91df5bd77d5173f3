/-
  Signed heads as arguments of laws: sizes and copies.
-/
import Derived.Test.YtgbpimaidhhnjaaGreatPLSignedTX
namespace Go.PI.Vote
open Go Go.PI Go.PI.Sha Go.PI.Rel Go.PI.Nest Go.PI.Tru
def vtT (v : Vt) : Nat := v.parts.length + tot List.length v.parts + (v.path.length + tot List.length v.path)
theorem vtT_tot : ∀ (l : List Vt), tot vtT l = tot vtZ l + tot vtN l
  | [] => rfl
  | v :: l => by simp only [tot, vtT_tot l, vtT, vtZ, vtN]; omega
theorem vtsT_fit {l : List Vt} (h : l.length ≤ 100000000) (h1 : tot vtT l ≤ 100000000) : vtsfit l := by
  rw [vtT_tot] at h1; exact ⟨h, by omega, by omega⟩
def vtz : List V := [.int .i64 0, .int .i64 0, .nilsl, .int .i64 0, .int .i64 0, .nilsl]
def vtB (v : Vt) : Prop := (v.parts.length ≤ 9223372036854775807 ∧ ∀ w ∈ v.parts, w.length ≤ 9223372036854775807) ∧ (v.path.length ≤ 9223372036854775807 ∧ ∀ w ∈ v.path, w.length ≤ 9223372036854775807)
end Go.PI.Vote
namespace Go.Proofs.YtgbpimaidhhnjaaGreat.Vote
open Go Go.PI Go.PI.Sha Go.PI.Rel Go.PI.Nest Go.PI.Tru Go.PI.Set Go.PI.Tree Go.PI.Vote Go.Proofs.YtgbpimaidhhnjaaGreat.Sha Go.Proofs.YtgbpimaidhhnjaaGreat.By Go.Proofs.YtgbpimaidhhnjaaGreat.Nest Go.Proofs.YtgbpimaidhhnjaaGreat.Tru Go.Proofs.YtgbpimaidhhnjaaGreat.Set Go.Proofs.YtgbpimaidhhnjaaGreat.Tree EqX
set_option maxHeartbeats 1000000
set_option linter.unusedVariables false
set_option linter.unusedSimpArgs false
theorem c131 (v : Vt) (left : Int) (hl : 0 ≤ left) (hl2 : left ≤ 4611686018427387904) (h : v.path.length ≤ 9223372036854775807 ∧ ∀ w ∈ v.path, w.length ≤ 9223372036854775807) : runE C 131 [.agg [.int .i64 v.spl, .int .i64 v.cnt, .sl v.path.length (psS v.path)], .int .i64 left] = some (.tup [.int .i64 (less left (v.path.length + tot List.length v.path))]) := by
  refine E131 _ _ _ _ _ ?_
  unfold T131
  have k := c31 v.path left h.1 h.2 hl hl2
  by_cases g : left < ((v.path.length + tot List.length v.path) : Nat)
  · rw [less_lt g] at k ⊢
    simp only [S0, k]; rfl
  · rw [less_ge g] at k ⊢
    have n : ¬ (left - ((v.path.length + tot List.length v.path) : Nat) < 0) := by omega
    simp only [S0, k, n]
theorem c112 (v : Vt) (left : Int) (hl : 0 ≤ left) (hl2 : left ≤ 4611686018427387904) (h : vtB v) : runE C 112 [.agg [.int .i64 v.leaf, .sl v.parts.length (psS v.parts), .int .i64 v.spl, .int .i64 v.cnt, .sl v.path.length (psS v.path)], .int .i64 left] = some (.tup [.int .i64 (less left (vtT v))]) := by
  refine E112 _ _ _ _ _ _ _ _ ?_
  unfold T112
  have k := c31 v.parts left h.1.1 h.1.2 hl hl2
  by_cases g : left < ((v.parts.length + tot List.length v.parts) : Nat)
  · rw [less_lt g] at k
    rw [less_lt (by unfold vtT; omega)]
    simp only [S0, k]; rfl
  rw [less_ge g] at k
  have n : ¬ (left - ((v.parts.length + tot List.length v.parts) : Nat) < 0) := by omega
  have k2 := c131 v (left - ((v.parts.length + tot List.length v.parts) : Nat)) (by omega) (by omega) h.2
  rw [less_less g] at k2
  by_cases g2 : left < ((v.parts.length + tot List.length v.parts) + (v.path.length + tot List.length v.path) : Nat)
  · rw [less_lt g2] at k2
    rw [less_lt (by unfold vtT; omega)]
    simp only [S0, k, n, k2]; rfl
  · rw [less_ge g2] at k2
    have n2 : ¬ (left - ((v.parts.length + tot List.length v.parts) + (v.path.length + tot List.length v.path) : Nat) < 0) := by omega
    rw [less_ge (by unfold vtT; omega)]
    unfold vtT
    simp only [S0, k, n, k2, n2]
theorem c70 (v : Vt) (left : Int) (hl : 0 ≤ left) (hl2 : left ≤ 4611686018427387904) (h : vtB v) : runE C 70 [.agg [.int .i64 v.plc, .int .i64 v.leaf, .sl v.parts.length (psS v.parts), .int .i64 v.spl, .int .i64 v.cnt, .sl v.path.length (psS v.path)], .int .i64 left] = some (.tup [.int .i64 (less left (vtT v))]) := by
  refine E70 _ _ _ _ _ _ _ _ _ ?_
  unfold T70
  have k := c112 v left hl hl2 h
  by_cases g : left < (vtT v : Int)
  · rw [less_lt g] at k ⊢
    simp only [S0, k]; rfl
  · rw [less_ge g] at k ⊢
    have n : ¬ (left - (vtT v : Int) < 0) := by omega
    simp only [S0, k, n]
theorem l33 : ∀ (r d : List Vt) (left : Int) (n i : Nat), n = d.length + r.length → i = d.length → n ≤ 4611686018427387904 → (∀ v ∈ r, vtB v) → 0 ≤ left → left ≤ 4611686018427387904 →
    loopE C 33 0 [true, true, true, false, true] [] [(0, V.sl n (vtsS (d ++ r))), (1, V.int .i64 left), (5, V.int .i64 (i : Int))] [] = some (.tup [.int .i64 (less left (tot vtT r))])
  | [], d, left, n, i, hn, hi, hq, hv, h1, h2 => by
    refine E33l1 _ _ _ _ ?_
    unfold T33l1
    have : ¬ i < n := by simp at hn; omega
    rw [less_ge (by simp [tot]; omega)]
    simp [this, tot]
  | b :: r, d, left, n, i, hn, hi, hq, hv, h1, h2 => by
    simp only [List.length_cons] at hn
    have hlt : i < n := by omega
    have hw := w64_succ (n := i) (by omega)
    have g0 : (vtsS (d ++ b :: r))[i * 6]? = _ := vtsS_at0 hi b r
    have g1 : (vtsS (d ++ b :: r))[i * 6 + 1]? = _ := vtsS_at1 hi b r
    have g2 : (vtsS (d ++ b :: r))[i * 6 + 1 + 1]? = _ := vtsS_at2 hi b r
    have g3 : (vtsS (d ++ b :: r))[i * 6 + 1 + 1 + 1]? = _ := vtsS_at3 hi b r
    have g4 : (vtsS (d ++ b :: r))[i * 6 + 1 + 1 + 1 + 1]? = _ := vtsS_at4 hi b r
    have g5 : (vtsS (d ++ b :: r))[i * 6 + 1 + 1 + 1 + 1 + 1]? = _ := vtsS_at5 hi b r
    have k := c70 b left h1 h2 (hv b (by simp))
    have et : tot vtT (b :: r) = vtT b + tot vtT r := rfl
    rw [et]
    refine E33l1 _ _ _ _ ?_
    unfold T33l1
    by_cases g : left < (vtT b : Int)
    · rw [less_lt g] at k
      rw [less_lt (by omega)]
      simp only [S0, hlt, g0, g1, g2, g3, g4, g5, k]
      rfl
    · rw [less_ge g] at k
      have n1 : ¬ (left - (vtT b : Int) < 0) := by omega
      have ih := l33 r (d ++ [b]) (left - vtT b) n (i + 1) (by simp; omega) (by simp; omega) hq (fun u hu => hv u (by simp [hu])) (by omega) (by omega)
      rw [less_less g] at ih
      simp only [List.append_assoc, List.singleton_append] at ih
      simp only [S0, hlt, g0, g1, g2, g3, g4, g5, k, n1, hw, ih]
theorem c33 (l : List Vt) (left : Int) (h : l.length ≤ 9223372036854775807) (hv : ∀ v ∈ l, vtB v) (h1 : 0 ≤ left) (h2 : left ≤ 4611686018427387904) :
    runE C 33 [.sl l.length (vtsS l), .int .i64 left] = some (.tup [.int .i64 (less left (l.length + tot vtT l))]) := by
  refine E33 _ _ _ ?_
  unfold T33
  rw [w64 (by omega) (by omega)]
  by_cases g : left < (l.length : Int)
  · rw [less_lt (by omega), decide_eq_true (by omega)]
    rfl
  · have k := l33 l [] (left - l.length) l.length 0 (by simp) rfl (by omega) hv (by omega) (by omega)
    rw [less_less g] at k
    rw [decide_eq_false (by omega)]
    exact k
theorem c9 (x : HB) (l : List Vt) (left : Int) (hx : x.root.length ≤ 9223372036854775807 ∧ x.set.length ≤ 9223372036854775807 ∧ x.nxt.length ≤ 9223372036854775807) (h : l.length ≤ 9223372036854775807) (hv : ∀ v ∈ l, vtB v) (h1 : 0 ≤ left) (h2 : left ≤ 4611686018427387904) :
    runE C 9 [.agg [.int .i64 x.hgt, .int .i64 x.tim, .sl x.root.length (bytesV x.root), .sl x.set.length (bytesV x.set), .sl x.nxt.length (bytesV x.nxt), .sl l.length (vtsS l)], .int .i64 left] = some (.tup [.int .i64 (less left (szH x + (l.length + tot vtT l)))]) := by
  refine E9 _ _ _ _ _ _ _ _ _ _ _ ?_
  unfold T9
  have k := c30 x left hx h1 h2
  by_cases g : left < (szH x : Int)
  · rw [less_lt g] at k
    rw [less_lt (by omega)]
    simp only [S0, k]; rfl
  rw [less_ge g] at k
  have n : ¬ (left - (szH x : Int) < 0) := by omega
  have k2 := c33 l (left - (szH x : Int)) h hv (by omega) (by omega)
  rw [less_less g] at k2
  by_cases g2 : left < ((szH x + (l.length + tot vtT l) : Nat) : Int)
  · rw [less_lt g2] at k2 ⊢
    simp only [S0, k, n, k2]; rfl
  · rw [less_ge g2] at k2 ⊢
    have n2 : ¬ (left - ((szH x + (l.length + tot vtT l) : Nat) : Int) < 0) := by omega
    simp only [S0, k, n, k2, n2]
theorem c87 (v : Vt) (h : vtfit v) : runE C 87 [.agg [.int .i64 v.plc, .int .i64 v.leaf, .sl v.parts.length (psS v.parts), .int .i64 v.spl, .int .i64 v.cnt, .sl v.path.length (psS v.path)]] = some (.tup [.int .i64 v.plc, .int .i64 v.leaf, .osl v.parts.length (psO v.parts), .int .i64 v.spl, .int .i64 v.cnt, .osl v.path.length (psO v.path)]) := by
  unfold vtfit vtZ vtN at h
  have k1 := c43 v.parts ⟨by omega, by omega⟩
  have k2 := c43 v.path ⟨by omega, by omega⟩
  have k3 : runE C 142 [.agg [.int .i64 v.spl, .int .i64 v.cnt, .sl v.path.length (psS v.path)]] = some (.tup [.int .i64 v.spl, .int .i64 v.cnt, .osl v.path.length (psO v.path)]) := by
    refine E142 _ _ _ _ ?_
    unfold T142
    simp only [S0, k2]
  have k4 : runE C 118 [.agg [.int .i64 v.leaf, .sl v.parts.length (psS v.parts), .int .i64 v.spl, .int .i64 v.cnt, .sl v.path.length (psS v.path)]] = some (.tup [.int .i64 v.leaf, .osl v.parts.length (psO v.parts), .int .i64 v.spl, .int .i64 v.cnt, .osl v.path.length (psO v.path)]) := by
    refine E118 _ _ _ _ _ _ _ ?_
    unfold T118
    simp only [S0, k1, k3]
  refine E87 _ _ _ _ _ _ _ _ ?_
  unfold T87
  simp only [S0, k4]
theorem l45 : ∀ (r d : List Vt) (n i : Nat), n = d.length + r.length → i = d.length → n < 1000000000 → (∀ v ∈ r, vtfit v) →
    loopE C 45 0 [true, true, false, true] [] [(0, V.sl n (vtsS (d ++ r))), (3, V.ref 0), (4, V.int .i64 (i : Int))] [Ob.nrow [] 110 n (prt vtO vtz d r.length)] = some (.tup [.osl n (vtsO (d ++ r))])
  | [], d, n, i, hn, hi, hq, ht => by
    refine E45l1 _ _ _ _ _ ?_
    unfold T45l1
    have : ¬ i < n := by simp at hn; omega
    rw [List.length_nil, prt_full]
    simp [this, vtsO]
  | b :: r, d, n, i, hn, hi, hq, ht => by
    simp only [List.length_cons] at hn ⊢
    have ih := l45 r (d ++ [b]) n (i + 1) (by simp; omega) (by simp; omega) hq (fun v h => ht v (by simp [h]))
    refine E45l1 _ _ _ _ _ ?_
    unfold T45l1
    have hlt : i < n := by omega
    have hw := w64_succ (n := i) (by omega)
    have g0 : (vtsS (d ++ b :: r))[i * 6]? = _ := vtsS_at0 hi b r
    have g1 : (vtsS (d ++ b :: r))[i * 6 + 1]? = _ := vtsS_at1 hi b r
    have g2 : (vtsS (d ++ b :: r))[i * 6 + 1 + 1]? = _ := vtsS_at2 hi b r
    have g3 : (vtsS (d ++ b :: r))[i * 6 + 1 + 1 + 1]? = _ := vtsS_at3 hi b r
    have g4 : (vtsS (d ++ b :: r))[i * 6 + 1 + 1 + 1 + 1]? = _ := vtsS_at4 hi b r
    have g5 : (vtsS (d ++ b :: r))[i * 6 + 1 + 1 + 1 + 1 + 1]? = _ := vtsS_at5 hi b r
    have hs : splice (prt vtO vtz d (r.length + 1)) (i * 6) [V.int .i64 b.plc, V.int .i64 b.leaf, V.own true 22 1 b.parts.length (psO b.parts), V.int .i64 b.spl, V.int .i64 b.cnt, V.own true 22 1 b.path.length (psO b.path)] = prt vtO vtz (d ++ [b]) r.length := by subst hi; exact prt_step vtO vtO6 (z := vtz) rfl d b r.length
    have hl : (prt vtO vtz d (r.length + 1)).length = n * 6 := by rw [prt_length vtO vtO6 (z := vtz) rfl]; congr 1; omega
    have hb : i * 6 + (0 + 1 + 1 + 1 + 1 + 1 + 1) ≤ n * 6 := by omega
    simp only [List.append_assoc, List.singleton_append] at ih
    simp only [S0, hlt, g0, g1, g2, g3, g4, g5, c87 b (ht b (by simp)), hl, hs, hw, ih]
    simp only [hb, S0]
theorem c45 (l : List Vt) (hf : vtsfit l) : runE C 45 [.sl l.length (vtsS l)] = some (.tup [.osl l.length (vtsO l)]) := by
  refine E45 _ _ ?_
  unfold T45
  have := l45 l [] l.length 0 (by simp) rfl (by have := hf.1; omega) (fun v h => vtsfit_of hf h)
  rw [prt_zero] at this
  rw [must_of (by have := hf.1; simp; omega)]
  simpa [vtz] using this
theorem c13 (x : HB) (l : List Vt) (h : fitH x) (hf : vtsfit l) : runE C 13 [.agg [.int .i64 x.hgt, .int .i64 x.tim, .sl x.root.length (bytesV x.root), .sl x.set.length (bytesV x.set), .sl x.nxt.length (bytesV x.nxt), .sl l.length (vtsS l)]] = some (.tup [.int .i64 x.hgt, .int .i64 x.tim, .osl x.root.length (bytesV x.root), .osl x.set.length (bytesV x.set), .osl x.nxt.length (bytesV x.nxt), .osl l.length (vtsO l)]) := by
  refine E13 _ _ _ _ _ _ _ _ _ _ ?_
  unfold T13
  simp only [S0, c42 x h, c45 l hf]
end Go.Proofs.YtgbpimaidhhnjaaGreat.Vote
