/-
  Packed words, tagged digests, sets of validators, trusts: their faults and digests.
-/
import Derived.Test.YtodapaplfjfnlaaGreatPLTrustTQ
import Derived.Test.YtodapaplfjfnlaaGreatPMSet
namespace Go.Proofs.YtodapaplfjfnlaaGreat.Set
open Go Go.PI Go.PI.Sha Go.PI.Rel Go.PI.Nest Go.PI.Tru Go.PI.Set Go.Proofs.YtodapaplfjfnlaaGreat.Sha Go.Proofs.YtodapaplfjfnlaaGreat.By Go.Proofs.YtodapaplfjfnlaaGreat.Nest Go.Proofs.YtodapaplfjfnlaaGreat.Tru EqQ
set_option maxHeartbeats 1000000
set_option linter.unusedVariables false
set_option linter.unusedSimpArgs false
theorem l183 : ∀ (r d : List (List UInt8)) (n i : Nat), n = d.length + r.length → i = d.length → n ≤ 60 → (∀ w ∈ r, w.length ≤ 200) → (packW (d ++ r)).length ≤ 4000 →
    loopE C 183 0 [true, true, true, false, true] [] [(4, V.ref 0), (11, V.sl n (psS (d ++ r))), (12, V.int .i64 (n : Int)), (13, V.int .i64 (i : Int))] [Ob.row 5 (packW d).length (bytesV (packW d)) false] = some (.tup [.sl (packW (d ++ r)).length (bytesV (packW (d ++ r))), .bool true])
  | [], d, n, i, hn, hi, hq, hw, ht => by
    refine E183l1 _ _ _ _ _ _ ?_
    unfold T183l1
    have : ¬ i < n := by simp at hn; omega
    simp [this]
  | b :: r, d, n, i, hn, hi, hq, hw, ht => by
    simp only [List.length_cons] at hn
    have hb := hw b (by simp)
    have ep : packW (d ++ [b]) = packW d ++ b8 b.length :: b := by simp [packW]
    have el : (packW (d ++ b :: r)).length = (packW d).length + 1 + b.length + (packW r).length := by rw [packW_append, packW_cons]; simp; omega
    have ih := l183 r (d ++ [b]) n (i + 1) (by simp; omega) (by simp; omega) hq (fun w h => hw w (by simp [h])) (by simpa using ht)
    refine E183l1 _ _ _ _ _ _ ?_
    unfold T183l1
    have hlt : i < n := by omega
    have hw' := w64_succ (n := i) (by omega)
    have hg : (psS (d ++ b :: r))[i]? = some (bS b) := by subst hi; exact psS_at d b r
    have hl : (psS (d ++ b :: r)).length = n := by rw [psS_length]; simp; omega
    have c1 : ¬ (b.length : Int) > 200 := by omega
    have c2 : ¬ IntKind.i64.wrap (IntKind.i64.wrap (((packW d).length : Int) + 1) + (b.length : Int)) > 4000 := by
      rw [w64 (n := ((packW d).length : Int) + 1) (by omega) (by omega), w64 (by omega) (by omega)]; omega
    have d1 : (packW d).length + 1 ≤ 140737488355328 := by omega
    have d2 : (packW d).length + 1 + b.length ≤ 140737488355328 := by omega
    have e1 : bytesV (packW d) ++ [V.int .u8 ((b8 (b.length : Int)).toNat : Int)] ++ bytesV b = bytesV (packW (d ++ [b])) := by rw [ep, bytesV_append, bytesV_cons]; simp
    have e2 : (packW d).length + 1 + b.length = (packW (d ++ [b])).length := by rw [ep]; simp; omega
    simp only [List.append_assoc d, List.singleton_append] at ih
    simp only [S0, hlt, hg, hl, bS, c1, c2, d1, d2, wrap_b8, e1, hw']
    rw [e2, ih]
theorem c131 (ws : List (List UInt8)) (h : small ws) : runE C 131 [.sl ws.length (psS ws)] = some (.tup [.sl (packW ws).length (bytesV (packW ws))]) := by
  obtain ⟨h1, h2, h3⟩ := h
  have k : runE C 183 [.sl ws.length (psS ws)] = some (.tup [.sl (packW ws).length (bytesV (packW ws)), .bool true]) := by
    refine E183 _ _ ?_
    unfold T183
    have c1 : ¬ (ws.length : Int) > 60 := by omega
    rw [decide_eq_false c1]
    exact l183 ws [] ws.length 0 (by simp) rfl h1 h2 (by rw [List.nil_append, packW_length]; exact h3)
  refine E131 _ _ ?_
  unfold T131
  simp only [S0, k]
theorem l143 : ∀ (r d : List (List UInt8)) (n i : Nat), n = d.length + r.length → i = d.length → n ≤ 1000000 → (packW (d ++ r)).length ≤ 1000000000 →
    loopE C 143 0 [true, true, false, true] [] [(0, V.sl n (psS (d ++ r))), (3, V.ref 0), (4, V.int .i64 (i : Int))] [Ob.row 5 (packW d).length (bytesV (packW d)) false] = some (.tup [.osl (packW (d ++ r)).length (bytesV (packW (d ++ r)))])
  | [], d, n, i, hn, hi, hq, ht => by
    refine E143l1 _ _ _ _ _ ?_
    unfold T143l1
    have : ¬ i < n := by simp at hn; omega
    simp [this]
  | b :: r, d, n, i, hn, hi, hq, ht => by
    simp only [List.length_cons] at hn
    have ep : packW (d ++ [b]) = packW d ++ b8 b.length :: b := by simp [packW]
    have el : (packW (d ++ b :: r)).length = (packW d).length + 1 + b.length + (packW r).length := by rw [packW_append, packW_cons]; simp; omega
    have ih := l143 r (d ++ [b]) n (i + 1) (by simp; omega) (by simp; omega) hq (by simpa using ht)
    refine E143l1 _ _ _ _ _ ?_
    unfold T143l1
    have hlt : i < n := by omega
    have hw' := w64_succ (n := i) (by omega)
    have hg : (psS (d ++ b :: r))[i]? = some (bS b) := by subst hi; exact psS_at d b r
    have hl : (psS (d ++ b :: r)).length = n := by rw [psS_length]; simp; omega
    have d1 : (packW d).length + 1 ≤ 140737488355328 := by omega
    have d2 : (packW d).length + 1 + b.length ≤ 140737488355328 := by omega
    have e1 : bytesV (packW d) ++ [V.int .u8 ((b8 (b.length : Int)).toNat : Int)] ++ bytesV b = bytesV (packW (d ++ [b])) := by rw [ep, bytesV_append, bytesV_cons]; simp
    have e2 : (packW d).length + 1 + b.length = (packW (d ++ [b])).length := by rw [ep]; simp; omega
    simp only [List.append_assoc d, List.singleton_append] at ih
    simp only [S0, hlt, hg, hl, bS, d1, d2, wrap_b8, e1, hw']
    rw [e2, ih]
theorem c143 (ws : List (List UInt8)) (h : small ws) : runE C 143 [.sl ws.length (psS ws)] = some (.tup [.osl (packW ws).length (bytesV (packW ws))]) := by
  obtain ⟨h1, h2, h3⟩ := h
  refine E143 _ _ ?_
  unfold T143
  exact l143 ws [] ws.length 0 (by simp) rfl (by omega) (by rw [List.nil_append, packW_length]; omega)
theorem partsV_eq (ps : List (List UInt8)) : partsV ps = psS ps := by
  induction ps with
  | nil => rfl
  | cons p ps ih => unfold psS at ih ⊢; rw [List.flatMap_cons, ← ih]; rfl
theorem g147 (t : List UInt8) (ps : List (List UInt8)) (ht : t.length ≤ 100) (hp : ps.length ≤ 1000) (h : ps.flatten.length ≤ 1000000) : runE C 147 [.str ⟨t.toArray⟩, .sl ps.length (psS ps)] = some (.tup [.osl 32 (bytesV (sha (tagW t ps.flatten)))]) := by
  refine E147 _ _ _ ?_
  unfold T147
  have k := c130 ([b8 t.length] :: t :: ps) (by simp; omega) (by simp; simp at h; omega)
  have e : ([b8 t.length] :: t :: ps).flatten = tagW t ps.flatten := by simp [tagW]
  rw [e] at k
  have e2 : partsV ([b8 t.length] :: t :: ps) = V.sl 1 [V.int .u8 ((b8 t.length).toNat : Int)] :: V.sl t.length (bytesV t) :: psS ps := by rw [← partsV_eq]; rfl
  rw [e2] at k
  have hl : ([b8 t.length] :: t :: ps).length = 2 + ps.length := by simp; omega
  rw [hl] at k
  have hs : (⟨t.toArray⟩ : ByteArray).size = t.length := by simp [ByteArray.size]
  have d1 : t.length ≤ 140737488355328 := by omega
  have d2 : 2 + ps.length ≤ 140737488355328 := by omega
  have d3 : (2 + ps.length) * 24 ≤ 140737488355328 := by omega
  have hl2 : (psS ps).length = ps.length := psS_length ps
  simp only [hs, S0, d1, d2, d3, wrap_b8, hl2]
  simp only [List.cons_append, List.nil_append, k, S0, bytesV_flat]
  try rfl
theorem c147 (t p : List UInt8) (ht : t.length ≤ 100) (h : p.length ≤ 1000000) : runE C 147 [.str ⟨t.toArray⟩, .sl 1 [.sl p.length (bytesV p)]] = some (.tup [.osl 32 (bytesV (sha (tagW t p)))]) := by
  have := g147 t [p] ht (by simp) (by simpa using h)
  rw [show [p].flatten = p by simp] at this
  exact this
theorem c138 (t p : List UInt8) (ht : t.length ≤ 100) (h : p.length ≤ 1000000) : runE C 138 [.str ⟨t.toArray⟩, .sl p.length (bytesV p)] = some (.tup [.osl 32 (bytesV (sha (tagW t p)))]) := by
  refine E138 _ _ _ ?_
  unfold T138
  have k := c186 (tagW t p) (by simp [tagW]; omega)
  have hl : (tagW t p).length = 1 + t.length + p.length := by simp [tagW]; omega
  have hs : (⟨t.toArray⟩ : ByteArray).size = t.length := by simp [ByteArray.size]
  have e : bytesV (tagW t p) = V.int .u8 ((b8 (t.length : Int)).toNat : Int) :: bytesV t ++ bytesV p := by rw [tagW, bytesV_cons, bytesV_append]; rfl
  rw [hl, e] at k
  have d0 : t.length ≤ 140737488355328 := by omega
  have d1 : 1 + t.length ≤ 140737488355328 := by omega
  have d2 : 1 + t.length + p.length ≤ 140737488355328 := by omega
  have em : ((t.length : Int)).tmod 256 = (t.length : Int) := Int.tmod_eq_of_lt (by omega) (by omega)
  simp only [hs, S0, d0, d1, d2, em, wrap_b8, k]
theorem ps2 (d : List (List UInt8)) (a b : List UInt8) : psS d ++ [V.sl a.length (bytesV a), V.sl b.length (bytesV b)] = psS (d ++ [a, b]) := by simp [psS, bS]
theorem l103 : ∀ (r d : List Vd) (n i : Nat), n = d.length + r.length → i = d.length → n ≤ 1000 → small (setW (d ++ r)) →
    loopE C 103 0 [true, true, false, true] [] [(3, V.ref 0), (7, V.sl n (vsS (d ++ r))), (8, V.int .i64 (n : Int)), (9, V.int .i64 (i : Int))] [Ob.row 22 (setW d).length (psS (setW d)) false] = some (.tup [.sl 32 (bytesV (setDig (d ++ r)))])
  | [], d, n, i, hn, hi, hq, hs => by
    refine E103l1 _ _ _ _ _ _ ?_
    unfold T103l1
    have : ¬ i < n := by simp at hn; omega
    rw [List.append_nil] at hs ⊢
    have k1 := c131 (setW d) hs
    have k2 := c147 setTag (packW (setW d)) (by decide) (by rw [packW_length]; have := hs.2.2; omega)
    simp only [S0, this, k1]
    have k2 : runE C 147 _ = _ := k2
    first
      | exact (congrArg (fun o => need o fun x12 => asTup (some x12) fun x13 => asSl x13[0]? fun x14 x15 => some (V.tup [V.sl x14 x15])) k2).trans rfl
      | exact (congrArg (fun o => need o fun x12 => asTup (some x12) fun x13 => asOsl x13[0]? fun x14 x15 => some (V.tup [V.sl x14 x15])) k2).trans rfl
  | b :: r, d, n, i, hn, hi, hq, hs => by
    simp only [List.length_cons] at hn
    have ih := l103 r (d ++ [b]) n (i + 1) (by simp; omega) (by simp; omega) hq (by simpa using hs)
    refine E103l1 _ _ _ _ _ _ ?_
    unfold T103l1
    have hlt : i < n := by omega
    have hw := w64_succ (n := i) (by omega)
    have g0 := vsS_at0 hi b r
    have g1 := vsS_at1 hi b r
    have sl := setW_length d
    have d1 : (setW d).length + 2 ≤ 140737488355328 := by omega
    have d2 : ((setW d).length + 2) * 24 ≤ 140737488355328 := by omega
    have e : psS (setW d) ++ [V.sl b.key.length (bytesV b.key), V.sl 7 (bytesV (num7 b.pow))] = psS (setW (d ++ [b])) := by
      have := ps2 (setW d) b.key (num7 b.pow)
      rw [num7_length] at this
      rw [this, setW_snoc]
    have e2 : (setW d).length + 2 = (setW (d ++ [b])).length := by rw [setW_snoc]; simp
    simp only [List.append_assoc, List.singleton_append] at ih
    simp only [S0, hlt, g0, g1, c133, d1, d2, e, hw]
    rw [e2, ih]
theorem c103 (l : List Vd) (h : small (setW l)) : runE C 103 [.sl l.length (vsS l)] = some (.tup [.sl 32 (bytesV (setDig l))]) := by
  refine E103 _ _ ?_
  unfold T103
  exact l103 l [] l.length 0 (by simp) rfl (by have := h.1; rw [setW_length] at this; omega) h
theorem l69 : ∀ (r d : List Vd) (n i : Nat), n = d.length + r.length → i = d.length → n ≤ 1000 → small (setW (d ++ r)) →
    loopE C 69 0 [true, true, false, true] [] [(0, V.sl n (vsS (d ++ r))), (3, V.ref 0), (4, V.int .i64 (i : Int))] [Ob.row 22 (setW d).length (psS (setW d)) false] = some (.tup [.sl 32 (bytesV (setDig (d ++ r)))])
  | [], d, n, i, hn, hi, hq, hs => by
    refine E69l1 _ _ _ _ _ ?_
    unfold T69l1
    have : ¬ i < n := by simp at hn; omega
    rw [List.append_nil] at hs ⊢
    have k1 := c143 (setW d) hs
    have k2 := c138 setTag (packW (setW d)) (by decide) (by rw [packW_length]; have := hs.2.2; omega)
    simp only [S0, this, k1]
    have k2 : runE C 138 _ = _ := k2
    first
      | exact (congrArg (fun o => need o fun x12 => asTup (some x12) fun x13 => asSl x13[0]? fun x14 x15 => some (V.tup [V.sl x14 x15])) k2).trans rfl
      | exact (congrArg (fun o => need o fun x12 => asTup (some x12) fun x13 => asOsl x13[0]? fun x14 x15 => some (V.tup [V.sl x14 x15])) k2).trans rfl
  | b :: r, d, n, i, hn, hi, hq, hs => by
    simp only [List.length_cons] at hn
    have ih := l69 r (d ++ [b]) n (i + 1) (by simp; omega) (by simp; omega) hq (by simpa using hs)
    refine E69l1 _ _ _ _ _ ?_
    unfold T69l1
    have hlt : i < n := by omega
    have hw := w64_succ (n := i) (by omega)
    have g0 := vsS_at0 hi b r
    have g1 := vsS_at1 hi b r
    have hl : (vsS (d ++ b :: r)).length = n * 2 := by rw [vsS_length]; simp; omega
    have hb : i * 2 < n * 2 := by omega
    have sl := setW_length d
    have d1 : (setW d).length + 2 ≤ 140737488355328 := by omega
    have d2 : ((setW d).length + 2) * 24 ≤ 140737488355328 := by omega
    have e : psS (setW d) ++ [V.sl b.key.length (bytesV b.key), V.sl 7 (bytesV (num7 b.pow))] = psS (setW (d ++ [b])) := by
      have := ps2 (setW d) b.key (num7 b.pow)
      rw [num7_length] at this
      rw [this, setW_snoc]
    have e2 : (setW d).length + 2 = (setW (d ++ [b])).length := by rw [setW_snoc]; simp
    simp only [List.append_assoc, List.singleton_append] at ih
    simp only [S0, hlt, hl, hb, g0, g1, c142, d1, d2, e, hw]
    rw [e2, ih]
theorem c69 (l : List Vd) (h : small (setW l)) : runE C 69 [.sl l.length (vsS l)] = some (.tup [.sl 32 (bytesV (setDig l))]) := by
  refine E69 _ _ ?_
  unfold T69
  exact l69 l [] l.length 0 (by simp) rfl (by have := h.1; rw [setW_length] at this; omega) h
end Go.Proofs.YtodapaplfjfnlaaGreat.Set
