/-
  Packed words, tagged digests, sets of validators, trusts: their faults and digests.
-/
import Derived.Test.YtehpmolckdmibaaPLTrustTG
import Derived.Test.YtehpmolckdmibaaPMSet
namespace Go.Proofs.Ytehpmolckdmibaa.Set
open Go Go.PI Go.PI.Sha Go.PI.Rel Go.PI.Nest Go.PI.Tru Go.PI.Set Go.Proofs.Ytehpmolckdmibaa.Sha Go.Proofs.Ytehpmolckdmibaa.By Go.Proofs.Ytehpmolckdmibaa.Nest Go.Proofs.Ytehpmolckdmibaa.Tru EqG
set_option maxHeartbeats 1000000
set_option linter.unusedVariables false
set_option linter.unusedSimpArgs false

theorem l182 : ∀ (r d : List (List UInt8)) (n i : Nat), n = d.length + r.length → i = d.length → n ≤ 60 → (∀ w ∈ r, w.length ≤ 200) → (packW (d ++ r)).length ≤ 4000 →
    loopE C 182 0 [true, true, true, false, true] [] [(4, V.ref 0), (11, V.sl n (psS (d ++ r))), (12, V.int .i64 (n : Int)), (13, V.int .i64 (i : Int))] [Ob.row 5 (packW d).length (bytesV (packW d)) false] = some (.tup [.sl (packW (d ++ r)).length (bytesV (packW (d ++ r))), .bool true])
  | [], d, n, i, hn, hi, hq, hw, ht => by
    refine E182l1 _ _ _ _ _ _ ?_
    unfold T182l1
    have : ¬ i < n := by simp at hn; omega
    simp [this]
  | b :: r, d, n, i, hn, hi, hq, hw, ht => by
    simp only [List.length_cons] at hn
    have hb := hw b (by simp)
    have ep : packW (d ++ [b]) = packW d ++ b8 b.length :: b := by simp [packW]
    have el : (packW (d ++ b :: r)).length = (packW d).length + 1 + b.length + (packW r).length := by rw [packW_append, packW_cons]; simp; omega
    have ih := l182 r (d ++ [b]) n (i + 1) (by simp; omega) (by simp; omega) hq (fun w h => hw w (by simp [h])) (by simpa using ht)
    refine E182l1 _ _ _ _ _ _ ?_
    unfold T182l1
    have hlt : i < n := by omega
    have hw' := w64_succ (n := i) (by omega)
    have hg : (psS (d ++ b :: r))[i]? = some (bS b) := by subst hi; exact psS_at d b r
    have hl : (psS (d ++ b :: r)).length = n := by rw [psS_length]; simp; omega
    have c1 : ¬ (b.length : Int) > 200 := by omega
    have c2 : ¬ IntKind.i64.wrap (IntKind.i64.wrap (((packW d).length : Int) + 1) + (b.length : Int)) > 4000 := by
      rw [w64 (n := ((packW d).length : Int) + 1) (by omega) (by omega), w64 (by omega) (by omega)]; omega
    have d1 : (packW d).length + 1 ≤ 140737488355328 := by omega
    have d2 : (packW d).length + 1 + b.length ≤ 140737488355328 := by omega
    have e1 : bytesV (packW d) ++ [V.int .u8 ((b8 (b.length : Int)).toNat : Int)] ++ bytesV b = bytesV (packW (d ++ [b])) := by rw [ep, bytesV_append, bytesV_cons]; simp
    have e2 : (packW d).length + 1 + b.length = (packW (d ++ [b])).length := by rw [ep]; simp; omega
    simp only [List.append_assoc d, List.singleton_append] at ih
    simp only [Int.ofNat_lt, decide_true, decide_false, cond_true, cond_false, inB_nat, inB_zero, must_true, Int.toNat_natCast, asInt_int, asBool_bool, asSl_sl, asOsl_osl, asStr_str, orcE_R, orcE_W, orcE_L, orcE_X, need_some', asTup_tup, List.getElem?_cons_zero, List.getElem?_cons_succ, Bool.not_true, Bool.not_false, Bool.true_and, Bool.and_true, Bool.false_or, ble_dec, beq_dec, List.length_cons, List.length_nil, Nat.mul_one, Nat.zero_add, Nat.add_zero, Nat.sub_zero, both_self', bytesV_length, bytesV_flat, bytesV_isU8, hlt, hg, hl, bS, c1, c2, d1, d2, wrap_b8, e1, hw']
    rw [e2, ih]
theorem c100 (ws : List (List UInt8)) (h : small ws) : runE C 100 [.sl ws.length (psS ws)] = some (.tup [.sl (packW ws).length (bytesV (packW ws))]) := by
  obtain ⟨h1, h2, h3⟩ := h
  have k : runE C 182 [.sl ws.length (psS ws)] = some (.tup [.sl (packW ws).length (bytesV (packW ws)), .bool true]) := by
    refine E182 _ _ ?_
    unfold T182
    have c1 : ¬ (ws.length : Int) > 60 := by omega
    rw [decide_eq_false c1]
    exact l182 ws [] ws.length 0 (by simp) rfl h1 h2 (by rw [List.nil_append, packW_length]; exact h3)
  refine E100 _ _ ?_
  unfold T100
  simp only [Int.ofNat_lt, decide_true, decide_false, cond_true, cond_false, inB_nat, inB_zero, must_true, Int.toNat_natCast, asInt_int, asBool_bool, asSl_sl, asOsl_osl, asStr_str, orcE_R, orcE_W, orcE_L, orcE_X, need_some', asTup_tup, List.getElem?_cons_zero, List.getElem?_cons_succ, Bool.not_true, Bool.not_false, Bool.true_and, Bool.and_true, Bool.false_or, ble_dec, beq_dec, List.length_cons, List.length_nil, Nat.mul_one, Nat.zero_add, Nat.add_zero, Nat.sub_zero, both_self', bytesV_length, bytesV_flat, bytesV_isU8, k]
theorem l111 : ∀ (r d : List (List UInt8)) (n i : Nat), n = d.length + r.length → i = d.length → n ≤ 1000000 → (packW (d ++ r)).length ≤ 1000000000 →
    loopE C 111 0 [true, true, false, true] [] [(0, V.sl n (psS (d ++ r))), (3, V.ref 0), (4, V.int .i64 (i : Int))] [Ob.row 5 (packW d).length (bytesV (packW d)) false] = some (.tup [.osl (packW (d ++ r)).length (bytesV (packW (d ++ r)))])
  | [], d, n, i, hn, hi, hq, ht => by
    refine E111l1 _ _ _ _ _ ?_
    unfold T111l1
    have : ¬ i < n := by simp at hn; omega
    simp [this]
  | b :: r, d, n, i, hn, hi, hq, ht => by
    simp only [List.length_cons] at hn
    have ep : packW (d ++ [b]) = packW d ++ b8 b.length :: b := by simp [packW]
    have el : (packW (d ++ b :: r)).length = (packW d).length + 1 + b.length + (packW r).length := by rw [packW_append, packW_cons]; simp; omega
    have ih := l111 r (d ++ [b]) n (i + 1) (by simp; omega) (by simp; omega) hq (by simpa using ht)
    refine E111l1 _ _ _ _ _ ?_
    unfold T111l1
    have hlt : i < n := by omega
    have hw' := w64_succ (n := i) (by omega)
    have hg : (psS (d ++ b :: r))[i]? = some (bS b) := by subst hi; exact psS_at d b r
    have hl : (psS (d ++ b :: r)).length = n := by rw [psS_length]; simp; omega
    have d1 : (packW d).length + 1 ≤ 140737488355328 := by omega
    have d2 : (packW d).length + 1 + b.length ≤ 140737488355328 := by omega
    have e1 : bytesV (packW d) ++ [V.int .u8 ((b8 (b.length : Int)).toNat : Int)] ++ bytesV b = bytesV (packW (d ++ [b])) := by rw [ep, bytesV_append, bytesV_cons]; simp
    have e2 : (packW d).length + 1 + b.length = (packW (d ++ [b])).length := by rw [ep]; simp; omega
    simp only [List.append_assoc d, List.singleton_append] at ih
    simp only [Int.ofNat_lt, decide_true, decide_false, cond_true, cond_false, inB_nat, inB_zero, must_true, Int.toNat_natCast, asInt_int, asBool_bool, asSl_sl, asOsl_osl, asStr_str, orcE_R, orcE_W, orcE_L, orcE_X, need_some', asTup_tup, List.getElem?_cons_zero, List.getElem?_cons_succ, Bool.not_true, Bool.not_false, Bool.true_and, Bool.and_true, Bool.false_or, ble_dec, beq_dec, List.length_cons, List.length_nil, Nat.mul_one, Nat.zero_add, Nat.add_zero, Nat.sub_zero, both_self', bytesV_length, bytesV_flat, bytesV_isU8, hlt, hg, hl, bS, d1, d2, wrap_b8, e1, hw']
    rw [e2, ih]
theorem c111 (ws : List (List UInt8)) (h : small ws) : runE C 111 [.sl ws.length (psS ws)] = some (.tup [.osl (packW ws).length (bytesV (packW ws))]) := by
  obtain ⟨h1, h2, h3⟩ := h
  refine E111 _ _ ?_
  unfold T111
  exact l111 ws [] ws.length 0 (by simp) rfl (by omega) (by rw [List.nil_append, packW_length]; omega)
theorem partsV_eq (ps : List (List UInt8)) : partsV ps = psS ps := by
  induction ps with
  | nil => rfl
  | cons p ps ih => unfold psS at ih ⊢; rw [List.flatMap_cons, ← ih]; rfl
theorem g216 (t : List UInt8) (ps : List (List UInt8)) (ht : t.length ≤ 100) (hp : ps.length ≤ 1000) (h : ps.flatten.length ≤ 1000000) : runE C 216 [.str ⟨t.toArray⟩, .sl ps.length (psS ps)] = some (.tup [.osl 32 (bytesV (sha (tagW t ps.flatten)))]) := by
  refine E216 _ _ _ ?_
  unfold T216
  have k := c183 ([b8 t.length] :: t :: ps) (by simp; omega) (by simp; simp at h; omega)
  have e : ([b8 t.length] :: t :: ps).flatten = tagW t ps.flatten := by simp [tagW]
  rw [e] at k
  have e2 : partsV ([b8 t.length] :: t :: ps) = V.sl 1 [V.int .u8 ((b8 t.length).toNat : Int)] :: V.sl t.length (bytesV t) :: psS ps := by rw [← partsV_eq]; rfl
  rw [e2] at k
  have hl : ([b8 t.length] :: t :: ps).length = 2 + ps.length := by simp; omega
  rw [hl] at k
  have hs : (⟨t.toArray⟩ : ByteArray).size = t.length := by simp [ByteArray.size]
  have d1 : t.length ≤ 140737488355328 := by omega
  have d2 : 2 + ps.length ≤ 140737488355328 := by omega
  have d3 : (2 + ps.length) * 24 ≤ 140737488355328 := by omega
  have hl2 : (psS ps).length = ps.length := psS_length ps
  simp only [hs, Int.ofNat_lt, decide_true, decide_false, cond_true, cond_false, inB_nat, inB_zero, must_true, Int.toNat_natCast, asInt_int, asBool_bool, asSl_sl, asOsl_osl, asStr_str, orcE_R, orcE_W, orcE_L, orcE_X, need_some', asTup_tup, List.getElem?_cons_zero, List.getElem?_cons_succ, Bool.not_true, Bool.not_false, Bool.true_and, Bool.and_true, Bool.false_or, ble_dec, beq_dec, List.length_cons, List.length_nil, Nat.mul_one, Nat.zero_add, Nat.add_zero, Nat.sub_zero, both_self', bytesV_length, bytesV_flat, bytesV_isU8, d1, d2, d3, wrap_b8, hl2]
  simp only [List.cons_append, List.nil_append, k, Int.ofNat_lt, decide_true, decide_false, cond_true, cond_false, inB_nat, inB_zero, must_true, Int.toNat_natCast, asInt_int, asBool_bool, asSl_sl, asOsl_osl, asStr_str, orcE_R, orcE_W, orcE_L, orcE_X, need_some', asTup_tup, List.getElem?_cons_zero, List.getElem?_cons_succ, Bool.not_true, Bool.not_false, Bool.true_and, Bool.and_true, Bool.false_or, ble_dec, beq_dec, List.length_cons, List.length_nil, Nat.mul_one, Nat.zero_add, Nat.add_zero, Nat.sub_zero, both_self', bytesV_length, bytesV_flat, bytesV_isU8, bytesV_flat]
  try rfl
theorem c216 (t p : List UInt8) (ht : t.length ≤ 100) (h : p.length ≤ 1000000) : runE C 216 [.str ⟨t.toArray⟩, .sl 1 [.sl p.length (bytesV p)]] = some (.tup [.osl 32 (bytesV (sha (tagW t p)))]) := by
  have := g216 t [p] ht (by simp) (by simpa using h)
  rw [show [p].flatten = p by simp] at this
  exact this
theorem c244 (t p : List UInt8) (ht : t.length ≤ 100) (h : p.length ≤ 1000000) : runE C 244 [.str ⟨t.toArray⟩, .sl p.length (bytesV p)] = some (.tup [.osl 32 (bytesV (sha (tagW t p)))]) := by
  refine E244 _ _ _ ?_
  unfold T244
  have k := c187 (tagW t p) (by simp [tagW]; omega)
  have hl : (tagW t p).length = 1 + t.length + p.length := by simp [tagW]; omega
  have hs : (⟨t.toArray⟩ : ByteArray).size = t.length := by simp [ByteArray.size]
  have e : bytesV (tagW t p) = V.int .u8 ((b8 (t.length : Int)).toNat : Int) :: bytesV t ++ bytesV p := by rw [tagW, bytesV_cons, bytesV_append]; rfl
  rw [hl, e] at k
  have d0 : t.length ≤ 140737488355328 := by omega
  have d1 : 1 + t.length ≤ 140737488355328 := by omega
  have d2 : 1 + t.length + p.length ≤ 140737488355328 := by omega
  have em : ((t.length : Int)).tmod 256 = (t.length : Int) := Int.tmod_eq_of_lt (by omega) (by omega)
  simp only [hs, Int.ofNat_lt, decide_true, decide_false, cond_true, cond_false, inB_nat, inB_zero, must_true, Int.toNat_natCast, asInt_int, asBool_bool, asSl_sl, asOsl_osl, asStr_str, orcE_R, orcE_W, orcE_L, orcE_X, need_some', asTup_tup, List.getElem?_cons_zero, List.getElem?_cons_succ, Bool.not_true, Bool.not_false, Bool.true_and, Bool.and_true, Bool.false_or, ble_dec, beq_dec, List.length_cons, List.length_nil, Nat.mul_one, Nat.zero_add, Nat.add_zero, Nat.sub_zero, both_self', bytesV_length, bytesV_flat, bytesV_isU8, d0, d1, d2, em, wrap_b8, k]
end Go.Proofs.Ytehpmolckdmibaa.Set
