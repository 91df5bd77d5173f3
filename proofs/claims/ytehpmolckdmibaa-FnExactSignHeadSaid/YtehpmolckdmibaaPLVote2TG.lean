/-
  SignHead, both sides.
-/
import Derived.Test.YtehpmolckdmibaaPLVoteTG
namespace Go.Proofs.Ytehpmolckdmibaa.Vote
open Go Go.PI Go.PI.Sha Go.PI.Rel Go.PI.Nest Go.PI.Tru Go.PI.Set Go.PI.Tree Go.PI.Vote Go.Proofs.Ytehpmolckdmibaa.Sha Go.Proofs.Ytehpmolckdmibaa.By Go.Proofs.Ytehpmolckdmibaa.Nest Go.Proofs.Ytehpmolckdmibaa.Tru Go.Proofs.Ytehpmolckdmibaa.Set Go.Proofs.Ytehpmolckdmibaa.Tree EqG
set_option maxHeartbeats 1000000
set_option linter.unusedVariables false
set_option linter.unusedSimpArgs false
/-! ### the digest of a head that is signed -/
theorem hbW_cells (x : HB) : psS (hbW x) = [V.sl 7 (bytesV (num7 x.hgt)), V.sl 7 (bytesV (num7 x.tim)), V.sl x.root.length (bytesV x.root), V.sl x.set.length (bytesV x.set), V.sl x.nxt.length (bytesV x.nxt)] := by
  simp only [psS, hbW, List.flatMap_cons, List.flatMap_nil, bS, num7_length, List.cons_append, List.nil_append]
theorem ints_at {i : Nat} {d : List Int} (hi : i = d.length) (v : Int) (r : List Int) : (ints (d ++ v :: r))[i]? = some (.int .i64 v) := by
  subst hi
  rw [ints_append, List.getElem?_append_right (by rw [ints_length]; exact Nat.le_refl _), ints_length, Nat.sub_self]; rfl
theorem seed_at {l : List (List UInt8)} {i : Nat} (h : i < l.length) : (psS l)[i]? = some (.sl (l.getD i []).length (bytesV (l.getD i []))) := by
  have e : l = l.take i ++ l.getD i [] :: l.drop (i + 1) := by rw [List.getD_eq_getElem?_getD, List.getElem?_eq_getElem h, Option.getD_some, ← List.drop_eq_getElem_cons h, List.take_append_drop]
  have hl : (l.take i).length = i := by rw [List.length_take]; omega
  have := psS_at (l.take i) (l.getD i []) (l.drop (i + 1))
  rw [← e, hl] at this
  exact this
theorem seed_short {l : List (List UInt8)} (h : ¬ l.any long = true) {i : Nat} (hi : i < l.length) : (l.getD i []).length ≤ 1000 := by
  have hm : l.getD i [] ∈ l := by rw [List.getD_eq_getElem?_getD, List.getElem?_eq_getElem hi]; exact List.getElem_mem hi
  have : long (l.getD i []) = false := by
    by_cases e : long (l.getD i []) = true
    · exact absurd (List.any_eq_true.2 ⟨_, hm, e⟩) h
    · simpa using e
  unfold long at this
  have := of_decide_eq_false this
  omega
theorem c142 (x : HB) (h : hbFault x = 0) : runE C 142 [.agg [.int .i64 x.hgt, .int .i64 x.tim, .sl x.root.length (bytesV x.root), .sl x.set.length (bytesV x.set), .sl x.nxt.length (bytesV x.nxt)]] = some (.tup [.sl 32 (bytesV (hbDig x))]) := by
  have hs := hbW_small h
  have k1 : runE C 100 [.sl 5 (psS (hbW x))] = _ := c100 (hbW x) hs
  rw [hbW_cells] at k1
  have k2 := c216 bftTag (packW (hbW x)) (by decide) (by rw [packW_length]; have := hs.2.2; omega)
  have k2 : runE C 216 [V.str { data := #[(98 : UInt8), (102 : UInt8), (116 : UInt8)] }, V.sl 1 [V.sl (packW (hbW x)).length (bytesV (packW (hbW x)))]] = some (.tup [.osl 32 (bytesV (hbDig x))]) := k2
  refine E142 _ _ _ _ _ _ _ _ ?_
  unfold T142
  simp only [Int.ofNat_lt, decide_true, decide_false, cond_true, cond_false, inB_nat, inB_zero, must_true, Int.toNat_natCast, asInt_int, asBool_bool, asSl_sl, asOsl_osl, asStr_str, orcE_R, orcE_W, orcE_L, orcE_X, need_some', asTup_tup, List.getElem?_cons_zero, List.getElem?_cons_succ, Bool.not_true, Bool.not_false, Bool.true_and, Bool.and_true, Bool.false_or, ble_dec, beq_dec, List.length_cons, List.length_nil, Nat.mul_one, Nat.zero_add, Nat.add_zero, Nat.sub_zero, both_self', bytesV_length, bytesV_flat, bytesV_isU8, c102, k1, k2]
theorem c217 (x : HB) (h : hbFault x = 0) : runE C 217 [.agg [.int .i64 x.hgt, .int .i64 x.tim, .sl x.root.length (bytesV x.root), .sl x.set.length (bytesV x.set), .sl x.nxt.length (bytesV x.nxt)]] = some (.tup [.sl 32 (bytesV (hbDig x))]) := by
  have hs := hbW_small h
  have k1 : runE C 111 [.sl 5 (psS (hbW x))] = _ := c111 (hbW x) hs
  rw [hbW_cells] at k1
  have k2 := c244 bftTag (packW (hbW x)) (by decide) (by rw [packW_length]; have := hs.2.2; omega)
  have k2 : runE C 244 [V.str { data := #[(98 : UInt8), (102 : UInt8), (116 : UInt8)] }, V.sl (packW (hbW x)).length (bytesV (packW (hbW x)))] = some (.tup [.osl 32 (bytesV (hbDig x))]) := k2
  have k0 := c143 x
  rw [h] at k0
  refine E217 _ _ _ _ _ _ _ _ ?_
  unfold T217
  simp only [Int.ofNat_lt, decide_true, decide_false, cond_true, cond_false, inB_nat, inB_zero, must_true, Int.toNat_natCast, asInt_int, asBool_bool, asSl_sl, asOsl_osl, asStr_str, orcE_R, orcE_W, orcE_L, orcE_X, need_some', asTup_tup, List.getElem?_cons_zero, List.getElem?_cons_succ, Bool.not_true, Bool.not_false, Bool.true_and, Bool.and_true, Bool.false_or, ble_dec, beq_dec, List.length_cons, List.length_nil, Nat.mul_one, Nat.zero_add, Nat.add_zero, Nat.sub_zero, both_self', bytesV_length, bytesV_flat, bytesV_isU8, k0, bne_f, c188, k1, k2]
theorem okP_cons (n : Nat) (k : Int) (r : List Int) (p : Int) : okP n (k :: r) p = (decide (0 ≤ k ∧ k ≤ (n : Int) - 1) && (decide (p < k) && okP n r k)) := rfl
theorem c138 (b : List UInt8) : runE C 138 [.sl b.length (bytesV b)] = some (.tup [.bool (long b)]) := by
  refine E138 _ _ ?_
  unfold T138 long
  have e : decide ((b.length : Int) > 200) = decide (200 < b.length) := by rw [Bool.eq_iff_iff]; simp; omega
  rw [e]
theorem lLg : ∀ (r d : List (List UInt8)) (n i : Nat), n = d.length + r.length → i = d.length → n < 1000000000 →
    ∃ x : Int, (decide (x ≥ 0) = r.any long) ∧ loopE C 211 0 [true, false, true] [] [(0, V.sl n (psS (d ++ r))), (1, V.fn 138 []), (7, V.int .i64 (n : Int)), (8, V.int .i64 (i : Int))] [] = some (.tup [.int .i64 x])
  | [], d, n, i, hn, hi, hq => by
    refine ⟨-1, by simp, E211l1 _ _ _ _ ?_⟩
    unfold T211l1
    have : ¬ i < n := by simp at hn; omega
    simp [this]
  | b :: r, d, n, i, hn, hi, hq => by
    simp only [List.length_cons] at hn
    have hlt : i < n := by omega
    have hw := w64_succ (n := i) (by omega)
    have hg : (psS (d ++ b :: r))[i]? = some (bS b) := by subst hi; exact psS_at d b r
    have hl : (psS (d ++ b :: r)).length = n := by rw [psS_length]; simp; omega
    by_cases e : long b = true
    · refine ⟨i, by simp [e], E211l1 _ _ _ _ ?_⟩
      unfold T211l1
      simp only [Int.ofNat_lt, decide_true, decide_false, cond_true, cond_false, inB_nat, inB_zero, must_true, Int.toNat_natCast, asInt_int, asBool_bool, asSl_sl, asOsl_osl, asStr_str, orcE_R, orcE_W, orcE_L, orcE_X, need_some', asTup_tup, List.getElem?_cons_zero, List.getElem?_cons_succ, Bool.not_true, Bool.not_false, Bool.true_and, Bool.and_true, Bool.false_or, ble_dec, beq_dec, List.length_cons, List.length_nil, Nat.mul_one, Nat.zero_add, Nat.add_zero, Nat.sub_zero, both_self', bytesV_length, bytesV_flat, bytesV_isU8, hlt, hg, hl, bS, c138, e]
    · obtain ⟨x, h1, ih⟩ := lLg r (d ++ [b]) n (i + 1) (by simp; omega) (by simp; omega) hq
      refine ⟨x, by rw [h1]; simp [e], E211l1 _ _ _ _ ?_⟩
      unfold T211l1
      have e : long b = false := by simpa using e
      simp only [List.append_assoc, List.singleton_append] at ih
      simp only [Int.ofNat_lt, decide_true, decide_false, cond_true, cond_false, inB_nat, inB_zero, must_true, Int.toNat_natCast, asInt_int, asBool_bool, asSl_sl, asOsl_osl, asStr_str, orcE_R, orcE_W, orcE_L, orcE_X, need_some', asTup_tup, List.getElem?_cons_zero, List.getElem?_cons_succ, Bool.not_true, Bool.not_false, Bool.true_and, Bool.and_true, Bool.false_or, ble_dec, beq_dec, List.length_cons, List.length_nil, Nat.mul_one, Nat.zero_add, Nat.add_zero, Nat.sub_zero, both_self', bytesV_length, bytesV_flat, bytesV_isU8, hlt, hg, hl, bS, c138, e, hw, ih]
theorem iLg (l : List (List UInt8)) (h : l.length < 1000000000) : ∃ x : Int, (decide (x ≥ 0) = l.any long) ∧ runE C 211 [.sl l.length (psS l), .fn 138 []] = some (.tup [.int .i64 x]) := by
  obtain ⟨x, h1, h2⟩ := lLg l [] l.length 0 (by simp) rfl h
  refine ⟨x, h1, E211 _ _ ?_⟩
  unfold T211
  exact h2
theorem cLong (l : List (List UInt8)) (h : l.length < 1000000000) : runE C 137 [.sl l.length (psS l), .fn 138 []] = some (.tup [.bool (l.any long)]) := by
  obtain ⟨x, h1, h2⟩ := iLg l h
  refine E137 _ _ ?_
  unfold T137
  simp only [Int.ofNat_lt, decide_true, decide_false, cond_true, cond_false, inB_nat, inB_zero, must_true, Int.toNat_natCast, asInt_int, asBool_bool, asSl_sl, asOsl_osl, asStr_str, orcE_R, orcE_W, orcE_L, orcE_X, need_some', asTup_tup, List.getElem?_cons_zero, List.getElem?_cons_succ, Bool.not_true, Bool.not_false, Bool.true_and, Bool.and_true, Bool.false_or, ble_dec, beq_dec, List.length_cons, List.length_nil, Nat.mul_one, Nat.zero_add, Nat.add_zero, Nat.sub_zero, both_self', bytesV_length, bytesV_flat, bytesV_isU8, h2, h1]
theorem c139 (n : Int) : runE C 139 [.int .i64 n] = some (.tup [.bool (decide (0 ≤ n ∧ n ≤ 3))]) := by
  refine E139 _ ?_
  unfold T139
  simp only [Int.ofNat_lt, decide_true, decide_false, cond_true, cond_false, inB_nat, inB_zero, must_true, Int.toNat_natCast, asInt_int, asBool_bool, asSl_sl, asOsl_osl, asStr_str, orcE_R, orcE_W, orcE_L, orcE_X, need_some', asTup_tup, List.getElem?_cons_zero, List.getElem?_cons_succ, Bool.not_true, Bool.not_false, Bool.true_and, Bool.and_true, Bool.false_or, ble_dec, beq_dec, List.length_cons, List.length_nil, Nat.mul_one, Nat.zero_add, Nat.add_zero, Nat.sub_zero, both_self', bytesV_length, bytesV_flat, bytesV_isU8, c92]
theorem l251 (seeds : List (List UInt8)) (lf : Nat) (x : HB) (hf : hbFault x = 0) (hlf : lf < 4) (hsd : ¬ seeds.any long = true) (hsl : seeds.length ≤ 5) : ∀ (r d : List Int) (n i : Nat) (K : List Vt), n = d.length + r.length → i = d.length → n ≤ 1000000 → K.length = i → (∀ k ∈ r, 0 ≤ k ∧ k ≤ (seeds.length : Int) - 1) →
    loopE C 51 2 [true, true, true, true, true, true, false, true] [] [(0, V.sl seeds.length (psS seeds)), (2, V.int .i64 (lf : Int)), (7, V.ptr 0 0), (8, V.ptr 1 0), (12, V.ptr 6 0), (69, V.sl n (ints (d ++ r))), (70, V.int .i64 (n : Int)), (71, V.int .i64 (i : Int))] [Ob.box 61 [V.int .i64 x.hgt, V.int .i64 x.tim, V.sl x.root.length (bytesV x.root), V.sl x.set.length (bytesV x.set), V.sl x.nxt.length (bytesV x.nxt)] false, Ob.box 98 [V.int .i64 0, V.int .i64 0, V.int .i64 0, V.ref 2, V.ref 3, V.ref 4, V.ref 5] false, Ob.row 5 0 [] false, Ob.row 5 0 [] false, Ob.row 5 0 [] false, Ob.nrow [] 195 0 [], Ob.box 96 [V.int .i64 x.hgt, V.int .i64 x.tim, V.ref 7, V.ref 8, V.ref 9, V.ref 10] false, Ob.row 5 x.root.length (bytesV x.root) false, Ob.row 5 x.set.length (bytesV x.set) false, Ob.row 5 x.nxt.length (bytesV x.nxt) false, Ob.nrow [] 195 K.length (vtsO K)] = some (.tup [.int .i64 0, .int .i64 x.hgt, .int .i64 x.tim, .osl x.root.length (bytesV x.root), .osl x.set.length (bytesV x.set), .osl x.nxt.length (bytesV x.nxt), .osl (K ++ r.map (vote seeds (lf : Int) (hbDig x))).length (vtsO (K ++ r.map (vote seeds (lf : Int) (hbDig x))))])
  | [], d, n, i, K, hn, hi, hq, hK, hr => by
    refine E51l2 _ _ _ _ _ _ _ _ _ _ _ _ _ _ _ _ _ _ _ _ _ _ _ _ _ _ _ _ _ _ _ _ _ _ _ _ ?_
    unfold T51l2
    have : ¬ i < n := by simp at hn; omega
    simp only [Int.ofNat_lt, decide_true, decide_false, cond_true, cond_false, inB_nat, inB_zero, must_true, Int.toNat_natCast, asInt_int, asBool_bool, asSl_sl, asOsl_osl, asStr_str, orcE_R, orcE_W, orcE_L, orcE_X, need_some', asTup_tup, List.getElem?_cons_zero, List.getElem?_cons_succ, Bool.not_true, Bool.not_false, Bool.true_and, Bool.and_true, Bool.false_or, ble_dec, beq_dec, List.length_cons, List.length_nil, Nat.mul_one, Nat.zero_add, Nat.add_zero, Nat.sub_zero, both_self', bytesV_length, bytesV_flat, bytesV_isU8, this, List.map_nil, List.append_nil]
  | b :: r, d, n, i, K, hn, hi, hq, hK, hr => by
    simp only [List.length_cons] at hn
    have hb := hr b (by simp)
    have hlt : i < n := by omega
    have hw := w64_succ (n := i) (by omega)
    have hg := ints_at hi b r
    have kd := c142 x hf
    obtain ⟨kn, rfl⟩ : ∃ kn : Nat, b = (kn : Int) := ⟨b.toNat, by omega⟩
    have hkn : kn < seeds.length := by omega
    have gs := seed_at hkn
    have hl : (psS seeds).length = seeds.length := psS_length seeds
    have ks := c141 (seeds.getD kn []) lf (hbDig x) (seed_short hsd hkn) hlf (by rw [hbDig_length]; decide)
    rw [hbDig_length] at ks
    have d1 : K.length + 1 ≤ 140737488355328 := by omega
    have d2 : (K.length + 1) * 80 ≤ 140737488355328 := by omega
    have es : vtsO K ++ [.int .i64 (kn : Int), .int .i64 (lf : Int), .own true 22 1 (partsF (seeds.getD kn []) lf (digits (hbDig x)) 0).length (psO (partsF (seeds.getD kn []) lf (digits (hbDig x)) 0)), .int .i64 (lf : Int), .int .i64 4, .own true 22 1 (path (leaves (seeds.getD kn [])) lf).length (psO (path (leaves (seeds.getD kn [])) lf))] = vtsO (K ++ [vote seeds (lf : Int) (hbDig x) (kn : Int)]) := vtsO_snoc K (vote seeds (lf : Int) (hbDig x) (kn : Int))
    have ih := l251 seeds lf x hf hlf hsd hsl r (d ++ [(kn : Int)]) n (i + 1) (K ++ [vote seeds (lf : Int) (hbDig x) (kn : Int)]) (by simp; omega) (by simp; omega) hq (by simp; omega) (fun k h => hr k (by simp [h]))
    rw [List.length_append, List.length_singleton] at ih
    simp only [List.append_assoc, List.singleton_append] at ih
    refine E51l2 _ _ _ _ _ _ _ _ _ _ _ _ _ _ _ _ _ _ _ _ _ _ _ _ _ _ _ _ _ _ _ _ _ _ _ _ ?_
    unfold T51l2
    simp only [Int.ofNat_lt, decide_true, decide_false, cond_true, cond_false, inB_nat, inB_zero, must_true, Int.toNat_natCast, asInt_int, asBool_bool, asSl_sl, asOsl_osl, asStr_str, orcE_R, orcE_W, orcE_L, orcE_X, need_some', asTup_tup, List.getElem?_cons_zero, List.getElem?_cons_succ, Bool.not_true, Bool.not_false, Bool.true_and, Bool.and_true, Bool.false_or, ble_dec, beq_dec, List.length_cons, List.length_nil, Nat.mul_one, Nat.zero_add, Nat.add_zero, Nat.sub_zero, both_self', bytesV_length, bytesV_flat, bytesV_isU8, hlt, hg, hkn, hl, kd, gs, ks, d1, d2, es, hw, ih, List.map_cons]
theorem l51 (seeds : List (List UInt8)) (lf : Nat) (x : HB) (hf : hbFault x = 0) (hlf : lf < 4) (hsd : ¬ seeds.any long = true) (hsl : seeds.length ≤ 5) (places : List Int) (hq : places.length ≤ 5) : ∀ (r d : List Int) (i : Nat) (p : Int), places = d ++ r → i = d.length → (d = [] ∧ p = -1 ∨ ∃ d', d = d' ++ [p]) → (∀ k ∈ d, 0 ≤ k ∧ k ≤ (seeds.length : Int) - 1) →
    loopE C 51 0 [true, true, true, true, false, true] [] [(0, V.sl seeds.length (psS seeds)), (1, V.sl places.length (ints places)), (2, V.int .i64 (lf : Int)), (7, V.ptr 0 0), (8, V.ptr 1 0), (38, V.sl places.length (ints places)), (39, V.int .i64 (places.length : Int)), (40, V.int .i64 (i : Int))] [Ob.box 61 [V.int .i64 x.hgt, V.int .i64 x.tim, V.sl x.root.length (bytesV x.root), V.sl x.set.length (bytesV x.set), V.sl x.nxt.length (bytesV x.nxt)] false, Ob.box 98 [V.int .i64 0, V.int .i64 0, V.int .i64 0, V.ref 2, V.ref 3, V.ref 4, V.ref 5] false, Ob.row 5 0 [] false, Ob.row 5 0 [] false, Ob.row 5 0 [] false, Ob.nrow [] 195 0 []] = if okP seeds.length r p = true then some (.tup [.int .i64 0, .int .i64 x.hgt, .int .i64 x.tim, .osl x.root.length (bytesV x.root), .osl x.set.length (bytesV x.set), .osl x.nxt.length (bytesV x.nxt), .osl (places.map (vote seeds (lf : Int) (hbDig x))).length (vtsO (places.map (vote seeds (lf : Int) (hbDig x))))]) else some (.tup [.int .i64 3, .int .i64 0, .int .i64 0, .osl 0 [], .osl 0 [], .osl 0 [], .osl 0 []])
  | [], d, i, p, hpl, hi, hp, hd => by
    have hl : places.length = d.length := by rw [hpl]; simp
    have e : d = places := by rw [hpl]; simp
    have kk := l251 seeds lf x hf hlf hsd hsl places [] places.length 0 [] (by simp) rfl (by omega) rfl (by rw [← e]; exact hd)
    rw [List.nil_append, List.nil_append] at kk
    have hlt : ¬ i < places.length := by omega
    rw [if_pos (show okP seeds.length [] p = true from rfl)]
    refine E51l1 _ _ _ _ _ _ _ _ _ _ _ _ _ _ _ _ _ _ _ _ _ _ _ _ _ _ _ _ ?_
    unfold T51l1
    simp only [Int.ofNat_lt, decide_true, decide_false, cond_true, cond_false, inB_nat, inB_zero, must_true, Int.toNat_natCast, asInt_int, asBool_bool, asSl_sl, asOsl_osl, asStr_str, orcE_R, orcE_W, orcE_L, orcE_X, need_some', asTup_tup, List.getElem?_cons_zero, List.getElem?_cons_succ, Bool.not_true, Bool.not_false, Bool.true_and, Bool.and_true, Bool.false_or, ble_dec, beq_dec, List.length_cons, List.length_nil, Nat.mul_one, Nat.zero_add, Nat.add_zero, Nat.sub_zero, both_self', bytesV_length, bytesV_flat, bytesV_isU8, hlt, c140 x (hbOk_fit hf)]
    exact kk
  | b :: r, d, i, p, hpl, hi, hp, hd => by
    have hl : places.length = d.length + (r.length + 1) := by rw [hpl]; simp
    have hlt : i < places.length := by omega
    have hw := w64_succ (n := i) (by omega)
    have hg : (ints places)[i]? = some (.int .i64 b) := by rw [hpl]; exact ints_at hi b r
    have ws : IntKind.i64.wrap ((seeds.length : Int) - 1) = (seeds.length : Int) - 1 := w64 (by omega) (by omega)
    by_cases c1 : 0 ≤ b ∧ b ≤ (seeds.length : Int) - 1
    case neg =>
      have eo : okP seeds.length (b :: r) p = false := by rw [okP_cons, decide_eq_false c1, Bool.false_and]
      rw [eo, if_neg (by simp)]
      refine E51l1 _ _ _ _ _ _ _ _ _ _ _ _ _ _ _ _ _ _ _ _ _ _ _ _ _ _ _ _ ?_
      unfold T51l1
      simp only [Int.ofNat_lt, decide_true, decide_false, cond_true, cond_false, inB_nat, inB_zero, must_true, Int.toNat_natCast, asInt_int, asBool_bool, asSl_sl, asOsl_osl, asStr_str, orcE_R, orcE_W, orcE_L, orcE_X, need_some', asTup_tup, List.getElem?_cons_zero, List.getElem?_cons_succ, Bool.not_true, Bool.not_false, Bool.true_and, Bool.and_true, Bool.false_or, ble_dec, beq_dec, List.length_cons, List.length_nil, Nat.mul_one, Nat.zero_add, Nat.add_zero, Nat.sub_zero, both_self', bytesV_length, bytesV_flat, bytesV_isU8, hlt, hg, ws, c92, decide_eq_false c1]
    have hprev : ¬ d = [] → (ints places)[(IntKind.i64.wrap ((i : Int) - 1)).toNat]? = some (.int .i64 p) ∧ (IntKind.i64.wrap ((i : Int) - 1)).toNat < places.length ∧ 0 ≤ IntKind.i64.wrap ((i : Int) - 1) := fun h => by
      obtain ⟨d', hd'⟩ := hp.resolve_left fun h' => h h'.1
      have hi' : i = d'.length + 1 := by rw [hi, hd']; simp
      have w : IntKind.i64.wrap ((i : Int) - 1) = (d'.length : Int) := by rw [w64 (by omega) (by omega)]; omega
      rw [w, Int.toNat_natCast]
      refine ⟨?_, by omega, by omega⟩
      rw [hpl, hd', List.append_assoc]
      exact ints_at rfl p (b :: r)
    have ih := l51 seeds lf x hf hlf hsd hsl places hq r (d ++ [b]) (i + 1) b (by rw [hpl]; simp) (by simp; omega) (.inr ⟨d, rfl⟩) (fun k h => by
      rcases List.mem_append.1 h with h | h
      · exact hd k h
      · rw [List.mem_singleton.1 h]; exact c1)
    by_cases c2 : p < b
    · have eo : okP seeds.length (b :: r) p = okP seeds.length r b := by rw [okP_cons, decide_eq_true c1, decide_eq_true c2, Bool.true_and, Bool.true_and]
      rw [eo, ← ih]
      obtain ⟨v, hv⟩ : ∃ v, loopE C 51 0 [true, true, true, true, false, true] [] [(0, V.sl seeds.length (psS seeds)), (1, V.sl places.length (ints places)), (2, V.int .i64 (lf : Int)), (7, V.ptr 0 0), (8, V.ptr 1 0), (38, V.sl places.length (ints places)), (39, V.int .i64 (places.length : Int)), (40, V.int .i64 ((i + 1 : Nat) : Int))] [Ob.box 61 [V.int .i64 x.hgt, V.int .i64 x.tim, V.sl x.root.length (bytesV x.root), V.sl x.set.length (bytesV x.set), V.sl x.nxt.length (bytesV x.nxt)] false, Ob.box 98 [V.int .i64 0, V.int .i64 0, V.int .i64 0, V.ref 2, V.ref 3, V.ref 4, V.ref 5] false, Ob.row 5 0 [] false, Ob.row 5 0 [] false, Ob.row 5 0 [] false, Ob.nrow [] 195 0 []] = some v := by
        rw [ih]; split <;> exact ⟨_, rfl⟩
      rw [hv]
      refine E51l1 _ _ _ _ _ _ _ _ _ _ _ _ _ _ _ _ _ _ _ _ _ _ _ _ _ _ _ _ ?_
      unfold T51l1
      by_cases h0 : d = []
      · have hi0 : ¬ (i : Int) > 0 := by rw [hi, h0]; simp
        simp only [Int.ofNat_lt, decide_true, decide_false, cond_true, cond_false, inB_nat, inB_zero, must_true, Int.toNat_natCast, asInt_int, asBool_bool, asSl_sl, asOsl_osl, asStr_str, orcE_R, orcE_W, orcE_L, orcE_X, need_some', asTup_tup, List.getElem?_cons_zero, List.getElem?_cons_succ, Bool.not_true, Bool.not_false, Bool.true_and, Bool.and_true, Bool.false_or, ble_dec, beq_dec, List.length_cons, List.length_nil, Nat.mul_one, Nat.zero_add, Nat.add_zero, Nat.sub_zero, both_self', bytesV_length, bytesV_flat, bytesV_isU8, hlt, hg, ws, c92, decide_eq_true c1, hi0, hw, hv]
      · obtain ⟨h1, h2, h3⟩ := hprev h0
        have hi0 : (i : Int) > 0 := by
          have : d.length ≠ 0 := fun h => h0 (List.length_eq_zero_iff.1 h)
          omega
        have h4 : inB (IntKind.i64.wrap ((i : Int) - 1)) places.length = true := by unfold inB; simp only [Bool.and_eq_true, decide_eq_true_eq]; omega
        have h5 : ¬ p ≥ b := by omega
        simp only [Int.ofNat_lt, decide_true, decide_false, cond_true, cond_false, inB_nat, inB_zero, must_true, Int.toNat_natCast, asInt_int, asBool_bool, asSl_sl, asOsl_osl, asStr_str, orcE_R, orcE_W, orcE_L, orcE_X, need_some', asTup_tup, List.getElem?_cons_zero, List.getElem?_cons_succ, Bool.not_true, Bool.not_false, Bool.true_and, Bool.and_true, Bool.false_or, ble_dec, beq_dec, List.length_cons, List.length_nil, Nat.mul_one, Nat.zero_add, Nat.add_zero, Nat.sub_zero, both_self', bytesV_length, bytesV_flat, bytesV_isU8, hlt, hg, ws, c92, decide_eq_true c1, hi0, h4, must_true, h1, h5, hw, hv]
    · have eo : okP seeds.length (b :: r) p = false := by rw [okP_cons, decide_eq_true c1, decide_eq_false c2, Bool.false_and, Bool.and_false]
      rw [eo, if_neg (by simp)]
      have h0 : ¬ d = [] := fun h => by
        rcases hp with h' | ⟨d', h'⟩
        · omega
        · rw [h] at h'; simp at h'
      obtain ⟨h1, h2, h3⟩ := hprev h0
      have hi0 : (i : Int) > 0 := by
        have : d.length ≠ 0 := fun h => h0 (List.length_eq_zero_iff.1 h)
        omega
      have h4 : inB (IntKind.i64.wrap ((i : Int) - 1)) places.length = true := by unfold inB; simp only [Bool.and_eq_true, decide_eq_true_eq]; omega
      have h5 : p ≥ b := by omega
      refine E51l1 _ _ _ _ _ _ _ _ _ _ _ _ _ _ _ _ _ _ _ _ _ _ _ _ _ _ _ _ ?_
      unfold T51l1
      simp only [Int.ofNat_lt, decide_true, decide_false, cond_true, cond_false, inB_nat, inB_zero, must_true, Int.toNat_natCast, asInt_int, asBool_bool, asSl_sl, asOsl_osl, asStr_str, orcE_R, orcE_W, orcE_L, orcE_X, need_some', asTup_tup, List.getElem?_cons_zero, List.getElem?_cons_succ, Bool.not_true, Bool.not_false, Bool.true_and, Bool.and_true, Bool.false_or, ble_dec, beq_dec, List.length_cons, List.length_nil, Nat.mul_one, Nat.zero_add, Nat.add_zero, Nat.sub_zero, both_self', bytesV_length, bytesV_flat, bytesV_isU8, hlt, hg, ws, c92, decide_eq_true c1, hi0, h4, must_true, h1, h5]
theorem c51 (seeds : List (List UInt8)) (places : List Int) (leaf : Int) (x : HB) (h1 : seeds.length < 1000000000) (h2 : places.length < 1000000000) : runE C 51 [.sl seeds.length (psS seeds), .sl places.length (ints places), .int .i64 leaf, .agg [.int .i64 x.hgt, .int .i64 x.tim, .sl x.root.length (bytesV x.root), .sl x.set.length (bytesV x.set), .sl x.nxt.length (bytesV x.nxt)]] = some (.tup [.int .i64 (signH seeds places leaf x).1, .int .i64 (signH seeds places leaf x).2.1.hgt, .int .i64 (signH seeds places leaf x).2.1.tim, .osl (signH seeds places leaf x).2.1.root.length (bytesV (signH seeds places leaf x).2.1.root), .osl (signH seeds places leaf x).2.1.set.length (bytesV (signH seeds places leaf x).2.1.set), .osl (signH seeds places leaf x).2.1.nxt.length (bytesV (signH seeds places leaf x).2.1.nxt), .osl (signH seeds places leaf x).2.2.length (vtsO (signH seeds places leaf x).2.2)]) := by
  refine E51 _ _ _ _ _ _ _ _ _ _ _ _ _ ?_
  unfold T51 signH
  have k0 := c136 x
  by_cases g0 : hbFault x = 0
  case neg =>
    rw [if_pos g0]
    simp only [Int.ofNat_lt, decide_true, decide_false, cond_true, cond_false, inB_nat, inB_zero, must_true, Int.toNat_natCast, asInt_int, asBool_bool, asSl_sl, asOsl_osl, asStr_str, orcE_R, orcE_W, orcE_L, orcE_X, need_some', asTup_tup, List.getElem?_cons_zero, List.getElem?_cons_succ, Bool.not_true, Bool.not_false, Bool.true_and, Bool.and_true, Bool.false_or, ble_dec, beq_dec, List.length_cons, List.length_nil, Nat.mul_one, Nat.zero_add, Nat.add_zero, Nat.sub_zero, both_self', bytesV_length, bytesV_flat, bytesV_isU8, k0, bne_t g0]
    rfl
  rw [if_neg (fun h => h g0)]
  rw [g0] at k0
  by_cases g1 : 5 < seeds.length
  · rw [if_pos g1]
    have t : (seeds.length : Int) > 5 := by omega
    simp only [Int.ofNat_lt, decide_true, decide_false, cond_true, cond_false, inB_nat, inB_zero, must_true, Int.toNat_natCast, asInt_int, asBool_bool, asSl_sl, asOsl_osl, asStr_str, orcE_R, orcE_W, orcE_L, orcE_X, need_some', asTup_tup, List.getElem?_cons_zero, List.getElem?_cons_succ, Bool.not_true, Bool.not_false, Bool.true_and, Bool.and_true, Bool.false_or, ble_dec, beq_dec, List.length_cons, List.length_nil, Nat.mul_one, Nat.zero_add, Nat.add_zero, Nat.sub_zero, both_self', bytesV_length, bytesV_flat, bytesV_isU8, k0, bne_f, decide_eq_true t]
    rfl
  rw [if_neg g1]
  have t1 : ¬ (seeds.length : Int) > 5 := by omega
  by_cases g2 : 5 < places.length
  · rw [if_pos g2]
    have t : (places.length : Int) > 5 := by omega
    simp only [Int.ofNat_lt, decide_true, decide_false, cond_true, cond_false, inB_nat, inB_zero, must_true, Int.toNat_natCast, asInt_int, asBool_bool, asSl_sl, asOsl_osl, asStr_str, orcE_R, orcE_W, orcE_L, orcE_X, need_some', asTup_tup, List.getElem?_cons_zero, List.getElem?_cons_succ, Bool.not_true, Bool.not_false, Bool.true_and, Bool.and_true, Bool.false_or, ble_dec, beq_dec, List.length_cons, List.length_nil, Nat.mul_one, Nat.zero_add, Nat.add_zero, Nat.sub_zero, both_self', bytesV_length, bytesV_flat, bytesV_isU8, k0, bne_f, decide_eq_false t1, decide_eq_true t]
    rfl
  rw [if_neg g2]
  have t2 : ¬ (places.length : Int) > 5 := by omega
  have k3 := cLong seeds h1
  by_cases g3 : seeds.any long = true
  · rw [if_pos g3]
    rw [g3] at k3
    simp only [Int.ofNat_lt, decide_true, decide_false, cond_true, cond_false, inB_nat, inB_zero, must_true, Int.toNat_natCast, asInt_int, asBool_bool, asSl_sl, asOsl_osl, asStr_str, orcE_R, orcE_W, orcE_L, orcE_X, need_some', asTup_tup, List.getElem?_cons_zero, List.getElem?_cons_succ, Bool.not_true, Bool.not_false, Bool.true_and, Bool.and_true, Bool.false_or, ble_dec, beq_dec, List.length_cons, List.length_nil, Nat.mul_one, Nat.zero_add, Nat.add_zero, Nat.sub_zero, both_self', bytesV_length, bytesV_flat, bytesV_isU8, k0, bne_f, decide_eq_false t1, decide_eq_false t2, k3]
    rfl
  rw [if_neg g3]
  have g3' : seeds.any long = false := by simpa using g3
  rw [g3'] at k3
  by_cases g4 : 0 ≤ leaf ∧ leaf ≤ 3
  case neg =>
    rw [if_pos g4]
    simp only [Int.ofNat_lt, decide_true, decide_false, cond_true, cond_false, inB_nat, inB_zero, must_true, Int.toNat_natCast, asInt_int, asBool_bool, asSl_sl, asOsl_osl, asStr_str, orcE_R, orcE_W, orcE_L, orcE_X, need_some', asTup_tup, List.getElem?_cons_zero, List.getElem?_cons_succ, Bool.not_true, Bool.not_false, Bool.true_and, Bool.and_true, Bool.false_or, ble_dec, beq_dec, List.length_cons, List.length_nil, Nat.mul_one, Nat.zero_add, Nat.add_zero, Nat.sub_zero, both_self', bytesV_length, bytesV_flat, bytesV_isU8, k0, bne_f, decide_eq_false t1, decide_eq_false t2, k3, c139, decide_eq_false g4]
    rfl
  rw [if_neg (fun h => h g4)]
  obtain ⟨lf, rfl⟩ : ∃ lf : Nat, leaf = (lf : Int) := ⟨leaf.toNat, by omega⟩
  have kk := l51 seeds lf x g0 (by omega) g3 (by omega) places (by omega) places [] 0 (-1) rfl rfl (.inl ⟨rfl, rfl⟩) (fun k h => by simp at h)
  simp only [Int.ofNat_lt, decide_true, decide_false, cond_true, cond_false, inB_nat, inB_zero, must_true, Int.toNat_natCast, asInt_int, asBool_bool, asSl_sl, asOsl_osl, asStr_str, orcE_R, orcE_W, orcE_L, orcE_X, need_some', asTup_tup, List.getElem?_cons_zero, List.getElem?_cons_succ, Bool.not_true, Bool.not_false, Bool.true_and, Bool.and_true, Bool.false_or, ble_dec, beq_dec, List.length_cons, List.length_nil, Nat.mul_one, Nat.zero_add, Nat.add_zero, Nat.sub_zero, both_self', bytesV_length, bytesV_flat, bytesV_isU8, k0, bne_f, decide_eq_false t1, decide_eq_false t2, k3, c139, decide_eq_true g4]
  have kk : loopE C 51 0 [true, true, true, true, false, true] [] [(0, V.sl seeds.length (psS seeds)), (1, V.sl places.length (ints places)), (2, V.int .i64 (lf : Int)), (7, V.ptr 0 0), (8, V.ptr 1 0), (38, V.sl places.length (ints places)), (39, V.int .i64 (places.length : Int)), (40, V.int .i64 0)] [Ob.box 61 [V.int .i64 x.hgt, V.int .i64 x.tim, V.sl x.root.length (bytesV x.root), V.sl x.set.length (bytesV x.set), V.sl x.nxt.length (bytesV x.nxt)] false, Ob.box 98 [V.int .i64 0, V.int .i64 0, V.int .i64 0, V.ref 2, V.ref 3, V.ref 4, V.ref 5] false, Ob.row 5 0 [] false, Ob.row 5 0 [] false, Ob.row 5 0 [] false, Ob.nrow [] 195 0 []] = _ := kk
  rw [kk]
  by_cases g5 : okP seeds.length places (-1) = true
  · rw [if_pos g5, if_pos g5]
  · rw [if_neg g5, if_neg g5]; rfl
theorem l144 (seeds : List (List UInt8)) (lf : Nat) (x : HB) (hlf : lf < 4) (hsd : ¬ seeds.any long = true) (hsl : seeds.length ≤ 5) : ∀ (r d : List Int) (n i : Nat) (K : List Vt), n = d.length + r.length → i = d.length → n ≤ 1000000 → K.length = i → (∀ k ∈ r, 0 ≤ k ∧ k ≤ (seeds.length : Int) - 1) →
    loopE C 144 0 [true, true, true, false, true] [] [(0, V.sl seeds.length (psS seeds)), (1, V.sl n (ints (d ++ r))), (2, V.int .i64 (lf : Int)), (8, V.ptr 0 0), (9, V.ptr 5 0), (10, V.sl 32 (bytesV (hbDig x))), (11, V.int .i64 (i : Int))] [Ob.box 96 [V.int .i64 0, V.int .i64 0, V.ref 1, V.ref 2, V.ref 3, V.ref 4] false, Ob.row 5 0 [] false, Ob.row 5 0 [] false, Ob.row 5 0 [] false, Ob.nrow [] 195 0 [], Ob.box 96 [V.int .i64 x.hgt, V.int .i64 x.tim, V.ref 6, V.ref 7, V.ref 8, V.ref 9] false, Ob.row 5 x.root.length (bytesV x.root) false, Ob.row 5 x.set.length (bytesV x.set) false, Ob.row 5 x.nxt.length (bytesV x.nxt) false, Ob.nrow [] 195 K.length (vtsO K)] = some (.tup [.int .i64 x.hgt, .int .i64 x.tim, .osl x.root.length (bytesV x.root), .osl x.set.length (bytesV x.set), .osl x.nxt.length (bytesV x.nxt), .osl (K ++ r.map (vote seeds (lf : Int) (hbDig x))).length (vtsO (K ++ r.map (vote seeds (lf : Int) (hbDig x))))])
  | [], d, n, i, K, hn, hi, hq, hK, hr => by
    refine E144l1 _ _ _ _ _ _ _ _ _ _ _ _ _ _ _ _ _ _ _ _ _ _ _ _ _ _ _ _ ?_
    unfold T144l1
    have : ¬ i < n := by simp at hn; omega
    simp only [Int.ofNat_lt, decide_true, decide_false, cond_true, cond_false, inB_nat, inB_zero, must_true, Int.toNat_natCast, asInt_int, asBool_bool, asSl_sl, asOsl_osl, asStr_str, orcE_R, orcE_W, orcE_L, orcE_X, need_some', asTup_tup, List.getElem?_cons_zero, List.getElem?_cons_succ, Bool.not_true, Bool.not_false, Bool.true_and, Bool.and_true, Bool.false_or, ble_dec, beq_dec, List.length_cons, List.length_nil, Nat.mul_one, Nat.zero_add, Nat.add_zero, Nat.sub_zero, both_self', bytesV_length, bytesV_flat, bytesV_isU8, this, List.map_nil, List.append_nil]
  | b :: r, d, n, i, K, hn, hi, hq, hK, hr => by
    simp only [List.length_cons] at hn
    have hb := hr b (by simp)
    have hlt : i < n := by omega
    have hw := w64_succ (n := i) (by omega)
    have hg := ints_at hi b r
    obtain ⟨kn, rfl⟩ : ∃ kn : Nat, b = (kn : Int) := ⟨b.toNat, by omega⟩
    have hkn : kn < seeds.length := by omega
    have gs := seed_at hkn
    have hl : (psS seeds).length = seeds.length := psS_length seeds
    have ks := c218 (seeds.getD kn []) lf (hbDig x) (seed_short hsd hkn) hlf (by rw [hbDig_length]; decide)
    rw [hbDig_length] at ks
    have d1 : K.length + 1 ≤ 140737488355328 := by omega
    have d2 : (K.length + 1) * 80 ≤ 140737488355328 := by omega
    have es : vtsO K ++ [.int .i64 (kn : Int), .int .i64 (lf : Int), .own true 22 1 (partsF (seeds.getD kn []) lf (digits (hbDig x)) 0).length (psO (partsF (seeds.getD kn []) lf (digits (hbDig x)) 0)), .int .i64 (lf : Int), .int .i64 4, .own true 22 1 (path (leaves (seeds.getD kn [])) lf).length (psO (path (leaves (seeds.getD kn [])) lf))] = vtsO (K ++ [vote seeds (lf : Int) (hbDig x) (kn : Int)]) := vtsO_snoc K (vote seeds (lf : Int) (hbDig x) (kn : Int))
    have ih := l144 seeds lf x hlf hsd hsl r (d ++ [(kn : Int)]) n (i + 1) (K ++ [vote seeds (lf : Int) (hbDig x) (kn : Int)]) (by simp; omega) (by simp; omega) hq (by simp; omega) (fun k h => hr k (by simp [h]))
    rw [List.length_append, List.length_singleton] at ih
    simp only [List.append_assoc, List.singleton_append] at ih
    refine E144l1 _ _ _ _ _ _ _ _ _ _ _ _ _ _ _ _ _ _ _ _ _ _ _ _ _ _ _ _ ?_
    unfold T144l1
    simp only [Int.ofNat_lt, decide_true, decide_false, cond_true, cond_false, inB_nat, inB_zero, must_true, Int.toNat_natCast, asInt_int, asBool_bool, asSl_sl, asOsl_osl, asStr_str, orcE_R, orcE_W, orcE_L, orcE_X, need_some', asTup_tup, List.getElem?_cons_zero, List.getElem?_cons_succ, Bool.not_true, Bool.not_false, Bool.true_and, Bool.and_true, Bool.false_or, ble_dec, beq_dec, List.length_cons, List.length_nil, Nat.mul_one, Nat.zero_add, Nat.add_zero, Nat.sub_zero, both_self', bytesV_length, bytesV_flat, bytesV_isU8, hlt, hg, hkn, hl, gs, ks, d1, d2, es, hw, ih, List.map_cons]
theorem c144 (seeds : List (List UInt8)) (lf : Nat) (x : HB) (hf : hbFault x = 0) (hlf : lf < 4) (hsd : ¬ seeds.any long = true) (hsl : seeds.length ≤ 5) (places : List Int) (hq : places.length ≤ 5) (hr : ∀ k ∈ places, 0 ≤ k ∧ k ≤ (seeds.length : Int) - 1) :
    runE C 144 [.sl seeds.length (psS seeds), .sl places.length (ints places), .int .i64 (lf : Int), .agg [.int .i64 x.hgt, .int .i64 x.tim, .sl x.root.length (bytesV x.root), .sl x.set.length (bytesV x.set), .sl x.nxt.length (bytesV x.nxt)]] = some (.tup [.int .i64 x.hgt, .int .i64 x.tim, .osl x.root.length (bytesV x.root), .osl x.set.length (bytesV x.set), .osl x.nxt.length (bytesV x.nxt), .osl (places.map (vote seeds (lf : Int) (hbDig x))).length (vtsO (places.map (vote seeds (lf : Int) (hbDig x))))]) := by
  have kk := l144 seeds lf x hlf hsd hsl places [] places.length 0 [] (by simp) rfl (by omega) rfl hr
  rw [List.nil_append, List.nil_append] at kk
  refine E144 _ _ _ _ _ _ _ _ _ _ _ _ _ ?_
  unfold T144
  simp only [Int.ofNat_lt, decide_true, decide_false, cond_true, cond_false, inB_nat, inB_zero, must_true, Int.toNat_natCast, asInt_int, asBool_bool, asSl_sl, asOsl_osl, asStr_str, orcE_R, orcE_W, orcE_L, orcE_X, need_some', asTup_tup, List.getElem?_cons_zero, List.getElem?_cons_succ, Bool.not_true, Bool.not_false, Bool.true_and, Bool.and_true, Bool.false_or, ble_dec, beq_dec, List.length_cons, List.length_nil, Nat.mul_one, Nat.zero_add, Nat.add_zero, Nat.sub_zero, both_self', bytesV_length, bytesV_flat, bytesV_isU8, c192 x (hbOk_fit hf), c217 x hf]
  exact kk
theorem l252 (seeds : List (List UInt8)) (lf : Nat) (x : HB) (hf : hbFault x = 0) (hlf : lf < 4) (hsd : ¬ seeds.any long = true) (hsl : seeds.length ≤ 5) (places : List Int) (hq : places.length ≤ 5) : ∀ (r d : List Int) (i : Nat) (p : Int), places = d ++ r → i = d.length → (d = [] ∧ p = -1 ∨ ∃ d', d = d' ++ [p]) → (∀ k ∈ d, 0 ≤ k ∧ k ≤ (seeds.length : Int) - 1) →
    loopE C 52 2 [true, true, true, true, true, false, true] [] [(0, V.sl seeds.length (psS seeds)), (1, V.sl places.length (ints places)), (2, V.int .i64 (lf : Int)), (7, V.ptr 0 0), (8, V.ptr 1 0), (11, V.int .i64 (i : Int))] [Ob.box 61 [V.int .i64 x.hgt, V.int .i64 x.tim, V.sl x.root.length (bytesV x.root), V.sl x.set.length (bytesV x.set), V.sl x.nxt.length (bytesV x.nxt)] false, Ob.box 98 [V.int .i64 0, V.int .i64 0, V.int .i64 0, V.ref 2, V.ref 3, V.ref 4, V.ref 5] false, Ob.row 5 0 [] false, Ob.row 5 0 [] false, Ob.row 5 0 [] false, Ob.nrow [] 195 0 []] = if okP seeds.length r p = true then some (.tup [.int .i64 0, .int .i64 x.hgt, .int .i64 x.tim, .osl x.root.length (bytesV x.root), .osl x.set.length (bytesV x.set), .osl x.nxt.length (bytesV x.nxt), .osl (places.map (vote seeds (lf : Int) (hbDig x))).length (vtsO (places.map (vote seeds (lf : Int) (hbDig x))))]) else some (.tup [.int .i64 3, .int .i64 0, .int .i64 0, .osl 0 [], .osl 0 [], .osl 0 [], .osl 0 []])
  | [], d, i, p, hpl, hi, hp, hd => by
    have hl : places.length = d.length := by rw [hpl]; simp
    have e : d = places := by rw [hpl]; simp
    have kk := c144 seeds lf x hf hlf hsd hsl places hq (by rw [← e]; exact hd)
    have hlt : ¬ i < places.length := by omega
    rw [if_pos (show okP seeds.length [] p = true from rfl)]
    refine E52l2 _ _ _ _ _ _ _ _ _ _ _ _ _ _ _ _ _ _ _ _ _ _ _ _ _ ?_
    unfold T52l2
    simp only [Int.ofNat_lt, decide_true, decide_false, cond_true, cond_false, inB_nat, inB_zero, must_true, Int.toNat_natCast, asInt_int, asBool_bool, asSl_sl, asOsl_osl, asStr_str, orcE_R, orcE_W, orcE_L, orcE_X, need_some', asTup_tup, List.getElem?_cons_zero, List.getElem?_cons_succ, Bool.not_true, Bool.not_false, Bool.true_and, Bool.and_true, Bool.false_or, ble_dec, beq_dec, List.length_cons, List.length_nil, Nat.mul_one, Nat.zero_add, Nat.add_zero, Nat.sub_zero, both_self', bytesV_length, bytesV_flat, bytesV_isU8, hlt, kk]
  | b :: r, d, i, p, hpl, hi, hp, hd => by
    have hl : places.length = d.length + (r.length + 1) := by rw [hpl]; simp
    have hlt : i < places.length := by omega
    have hw := w64_succ (n := i) (by omega)
    have hg : (ints places)[i]? = some (.int .i64 b) := by rw [hpl]; exact ints_at hi b r
    have ws : IntKind.i64.wrap ((seeds.length : Int) - 1) = (seeds.length : Int) - 1 := w64 (by omega) (by omega)
    by_cases c1 : 0 ≤ b ∧ b ≤ (seeds.length : Int) - 1
    case neg =>
      have eo : okP seeds.length (b :: r) p = false := by rw [okP_cons, decide_eq_false c1, Bool.false_and]
      rw [eo, if_neg (by simp)]
      refine E52l2 _ _ _ _ _ _ _ _ _ _ _ _ _ _ _ _ _ _ _ _ _ _ _ _ _ ?_
      unfold T52l2
      simp only [Int.ofNat_lt, decide_true, decide_false, cond_true, cond_false, inB_nat, inB_zero, must_true, Int.toNat_natCast, asInt_int, asBool_bool, asSl_sl, asOsl_osl, asStr_str, orcE_R, orcE_W, orcE_L, orcE_X, need_some', asTup_tup, List.getElem?_cons_zero, List.getElem?_cons_succ, Bool.not_true, Bool.not_false, Bool.true_and, Bool.and_true, Bool.false_or, ble_dec, beq_dec, List.length_cons, List.length_nil, Nat.mul_one, Nat.zero_add, Nat.add_zero, Nat.sub_zero, both_self', bytesV_length, bytesV_flat, bytesV_isU8, hlt, hg, ws, c103, decide_eq_false c1]
    have hprev : ¬ d = [] → (ints places)[(IntKind.i64.wrap ((i : Int) - 1)).toNat]? = some (.int .i64 p) ∧ (IntKind.i64.wrap ((i : Int) - 1)).toNat < places.length ∧ 0 ≤ IntKind.i64.wrap ((i : Int) - 1) := fun h => by
      obtain ⟨d', hd'⟩ := hp.resolve_left fun h' => h h'.1
      have hi' : i = d'.length + 1 := by rw [hi, hd']; simp
      have w : IntKind.i64.wrap ((i : Int) - 1) = (d'.length : Int) := by rw [w64 (by omega) (by omega)]; omega
      rw [w, Int.toNat_natCast]
      refine ⟨?_, by omega, by omega⟩
      rw [hpl, hd', List.append_assoc]
      exact ints_at rfl p (b :: r)
    have ih := l252 seeds lf x hf hlf hsd hsl places hq r (d ++ [b]) (i + 1) b (by rw [hpl]; simp) (by simp; omega) (.inr ⟨d, rfl⟩) (fun k h => by
      rcases List.mem_append.1 h with h | h
      · exact hd k h
      · rw [List.mem_singleton.1 h]; exact c1)
    by_cases c2 : p < b
    · have eo : okP seeds.length (b :: r) p = okP seeds.length r b := by rw [okP_cons, decide_eq_true c1, decide_eq_true c2, Bool.true_and, Bool.true_and]
      rw [eo, ← ih]
      obtain ⟨v, hv⟩ : ∃ v, loopE C 52 2 [true, true, true, true, true, false, true] [] [(0, V.sl seeds.length (psS seeds)), (1, V.sl places.length (ints places)), (2, V.int .i64 (lf : Int)), (7, V.ptr 0 0), (8, V.ptr 1 0), (11, V.int .i64 ((i + 1 : Nat) : Int))] [Ob.box 61 [V.int .i64 x.hgt, V.int .i64 x.tim, V.sl x.root.length (bytesV x.root), V.sl x.set.length (bytesV x.set), V.sl x.nxt.length (bytesV x.nxt)] false, Ob.box 98 [V.int .i64 0, V.int .i64 0, V.int .i64 0, V.ref 2, V.ref 3, V.ref 4, V.ref 5] false, Ob.row 5 0 [] false, Ob.row 5 0 [] false, Ob.row 5 0 [] false, Ob.nrow [] 195 0 []] = some v := by
        rw [ih]; split <;> exact ⟨_, rfl⟩
      rw [hv]
      refine E52l2 _ _ _ _ _ _ _ _ _ _ _ _ _ _ _ _ _ _ _ _ _ _ _ _ _ ?_
      unfold T52l2
      by_cases h0 : d = []
      · have hi0 : ¬ (i : Int) > 0 := by rw [hi, h0]; simp
        simp only [Int.ofNat_lt, decide_true, decide_false, cond_true, cond_false, inB_nat, inB_zero, must_true, Int.toNat_natCast, asInt_int, asBool_bool, asSl_sl, asOsl_osl, asStr_str, orcE_R, orcE_W, orcE_L, orcE_X, need_some', asTup_tup, List.getElem?_cons_zero, List.getElem?_cons_succ, Bool.not_true, Bool.not_false, Bool.true_and, Bool.and_true, Bool.false_or, ble_dec, beq_dec, List.length_cons, List.length_nil, Nat.mul_one, Nat.zero_add, Nat.add_zero, Nat.sub_zero, both_self', bytesV_length, bytesV_flat, bytesV_isU8, hlt, hg, ws, c103, decide_eq_true c1, hi0, hw, hv]
      · obtain ⟨h1, h2, h3⟩ := hprev h0
        have hi0 : (i : Int) > 0 := by
          have : d.length ≠ 0 := fun h => h0 (List.length_eq_zero_iff.1 h)
          omega
        have h4 : inB (IntKind.i64.wrap ((i : Int) - 1)) places.length = true := by unfold inB; simp only [Bool.and_eq_true, decide_eq_true_eq]; omega
        have h5 : ¬ b ≤ p := by omega
        simp only [Int.ofNat_lt, decide_true, decide_false, cond_true, cond_false, inB_nat, inB_zero, must_true, Int.toNat_natCast, asInt_int, asBool_bool, asSl_sl, asOsl_osl, asStr_str, orcE_R, orcE_W, orcE_L, orcE_X, need_some', asTup_tup, List.getElem?_cons_zero, List.getElem?_cons_succ, Bool.not_true, Bool.not_false, Bool.true_and, Bool.and_true, Bool.false_or, ble_dec, beq_dec, List.length_cons, List.length_nil, Nat.mul_one, Nat.zero_add, Nat.add_zero, Nat.sub_zero, both_self', bytesV_length, bytesV_flat, bytesV_isU8, hlt, hg, ws, c103, decide_eq_true c1, hi0, h4, must_true, h1, h5, hw, hv]
    · have eo : okP seeds.length (b :: r) p = false := by rw [okP_cons, decide_eq_true c1, decide_eq_false c2, Bool.false_and, Bool.and_false]
      rw [eo, if_neg (by simp)]
      have h0 : ¬ d = [] := fun h => by
        rcases hp with h' | ⟨d', h'⟩
        · omega
        · rw [h] at h'; simp at h'
      obtain ⟨h1, h2, h3⟩ := hprev h0
      have hi0 : (i : Int) > 0 := by
        have : d.length ≠ 0 := fun h => h0 (List.length_eq_zero_iff.1 h)
        omega
      have h4 : inB (IntKind.i64.wrap ((i : Int) - 1)) places.length = true := by unfold inB; simp only [Bool.and_eq_true, decide_eq_true_eq]; omega
      have h5 : b ≤ p := by omega
      refine E52l2 _ _ _ _ _ _ _ _ _ _ _ _ _ _ _ _ _ _ _ _ _ _ _ _ _ ?_
      unfold T52l2
      simp only [Int.ofNat_lt, decide_true, decide_false, cond_true, cond_false, inB_nat, inB_zero, must_true, Int.toNat_natCast, asInt_int, asBool_bool, asSl_sl, asOsl_osl, asStr_str, orcE_R, orcE_W, orcE_L, orcE_X, need_some', asTup_tup, List.getElem?_cons_zero, List.getElem?_cons_succ, Bool.not_true, Bool.not_false, Bool.true_and, Bool.and_true, Bool.false_or, ble_dec, beq_dec, List.length_cons, List.length_nil, Nat.mul_one, Nat.zero_add, Nat.add_zero, Nat.sub_zero, both_self', bytesV_length, bytesV_flat, bytesV_isU8, hlt, hg, ws, c103, decide_eq_true c1, hi0, h4, must_true, h1, h5]
/-- What stands behind the seeds' lengths. -/
def rest (seeds : List (List UInt8)) (places : List Int) (leaf : Int) (x : HB) : Int × HB × List Vt := if ¬ (0 ≤ leaf ∧ leaf ≤ 3) then (3, noH, []) else if okP seeds.length places (-1) = true then (0, x, places.map (vote seeds leaf (hbDig x))) else (3, noH, [])
theorem l52 (seeds : List (List UInt8)) (leaf : Int) (x : HB) (hf : hbFault x = 0) (hsl : seeds.length ≤ 5) (places : List Int) (hq : places.length ≤ 5) : ∀ (r d : List (List UInt8)) (i : Nat), seeds = d ++ r → i = d.length → d.any long = false →
    loopE C 52 0 [true, true, true, false, true] [] [(0, V.sl seeds.length (psS seeds)), (1, V.sl places.length (ints places)), (2, V.int .i64 leaf), (7, V.ptr 0 0), (8, V.ptr 1 0), (10, V.int .i64 (i : Int))] [Ob.box 61 [V.int .i64 x.hgt, V.int .i64 x.tim, V.sl x.root.length (bytesV x.root), V.sl x.set.length (bytesV x.set), V.sl x.nxt.length (bytesV x.nxt)] false, Ob.box 98 [V.int .i64 0, V.int .i64 0, V.int .i64 0, V.ref 2, V.ref 3, V.ref 4, V.ref 5] false, Ob.row 5 0 [] false, Ob.row 5 0 [] false, Ob.row 5 0 [] false, Ob.nrow [] 195 0 []] = some (.tup (if r.any long = true then [.int .i64 2, .int .i64 0, .int .i64 0, .osl 0 [], .osl 0 [], .osl 0 [], .osl 0 []] else [.int .i64 (rest seeds places leaf x).1, .int .i64 (rest seeds places leaf x).2.1.hgt, .int .i64 (rest seeds places leaf x).2.1.tim, .osl (rest seeds places leaf x).2.1.root.length (bytesV (rest seeds places leaf x).2.1.root), .osl (rest seeds places leaf x).2.1.set.length (bytesV (rest seeds places leaf x).2.1.set), .osl (rest seeds places leaf x).2.1.nxt.length (bytesV (rest seeds places leaf x).2.1.nxt), .osl (rest seeds places leaf x).2.2.length (vtsO (rest seeds places leaf x).2.2)]))
  | [], d, i, hd, hi, ha => by
    have hl : seeds.length = d.length := by rw [hd]; simp
    have e : d = seeds := by rw [hd]; simp
    have hlt : ¬ i < seeds.length := by omega
    rw [if_neg (show ¬ ([] : List (List UInt8)).any long = true by simp)]
    refine E52l1 _ _ _ _ _ _ _ _ _ _ _ _ _ _ _ _ _ _ _ _ _ _ _ _ _ ?_
    unfold T52l1 rest
    by_cases g4 : 0 ≤ leaf ∧ leaf ≤ 3
    case neg =>
      rw [if_pos g4]
      simp only [Int.ofNat_lt, decide_true, decide_false, cond_true, cond_false, inB_nat, inB_zero, must_true, Int.toNat_natCast, asInt_int, asBool_bool, asSl_sl, asOsl_osl, asStr_str, orcE_R, orcE_W, orcE_L, orcE_X, need_some', asTup_tup, List.getElem?_cons_zero, List.getElem?_cons_succ, Bool.not_true, Bool.not_false, Bool.true_and, Bool.and_true, Bool.false_or, ble_dec, beq_dec, List.length_cons, List.length_nil, Nat.mul_one, Nat.zero_add, Nat.add_zero, Nat.sub_zero, both_self', bytesV_length, bytesV_flat, bytesV_isU8, hlt, c103, decide_eq_false g4]
      rfl
    rw [if_neg (fun h => h g4)]
    obtain ⟨lf, rfl⟩ : ∃ lf : Nat, leaf = (lf : Int) := ⟨leaf.toNat, by omega⟩
    have kk := l252 seeds lf x hf (by omega) (by rw [← e, ha]; simp) hsl places hq places [] 0 (-1) rfl rfl (.inl ⟨rfl, rfl⟩) (fun k h => by simp at h)
    simp only [Int.ofNat_lt, decide_true, decide_false, cond_true, cond_false, inB_nat, inB_zero, must_true, Int.toNat_natCast, asInt_int, asBool_bool, asSl_sl, asOsl_osl, asStr_str, orcE_R, orcE_W, orcE_L, orcE_X, need_some', asTup_tup, List.getElem?_cons_zero, List.getElem?_cons_succ, Bool.not_true, Bool.not_false, Bool.true_and, Bool.and_true, Bool.false_or, ble_dec, beq_dec, List.length_cons, List.length_nil, Nat.mul_one, Nat.zero_add, Nat.add_zero, Nat.sub_zero, both_self', bytesV_length, bytesV_flat, bytesV_isU8, hlt, c103, decide_eq_true g4]
    have kk : loopE C 52 2 [true, true, true, true, true, false, true] [] [(0, V.sl seeds.length (psS seeds)), (1, V.sl places.length (ints places)), (2, V.int .i64 (lf : Int)), (7, V.ptr 0 0), (8, V.ptr 1 0), (11, V.int .i64 0)] [Ob.box 61 [V.int .i64 x.hgt, V.int .i64 x.tim, V.sl x.root.length (bytesV x.root), V.sl x.set.length (bytesV x.set), V.sl x.nxt.length (bytesV x.nxt)] false, Ob.box 98 [V.int .i64 0, V.int .i64 0, V.int .i64 0, V.ref 2, V.ref 3, V.ref 4, V.ref 5] false, Ob.row 5 0 [] false, Ob.row 5 0 [] false, Ob.row 5 0 [] false, Ob.nrow [] 195 0 []] = _ := kk
    rw [kk]
    by_cases g5 : okP seeds.length places (-1) = true
    · rw [if_pos g5, if_pos g5]
    · rw [if_neg g5, if_neg g5]; rfl
  | b :: r, d, i, hd, hi, ha => by
    have hl : seeds.length = d.length + (r.length + 1) := by rw [hd]; simp
    have hlt : i < seeds.length := by omega
    have hw := w64_succ (n := i) (by omega)
    have hp : (psS seeds).length = seeds.length := psS_length seeds
    have hg : (psS seeds)[i]? = some (.sl b.length (bytesV b)) := by rw [hd, hi]; exact psS_at d b r
    refine E52l1 _ _ _ _ _ _ _ _ _ _ _ _ _ _ _ _ _ _ _ _ _ _ _ _ _ ?_
    unfold T52l1
    rw [List.any_cons]
    by_cases c1 : 200 < b.length
    · have t : (b.length : Int) > 200 := by omega
      have e : long b = true := decide_eq_true c1
      rw [e, Bool.true_or, if_pos rfl]
      simp only [Int.ofNat_lt, decide_true, decide_false, cond_true, cond_false, inB_nat, inB_zero, must_true, Int.toNat_natCast, asInt_int, asBool_bool, asSl_sl, asOsl_osl, asStr_str, orcE_R, orcE_W, orcE_L, orcE_X, need_some', asTup_tup, List.getElem?_cons_zero, List.getElem?_cons_succ, Bool.not_true, Bool.not_false, Bool.true_and, Bool.and_true, Bool.false_or, ble_dec, beq_dec, List.length_cons, List.length_nil, Nat.mul_one, Nat.zero_add, Nat.add_zero, Nat.sub_zero, both_self', bytesV_length, bytesV_flat, bytesV_isU8, hlt, hp, hg, decide_eq_true t]
    · have t : ¬ (b.length : Int) > 200 := by omega
      have e : long b = false := decide_eq_false c1
      have ih := l52 seeds leaf x hf hsl places hq r (d ++ [b]) (i + 1) (by rw [hd]; simp) (by simp; omega) (by rw [List.any_append, ha]; simp [e])
      rw [e, Bool.false_or]
      simp only [Int.ofNat_lt, decide_true, decide_false, cond_true, cond_false, inB_nat, inB_zero, must_true, Int.toNat_natCast, asInt_int, asBool_bool, asSl_sl, asOsl_osl, asStr_str, orcE_R, orcE_W, orcE_L, orcE_X, need_some', asTup_tup, List.getElem?_cons_zero, List.getElem?_cons_succ, Bool.not_true, Bool.not_false, Bool.true_and, Bool.and_true, Bool.false_or, ble_dec, beq_dec, List.length_cons, List.length_nil, Nat.mul_one, Nat.zero_add, Nat.add_zero, Nat.sub_zero, both_self', bytesV_length, bytesV_flat, bytesV_isU8, hlt, hp, hg, decide_eq_false t, hw, ih]
theorem c52 (seeds : List (List UInt8)) (places : List Int) (leaf : Int) (x : HB) (h1 : seeds.length < 1000000000) (h2 : places.length < 1000000000) : runE C 52 [.sl seeds.length (psS seeds), .sl places.length (ints places), .int .i64 leaf, .agg [.int .i64 x.hgt, .int .i64 x.tim, .sl x.root.length (bytesV x.root), .sl x.set.length (bytesV x.set), .sl x.nxt.length (bytesV x.nxt)]] = some (.tup [.int .i64 (signH seeds places leaf x).1, .int .i64 (signH seeds places leaf x).2.1.hgt, .int .i64 (signH seeds places leaf x).2.1.tim, .osl (signH seeds places leaf x).2.1.root.length (bytesV (signH seeds places leaf x).2.1.root), .osl (signH seeds places leaf x).2.1.set.length (bytesV (signH seeds places leaf x).2.1.set), .osl (signH seeds places leaf x).2.1.nxt.length (bytesV (signH seeds places leaf x).2.1.nxt), .osl (signH seeds places leaf x).2.2.length (vtsO (signH seeds places leaf x).2.2)]) := by
  refine E52 _ _ _ _ _ _ _ _ _ _ _ _ _ ?_
  unfold T52 signH
  have k0 := c143 x
  by_cases g0 : hbFault x = 0
  case neg =>
    rw [if_pos g0]
    simp only [Int.ofNat_lt, decide_true, decide_false, cond_true, cond_false, inB_nat, inB_zero, must_true, Int.toNat_natCast, asInt_int, asBool_bool, asSl_sl, asOsl_osl, asStr_str, orcE_R, orcE_W, orcE_L, orcE_X, need_some', asTup_tup, List.getElem?_cons_zero, List.getElem?_cons_succ, Bool.not_true, Bool.not_false, Bool.true_and, Bool.and_true, Bool.false_or, ble_dec, beq_dec, List.length_cons, List.length_nil, Nat.mul_one, Nat.zero_add, Nat.add_zero, Nat.sub_zero, both_self', bytesV_length, bytesV_flat, bytesV_isU8, k0, bne_t g0]
    rfl
  rw [if_neg (fun h => h g0)]
  rw [g0] at k0
  by_cases g1 : 5 < seeds.length
  · rw [if_pos g1]
    have t : (seeds.length : Int) > 5 := by omega
    simp only [Int.ofNat_lt, decide_true, decide_false, cond_true, cond_false, inB_nat, inB_zero, must_true, Int.toNat_natCast, asInt_int, asBool_bool, asSl_sl, asOsl_osl, asStr_str, orcE_R, orcE_W, orcE_L, orcE_X, need_some', asTup_tup, List.getElem?_cons_zero, List.getElem?_cons_succ, Bool.not_true, Bool.not_false, Bool.true_and, Bool.and_true, Bool.false_or, ble_dec, beq_dec, List.length_cons, List.length_nil, Nat.mul_one, Nat.zero_add, Nat.add_zero, Nat.sub_zero, both_self', bytesV_length, bytesV_flat, bytesV_isU8, k0, bne_f, decide_eq_true t]
    rfl
  rw [if_neg g1]
  have t1 : ¬ (seeds.length : Int) > 5 := by omega
  by_cases g2 : 5 < places.length
  · rw [if_pos g2]
    have t : (places.length : Int) > 5 := by omega
    simp only [Int.ofNat_lt, decide_true, decide_false, cond_true, cond_false, inB_nat, inB_zero, must_true, Int.toNat_natCast, asInt_int, asBool_bool, asSl_sl, asOsl_osl, asStr_str, orcE_R, orcE_W, orcE_L, orcE_X, need_some', asTup_tup, List.getElem?_cons_zero, List.getElem?_cons_succ, Bool.not_true, Bool.not_false, Bool.true_and, Bool.and_true, Bool.false_or, ble_dec, beq_dec, List.length_cons, List.length_nil, Nat.mul_one, Nat.zero_add, Nat.add_zero, Nat.sub_zero, both_self', bytesV_length, bytesV_flat, bytesV_isU8, k0, bne_f, decide_eq_false t1, decide_eq_true t]
    rfl
  rw [if_neg g2]
  have t2 : ¬ (places.length : Int) > 5 := by omega
  have kk := l52 seeds leaf x g0 (by omega) places (by omega) seeds [] 0 rfl rfl rfl
  simp only [Int.ofNat_lt, decide_true, decide_false, cond_true, cond_false, inB_nat, inB_zero, must_true, Int.toNat_natCast, asInt_int, asBool_bool, asSl_sl, asOsl_osl, asStr_str, orcE_R, orcE_W, orcE_L, orcE_X, need_some', asTup_tup, List.getElem?_cons_zero, List.getElem?_cons_succ, Bool.not_true, Bool.not_false, Bool.true_and, Bool.and_true, Bool.false_or, ble_dec, beq_dec, List.length_cons, List.length_nil, Nat.mul_one, Nat.zero_add, Nat.add_zero, Nat.sub_zero, both_self', bytesV_length, bytesV_flat, bytesV_isU8, k0, bne_f, decide_eq_false t1, decide_eq_false t2]
  have kk : loopE C 52 0 [true, true, true, false, true] [] [(0, V.sl seeds.length (psS seeds)), (1, V.sl places.length (ints places)), (2, V.int .i64 leaf), (7, V.ptr 0 0), (8, V.ptr 1 0), (10, V.int .i64 0)] [Ob.box 61 [V.int .i64 x.hgt, V.int .i64 x.tim, V.sl x.root.length (bytesV x.root), V.sl x.set.length (bytesV x.set), V.sl x.nxt.length (bytesV x.nxt)] false, Ob.box 98 [V.int .i64 0, V.int .i64 0, V.int .i64 0, V.ref 2, V.ref 3, V.ref 4, V.ref 5] false, Ob.row 5 0 [] false, Ob.row 5 0 [] false, Ob.row 5 0 [] false, Ob.nrow [] 195 0 []] = _ := kk
  rw [kk]
  by_cases g3 : seeds.any long = true
  · rw [if_pos g3, if_pos g3]; rfl
  · rw [if_neg g3, if_neg g3]; rfl
end Go.Proofs.Ytehpmolckdmibaa.Vote
