/-
  Heads behind heads, both sides: the fault of a head behind others, the fault of a client, NewClient.
-/
import Derived.Test.YtehpmolckdmibaaGreatPLJoinTP
namespace Go.Proofs.YtehpmolckdmibaaGreat.Cli
open Go Go.PI Go.PI.Sha Go.PI.Rel Go.PI.Nest Go.PI.Tru Go.PI.Set Go.PI.Cli Go.Proofs.YtehpmolckdmibaaGreat.Sha Go.Proofs.YtehpmolckdmibaaGreat.By Go.Proofs.YtehpmolckdmibaaGreat.Nest Go.Proofs.YtehpmolckdmibaaGreat.Set EqP
set_option maxHeartbeats 1000000
set_option linter.unusedVariables false
set_option linter.unusedSimpArgs false

theorem okH_way {hs : List Hd} (hv : okH hs) {a : Nat} (ha : a < hs.length) : okH (chain hs a) := fun v h => by
  obtain ⟨j, hj, rfl⟩ := List.mem_map.1 h
  exact hv _ (atH_mem (way_lt ha j hj))
theorem chain_length (hs : List Hd) (a : Nat) : (chain hs a).length = (way hs a).length := by simp [chain]
theorem way_pos (hs : List Hd) (a : Nat) : 0 < (way hs a).length := by simp [way]
/-- What a head needs to have a parent: its place. -/
theorem dAt_nat {k : List UInt8} {l : List (List UInt8)} (h : ¬ dAt k l 0 < 0) : ∃ p : Nat, dAt k l 0 = (p : Int) ∧ p < l.length := by
  have := dAt_lt k l 0 (by omega)
  exact ⟨(dAt k l 0).toNat, by omega, by omega⟩
theorem c50 (hs : List Hd) (x : Hd) (hq : hs.length ≤ 100000) (hv : okH hs) (hw : wf hs) (hx : hdFault x = 0) : runE C 50 [.sl hs.length (hdsS hs), .agg [.sl x.par.length (bytesV x.par), .int .i64 x.hgt, .int .i64 x.tim, .int .i64 x.zer, .sl x.root.length (bytesV x.root), .int .i64 x.non]] = some (.tup [.int .i64 (jf hs x)]) := by
  have ho := hdFault_ok hx
  have k1 := iJ (hdDig x) hs (by omega) (ok_len hv)
  rw [hdDig_length] at k1
  refine E50 _ _ _ _ _ _ _ _ _ _ ?_
  unfold T50 jf
  simp only [Int.ofNat_lt, decide_true, decide_false, cond_true, cond_false, inB_nat, inB_zero, must_true, Int.toNat_natCast, asInt_int, asBool_bool, asSl_sl, asOsl_osl, asStr_str, orcE_R, orcE_W, orcE_L, orcE_X, need_some', asTup_tup, List.getElem?_cons_zero, List.getElem?_cons_succ, Bool.not_true, Bool.not_false, Bool.true_and, Bool.and_true, Bool.false_or, ble_dec, beq_dec, List.length_cons, List.length_nil, Nat.mul_one, Nat.zero_add, Nat.add_zero, Nat.sub_zero, both_self', bytesV_length, bytesV_flat, bytesV_isU8, c53 x (by omega) (by omega), k1, c111 hs x (by omega) hv]
  by_cases g1 : 0 ≤ dAt (hdDig x) (digs hs) 0
  · rw [if_pos g1, decide_eq_true (show dAt (hdDig x) (digs hs) 0 ≥ 0 from g1)]; rfl
  rw [if_neg g1, decide_eq_false (show ¬ dAt (hdDig x) (digs hs) 0 ≥ 0 from g1)]
  by_cases g2 : dAt x.par (digs hs) 0 < 0
  · rw [if_pos g2, decide_eq_true g2]; rfl
  rw [if_neg g2, decide_eq_false g2]
  obtain ⟨p, hp, hpl⟩ := dAt_nat g2
  rw [digs_length] at hpl
  rw [hp, Int.toNat_natCast]
  have f1 := hdsS_i1 (l := hs) hpl
  have f2 := hdsS_i2n (l := hs) hpl
  have o2 := hdFault_ok (hv _ (atH_mem hpl))
  have w1 : IntKind.i64.wrap ((hs.getD p noHd).hgt + 1) = (hs.getD p noHd).hgt + 1 := by unfold atH at o2; rw [w64 (by omega) (by omega)]
  have k2 := c107 hs hq hv hw p hpl
  have wl := way_length hpl
  have k3 := c106 hs (way hs p) (by omega) (way_lt hpl)
  have k4 := c112 (chain hs p) (by rw [chain_length]; exact way_pos _ _) (by rw [chain_length]; omega) (okH_way hv hpl)
  rw [chain_length] at k4
  unfold chain at k4 ⊢
  unfold atH
  simp only [Int.ofNat_lt, decide_true, decide_false, cond_true, cond_false, inB_nat, inB_zero, must_true, Int.toNat_natCast, asInt_int, asBool_bool, asSl_sl, asOsl_osl, asStr_str, orcE_R, orcE_W, orcE_L, orcE_X, need_some', asTup_tup, List.getElem?_cons_zero, List.getElem?_cons_succ, Bool.not_true, Bool.not_false, Bool.true_and, Bool.and_true, Bool.false_or, ble_dec, beq_dec, List.length_cons, List.length_nil, Nat.mul_one, Nat.zero_add, Nat.add_zero, Nat.sub_zero, both_self', bytesV_length, bytesV_flat, bytesV_isU8, hpl, f1, f2, w1, k2, k3, k4]
  by_cases g3 : x.hgt = (hs.getD p noHd).hgt + 1
  case neg => rw [if_pos g3, bne_t g3]; rfl
  rw [if_neg (fun h => h g3), g3, bne_f]
  by_cases g4 : x.tim ≤ (hs.getD p noHd).tim
  · rw [if_pos g4, decide_eq_true g4]; rfl
  rw [if_neg g4, decide_eq_false g4]
  by_cases g5 : x.zer = nz ((way hs p).map (atH hs))
  · rw [if_neg (show ¬ (x.zer ≠ nz ((way hs p).map fun j => hs.getD j noHd)) from fun h => h g5), g5, bne_f]; rfl
  · rw [if_pos (show x.zer ≠ nz ((way hs p).map fun j => hs.getD j noHd) from g5), bne_t g5]; rfl
/-! ### the reference -/
theorem l123 (k : List UInt8) : ∀ (r d : List (List UInt8)) (n i : Nat), n = d.length + r.length → i = d.length → n < 1000000000 → (∀ b ∈ r, b.length ≤ 1000) →
    loopE C 123 0 [true, false, true] [] [(0, V.sl n (psS (d ++ r))), (1, V.sl k.length (bytesV k)), (5, V.int .i64 (i : Int))] [] = some (.tup [.int .i64 (dAt k r i)])
  | [], d, n, i, hn, hi, hq, hv => by
    refine E123l1 _ _ _ _ _ ?_
    unfold T123l1
    have : ¬ i < n := by simp at hn; omega
    simp [this, dAt]
  | b :: r, d, n, i, hn, hi, hq, hv => by
    simp only [List.length_cons] at hn
    have hlt : i < n := by omega
    have hw := w64_succ (n := i) (by omega)
    have hg : (psS (d ++ b :: r))[i]? = some (bS b) := by subst hi; exact psS_at d b r
    have hl : (psS (d ++ b :: r)).length = n := by rw [psS_length]; simp; omega
    have hb := hv b (by simp)
    have ih := l123 k r (d ++ [b]) n (i + 1) (by simp; omega) (by simp; omega) hq (fun v h => hv v (by simp [h]))
    refine E123l1 _ _ _ _ _ ?_
    unfold T123l1
    simp only [List.append_assoc, List.singleton_append] at ih
    have ei : ((i + 1 : Nat) : Int) = (i : Int) + 1 := by omega
    simp only [dAt, Int.ofNat_lt, decide_true, decide_false, cond_true, cond_false, inB_nat, inB_zero, must_true, Int.toNat_natCast, asInt_int, asBool_bool, asSl_sl, asOsl_osl, asStr_str, orcE_R, orcE_W, orcE_L, orcE_X, need_some', asTup_tup, List.getElem?_cons_zero, List.getElem?_cons_succ, Bool.not_true, Bool.not_false, Bool.true_and, Bool.and_true, Bool.false_or, ble_dec, beq_dec, List.length_cons, List.length_nil, Nat.mul_one, Nat.zero_add, Nat.add_zero, Nat.sub_zero, both_self', bytesV_length, bytesV_flat, bytesV_isU8, hlt, hg, hl, bS, c85 b k (by omega), hw, ih]
    by_cases e : b = k <;> simp [e]
theorem c123 (l : List (List UInt8)) (k : List UInt8) (h : l.length < 1000000000) (hv : ∀ b ∈ l, b.length ≤ 1000) : runE C 123 [.sl l.length (psS l), .sl k.length (bytesV k)] = some (.tup [.int .i64 (dAt k l 0)]) := by
  refine E123 _ _ _ _ ?_
  unfold T123
  exact l123 k l [] l.length 0 (by simp) rfl h hv
theorem digs_le (hs : List Hd) : ∀ b ∈ digs hs, b.length ≤ 1000 := fun b hb => by
  obtain ⟨v, _, rfl⟩ := List.mem_map.1 hb
  rw [hdDig_length]; omega
theorem ps_take (l : List (List UInt8)) (n : Nat) : (psS l).take n = psS (l.take n) := by
  have := rows_take (fun b => [bS b]) (sz := 1) (fun _ => rfl) n l
  simpa [psS] using this
theorem digs_take (hs : List Hd) (n : Nat) : (digs hs).take n = digs (hs.take n) := by simp [digs]
theorem l59 (hs : List Hd) (hq : hs.length ≤ 100000) : ∀ (f a : Nat) (out : List Nat), a ≤ f → a < hs.length → out.length + f ≤ 1000000 →
    loopE C 59 0 [true, true, false] [] [(0, V.sl hs.length (hdsS hs)), (1, V.sl hs.length (psS (digs hs))), (2, V.int .i64 (a : Int)), (7, V.ref 0)] [Ob.row 2 out.length (nV out) false] = some (.tup [.sl (pre hs f a ++ out).length (nV (pre hs f a ++ out))]) := by
  intro f
  induction f with
  | zero =>
    intro a out h1 h2 h3
    have e : a = 0 := by omega
    subst e
    refine E59l1 _ _ _ _ _ _ _ ?_
    unfold T59l1
    simp [pre]
  | succ f ih =>
    intro a out h1 h2 h3
    refine E59l1 _ _ _ _ _ _ _ ?_
    unfold T59l1
    rw [pre_succ]
    by_cases h0 : a = 0
    · subst h0; simp
    have hd : (a : Int) > 0 := by omega
    rw [if_neg h0]
    have ht : (digs (hs.take a)).length = a := by rw [digs_length, List.length_take]; omega
    have k := c123 (digs (hs.take a)) (hs.getD a noHd).par (by omega) (digs_le _)
    rw [ht] at k
    have k : runE C 123 [.sl a (psS (digs (hs.take a))), .sl (hs.getD a noHd).par.length (bytesV (hs.getD a noHd).par)] = some (.tup [.int .i64 (par hs a)]) := k
    have hle : (a : Int) ≤ (hs.length : Int) := by omega
    have g0 := hdsS_i0 (l := hs) h2
    have hl : (hdsS hs).length = hs.length * 6 := hdsS_length hs
    have hb : a * 6 < hs.length * 6 := by omega
    simp only [decide_eq_true hd, Int.ofNat_lt, decide_true, decide_false, cond_true, cond_false, inB_nat, inB_zero, must_true, Int.toNat_natCast, asInt_int, asBool_bool, asSl_sl, asOsl_osl, asStr_str, orcE_R, orcE_W, orcE_L, orcE_X, need_some', asTup_tup, List.getElem?_cons_zero, List.getElem?_cons_succ, Bool.not_true, Bool.not_false, Bool.true_and, Bool.and_true, Bool.false_or, ble_dec, beq_dec, List.length_cons, List.length_nil, Nat.mul_one, Nat.zero_add, Nat.add_zero, Nat.sub_zero, both_self', bytesV_length, bytesV_flat, bytesV_isU8, hle, Int.natCast_nonneg, h2, hl, hb, g0, List.drop_zero, ps_take, digs_take, k]
    by_cases hp : par hs a < 0
    · rw [if_pos hp, decide_eq_true hp]; rfl
    rw [if_neg hp, decide_eq_false hp]
    have hpl := par_lt (hs := hs) (a := a) (by omega)
    obtain ⟨p, hpp⟩ : ∃ p : Nat, par hs a = (p : Int) := ⟨(par hs a).toNat, by omega⟩
    rw [hpp, Int.toNat_natCast]
    have ih := ih p (p :: out) (by omega) (by omega) (by simp; omega)
    have ln : (nV out).length = out.length := nV_length out
    have d1 : 1 + out.length ≤ 140737488355328 := by omega
    have d2 : (1 + out.length) * 8 ≤ 140737488355328 := by omega
    rw [List.length_cons, Nat.add_comm out.length 1] at ih
    simp only [Int.ofNat_lt, decide_true, decide_false, cond_true, cond_false, inB_nat, inB_zero, must_true, Int.toNat_natCast, asInt_int, asBool_bool, asSl_sl, asOsl_osl, asStr_str, orcE_R, orcE_W, orcE_L, orcE_X, need_some', asTup_tup, List.getElem?_cons_zero, List.getElem?_cons_succ, Bool.not_true, Bool.not_false, Bool.true_and, Bool.and_true, Bool.false_or, ble_dec, beq_dec, List.length_cons, List.length_nil, Nat.mul_one, Nat.zero_add, Nat.add_zero, Nat.sub_zero, both_self', bytesV_length, bytesV_flat, bytesV_isU8, ln, d1, d2, nV_cons, ih]
    simp
theorem c59 (hs : List Hd) (hq : hs.length ≤ 100000) (a : Nat) (ha : a < hs.length) : runE C 59 [.sl hs.length (hdsS hs), .sl hs.length (psS (digs hs)), .int .i64 (a : Int)] = some (.tup [.sl (way hs a).length (nV (way hs a))]) := by
  refine E59 _ _ _ _ _ ?_
  unfold T59
  exact l59 hs hq a a [a] (Nat.le_refl _) ha (by simp; omega)
theorem l170 (hs : List Hd) : ∀ (r d : List Nat) (n i : Nat), n = d.length + r.length → i = d.length → n < 1000000000 → (∀ j ∈ r, j < hs.length) →
    loopE C 170 0 [true, true, true, false, true] [] [(0, V.sl hs.length (hdsS hs)), (7, V.sl n (nV (d ++ r))), (8, V.ref 0), (9, V.int .i64 (i : Int))] [Ob.row 28 i (hdsS (d.map (atH hs))) false] = some (.tup [.sl n (hdsS ((d ++ r).map (atH hs)))])
  | [], d, n, i, hn, hi, hq, hr => by
    refine E170l1 _ _ _ _ _ _ _ ?_
    unfold T170l1
    have e : i = n := by simp at hn; omega
    have : ¬ n < n := by omega
    subst e
    simp [this]
  | b :: r, d, n, i, hn, hi, hq, hr => by
    simp only [List.length_cons] at hn
    have ih := l170 hs r (d ++ [b]) n (i + 1) (by simp; omega) (by simp; omega) hq (fun j h => hr j (by simp [h]))
    refine E170l1 _ _ _ _ _ _ _ ?_
    unfold T170l1
    have hlt : i < n := by omega
    have hbl := hr b (by simp)
    have hw := w64_succ (n := i) (by omega)
    have gp := nV_at hi b r
    have g0 := hdsS_i0 (l := hs) hbl
    have g1 := hdsS_i1 (l := hs) hbl
    have g2 := hdsS_i2 (l := hs) hbl
    have g3 := hdsS_i3 (l := hs) hbl
    have g4 := hdsS_i4 (l := hs) hbl
    have g5 := hdsS_i5 (l := hs) hbl
    have d1 : i + 1 ≤ 140737488355328 := by omega
    have d2 : (i + 1) * 80 ≤ 140737488355328 := by omega
    have es : hdsS (d.map (atH hs)) ++ [V.sl (hs.getD b noHd).par.length (bytesV (hs.getD b noHd).par), V.int .i64 (hs.getD b noHd).hgt, V.int .i64 (hs.getD b noHd).tim, V.int .i64 (hs.getD b noHd).zer, V.sl (hs.getD b noHd).root.length (bytesV (hs.getD b noHd).root), V.int .i64 (hs.getD b noHd).non] = hdsS ((d ++ [b]).map (atH hs)) := by rw [List.map_append]; exact hdsS_snoc _ (atH hs b)
    simp only [List.append_assoc, List.singleton_append] at ih
    simp only [Int.ofNat_lt, decide_true, decide_false, cond_true, cond_false, inB_nat, inB_zero, must_true, Int.toNat_natCast, asInt_int, asBool_bool, asSl_sl, asOsl_osl, asStr_str, orcE_R, orcE_W, orcE_L, orcE_X, need_some', asTup_tup, List.getElem?_cons_zero, List.getElem?_cons_succ, Bool.not_true, Bool.not_false, Bool.true_and, Bool.and_true, Bool.false_or, ble_dec, beq_dec, List.length_cons, List.length_nil, Nat.mul_one, Nat.zero_add, Nat.add_zero, Nat.sub_zero, both_self', bytesV_length, bytesV_flat, bytesV_isU8, hlt, hbl, gp, g0, g1, g2, g3, g4, g5, hw, d1, d2, es, ih]
theorem c170 (hs : List Hd) (hq : hs.length ≤ 100000) (a : Nat) (ha : a < hs.length) : runE C 170 [.sl hs.length (hdsS hs), .sl hs.length (psS (digs hs)), .int .i64 (a : Int)] = some (.tup [.sl (way hs a).length (hdsS (chain hs a))]) := by
  refine E170 _ _ _ _ _ ?_
  unfold T170
  have wl := way_length ha
  have k := l170 hs (way hs a) [] (way hs a).length 0 (by simp) rfl (by omega) (way_lt ha)
  simp only [Int.ofNat_lt, decide_true, decide_false, cond_true, cond_false, inB_nat, inB_zero, must_true, Int.toNat_natCast, asInt_int, asBool_bool, asSl_sl, asOsl_osl, asStr_str, orcE_R, orcE_W, orcE_L, orcE_X, need_some', asTup_tup, List.getElem?_cons_zero, List.getElem?_cons_succ, Bool.not_true, Bool.not_false, Bool.true_and, Bool.and_true, Bool.false_or, ble_dec, beq_dec, List.length_cons, List.length_nil, Nat.mul_one, Nat.zero_add, Nat.add_zero, Nat.sub_zero, both_self', bytesV_length, bytesV_flat, bytesV_isU8, c59 hs hq a ha]
  exact k
theorem c102 (hs : List Hd) (x : Hd) (hq : hs.length ≤ 100000) (hv : okH hs) (hx : hdFault x = 0) : runE C 102 [.sl hs.length (hdsS hs), .sl hs.length (psS (digs hs)), .agg [.sl x.par.length (bytesV x.par), .int .i64 x.hgt, .int .i64 x.tim, .int .i64 x.zer, .sl x.root.length (bytesV x.root), .int .i64 x.non]] = some (.tup [.int .i64 (jf hs x)]) := by
  have ho := hdFault_ok hx
  have k0 := c123 (digs hs) (hdDig x) (by rw [digs_length]; omega) (digs_le hs)
  have k1 := c123 (digs hs) x.par (by rw [digs_length]; omega) (digs_le hs)
  rw [hdDig_length, digs_length] at k0
  rw [digs_length] at k1
  refine E102 _ _ _ _ _ _ _ _ _ _ _ _ ?_
  unfold T102 jf
  simp only [Int.ofNat_lt, decide_true, decide_false, cond_true, cond_false, inB_nat, inB_zero, must_true, Int.toNat_natCast, asInt_int, asBool_bool, asSl_sl, asOsl_osl, asStr_str, orcE_R, orcE_W, orcE_L, orcE_X, need_some', asTup_tup, List.getElem?_cons_zero, List.getElem?_cons_succ, Bool.not_true, Bool.not_false, Bool.true_and, Bool.and_true, Bool.false_or, ble_dec, beq_dec, List.length_cons, List.length_nil, Nat.mul_one, Nat.zero_add, Nat.add_zero, Nat.sub_zero, both_self', bytesV_length, bytesV_flat, bytesV_isU8, c168 x (by omega) (by omega), k0, k1]
  by_cases g1 : 0 ≤ dAt (hdDig x) (digs hs) 0
  · rw [if_pos g1, decide_eq_true (show dAt (hdDig x) (digs hs) 0 ≥ 0 from g1)]; rfl
  rw [if_neg g1, decide_eq_false (show ¬ dAt (hdDig x) (digs hs) 0 ≥ 0 from g1)]
  by_cases g2 : dAt x.par (digs hs) 0 < 0
  · rw [if_pos g2, decide_eq_true g2]; rfl
  rw [if_neg g2, decide_eq_false g2]
  obtain ⟨p, hp, hpl⟩ := dAt_nat g2
  rw [digs_length] at hpl
  rw [hp, Int.toNat_natCast]
  have f1 := hdsS_i1 (l := hs) hpl
  have f2 := hdsS_i2n (l := hs) hpl
  have o2 := hdFault_ok (hv _ (atH_mem hpl))
  have w1 : IntKind.i64.wrap ((hs.getD p noHd).hgt + 1) = (hs.getD p noHd).hgt + 1 := by unfold atH at o2; rw [w64 (by omega) (by omega)]
  have k3 := c170 hs hq p hpl
  have wl := way_length hpl
  have k4 := c169 (chain hs p) (by rw [chain_length]; exact way_pos _ _) (by rw [chain_length]; omega) (okH_way hv hpl)
  rw [chain_length] at k4
  unfold atH
  simp only [Int.ofNat_lt, decide_true, decide_false, cond_true, cond_false, inB_nat, inB_zero, must_true, Int.toNat_natCast, asInt_int, asBool_bool, asSl_sl, asOsl_osl, asStr_str, orcE_R, orcE_W, orcE_L, orcE_X, need_some', asTup_tup, List.getElem?_cons_zero, List.getElem?_cons_succ, Bool.not_true, Bool.not_false, Bool.true_and, Bool.and_true, Bool.false_or, ble_dec, beq_dec, List.length_cons, List.length_nil, Nat.mul_one, Nat.zero_add, Nat.add_zero, Nat.sub_zero, both_self', bytesV_length, bytesV_flat, bytesV_isU8, hpl, f1, f2, w1, k3, k4]
  by_cases g3 : x.hgt = (hs.getD p noHd).hgt + 1
  case neg => rw [if_pos g3, bne_t g3]; rfl
  rw [if_neg (fun h => h g3), g3, bne_f]
  by_cases g4 : x.tim ≤ (hs.getD p noHd).tim
  · rw [if_pos g4, decide_eq_true g4]; rfl
  rw [if_neg g4, decide_eq_false g4]
  by_cases g5 : x.zer = nz (chain hs p)
  · rw [if_neg (fun h => h g5), g5, bne_f]; rfl
  · rw [if_pos g5, bne_t g5]; rfl
/-! ### digests of all -/
theorem d122 (x : Hd) : runE C 122 [.agg [.sl x.par.length (bytesV x.par), .int .i64 x.hgt, .int .i64 x.tim, .int .i64 x.zer, .sl x.root.length (bytesV x.root), .int .i64 x.non]] = some (.tup [.osl (hdg x).length (bytesV (hdg x))]) := by
  rw [c122]
  unfold hdg
  by_cases g : hdFault x = 0
  · rw [if_pos g, if_pos g, hdDig_length]
  · rw [if_neg g, if_neg g]; rfl
theorem l58 : ∀ (r d : List Hd) (n i : Nat), n = d.length + r.length → i = d.length → n < 1000000000 →
    loopE C 58 0 [true, true, false, true] [] [(0, V.sl n (hdsS (d ++ r))), (3, V.ref 0), (4, V.int .i64 (i : Int))] [Ob.nrow [] 22 i (psO (d.map hdg))] = some (.tup [.osl n (psO ((d ++ r).map hdg))])
  | [], d, n, i, hn, hi, hq => by
    refine E58l1 _ _ _ _ _ ?_
    unfold T58l1
    have e : i = n := by simp at hn; omega
    have : ¬ n < n := by omega
    subst e
    simp [this]
  | b :: r, d, n, i, hn, hi, hq => by
    simp only [List.length_cons] at hn
    have ih := l58 r (d ++ [b]) n (i + 1) (by simp; omega) (by simp; omega) hq
    refine E58l1 _ _ _ _ _ ?_
    unfold T58l1
    have hlt : i < n := by omega
    have hw := w64_succ (n := i) (by omega)
    have g0 := hdsS_at0 hi b r
    have g1 := hdsS_at1 hi b r
    have g2 := hdsS_at2 hi b r
    have g3 := hdsS_at3 hi b r
    have g4 := hdsS_at4 hi b r
    have g5 := hdsS_at5 hi b r
    have d1 : i + 1 ≤ 140737488355328 := by omega
    have d2 : (i + 1) * 24 ≤ 140737488355328 := by omega
    have es : psO (d.map hdg) ++ [V.own false 5 1 (hdg b).length (bytesV (hdg b))] = psO ((d ++ [b]).map hdg) := by rw [List.map_append]; exact psO_snoc _ (hdg b)
    simp only [List.append_assoc, List.singleton_append] at ih
    simp only [Int.ofNat_lt, decide_true, decide_false, cond_true, cond_false, inB_nat, inB_zero, must_true, Int.toNat_natCast, asInt_int, asBool_bool, asSl_sl, asOsl_osl, asStr_str, orcE_R, orcE_W, orcE_L, orcE_X, need_some', asTup_tup, List.getElem?_cons_zero, List.getElem?_cons_succ, Bool.not_true, Bool.not_false, Bool.true_and, Bool.and_true, Bool.false_or, ble_dec, beq_dec, List.length_cons, List.length_nil, Nat.mul_one, Nat.zero_add, Nat.add_zero, Nat.sub_zero, both_self', bytesV_length, bytesV_flat, bytesV_isU8, hlt, g0, g1, g2, g3, g4, g5, d122 b, hw, d1, d2, es, ih]
theorem c58 (l : List Hd) (h : l.length < 1000000000) : runE C 58 [.sl l.length (hdsS l)] = some (.tup [.osl l.length (psO (l.map hdg))]) := by
  refine E58 _ _ ?_
  unfold T58
  exact l58 l [] l.length 0 (by simp) rfl h
/-! ### the fault of a client -/
theorem cf_cons (d : List Hd) (x : Hd) (r : List Hd) : cf d (x :: r) = if hf x ≠ 0 then hf x else if d.length = 0 then (if first x = true then cf (d ++ [x]) r else 1) else if jf d x ≠ 0 then jf d x else cf (d ++ [x]) r := rfl
theorem wf_first {d : List Hd} {x : Hd} (h : d.length = 0) : wf (d ++ [x]) := by
  have : d = [] := List.length_eq_zero_iff.1 h
  subst this
  exact wf_one x
theorem hdsS_first (d : List Hd) (v : Hd) (r : List Hd) (h : d.length = 0) : (hdsS (d ++ v :: r))[0]? = some (V.sl v.par.length (bytesV v.par)) ∧ (hdsS (d ++ v :: r))[1]? = some (V.int .i64 v.hgt) ∧ (hdsS (d ++ v :: r))[2]? = some (V.int .i64 v.tim) ∧ (hdsS (d ++ v :: r))[3]? = some (V.int .i64 v.zer) ∧ (hdsS (d ++ v :: r))[4]? = some (V.sl v.root.length (bytesV v.root)) ∧ (hdsS (d ++ v :: r))[5]? = some (V.int .i64 v.non) := by
  have : d = [] := List.length_eq_zero_iff.1 h
  subst this
  exact ⟨rfl, rfl, rfl, rfl, rfl, rfl⟩
theorem l13 (dep : Int) : ∀ (r d : List Hd) (n i : Nat), n = d.length + r.length → i = d.length → n ≤ 100000 → okH d → wf d →
    loopE C 13 1 [true, true, false, true] [] [(1, V.ptr 0 0), (23, V.sl n (hdsS (d ++ r))), (24, V.int .i64 (n : Int)), (25, V.int .i64 (i : Int))] [Ob.box 26 [V.sl n (hdsS (d ++ r)), V.int .i64 dep] false] = some (.tup [.int .i64 (cf d r)])
  | [], d, n, i, hn, hi, hq, hv, hw => by
    refine E13l1 _ _ _ _ _ _ _ ?_
    unfold T13l1
    have : ¬ i < n := by simp at hn; omega
    simp [this, cf]
  | b :: r, d, n, i, hn, hi, hq, hv, hw => by
    simp only [List.length_cons] at hn
    have hlt : i < n := by omega
    have hle : (i : Int) ≤ (n : Int) := by omega
    have hw' := w64_succ (n := i) (by omega)
    have g0 := hdsS_at0 hi b r
    have g1 := hdsS_at1 hi b r
    have g2 := hdsS_at2 hi b r
    have g3 := hdsS_at3 hi b r
    have g4 := hdsS_at4 hi b r
    have g5 := hdsS_at5 hi b r
    have kh := c48 b
    have ht : (hdsS (d ++ b :: r)).take (i * 6) = hdsS d := by subst hi; exact hdsS_take d b r
    refine E13l1 _ _ _ _ _ _ _ ?_
    unfold T13l1
    rw [cf_cons]
    simp only [Int.ofNat_lt, decide_true, decide_false, cond_true, cond_false, inB_nat, inB_zero, must_true, Int.toNat_natCast, asInt_int, asBool_bool, asSl_sl, asOsl_osl, asStr_str, orcE_R, orcE_W, orcE_L, orcE_X, need_some', asTup_tup, List.getElem?_cons_zero, List.getElem?_cons_succ, Bool.not_true, Bool.not_false, Bool.true_and, Bool.and_true, Bool.false_or, ble_dec, beq_dec, List.length_cons, List.length_nil, Nat.mul_one, Nat.zero_add, Nat.add_zero, Nat.sub_zero, both_self', bytesV_length, bytesV_flat, bytesV_isU8, hlt, g0, g1, g2, g3, g4, g5, kh, c49 b]
    by_cases g : hf b = 0
    case neg => rw [if_pos g, bne_t g]; rfl
    rw [if_neg (fun h => h g), g, bne_f]
    by_cases h0 : d.length = 0
    · have h0' : ((i : Int) == 0) = true := by rw [hi, h0]; rfl
      rw [if_pos h0, h0']
      have ih := l13 dep r (d ++ [b]) n (i + 1) (by simp; omega) (by simp; omega) hq (okH_snoc hv g) (wf_first h0)
      simp only [List.append_assoc, List.singleton_append] at ih
      cases hf : first b with
      | true => simp only [Int.ofNat_lt, decide_true, decide_false, cond_true, cond_false, inB_nat, inB_zero, must_true, Int.toNat_natCast, asInt_int, asBool_bool, asSl_sl, asOsl_osl, asStr_str, orcE_R, orcE_W, orcE_L, orcE_X, need_some', asTup_tup, List.getElem?_cons_zero, List.getElem?_cons_succ, Bool.not_true, Bool.not_false, Bool.true_and, Bool.and_true, Bool.false_or, ble_dec, beq_dec, List.length_cons, List.length_nil, Nat.mul_one, Nat.zero_add, Nat.add_zero, Nat.sub_zero, both_self', bytesV_length, bytesV_flat, bytesV_isU8, hw', ih, if_true]
      | false => rfl
    · have h0' : ((i : Int) == 0) = false := beq_f (by omega)
      have kj := c50 d b (by omega) hv hw (hf_ok g)
      rw [← hi] at kj
      rw [if_neg h0, h0']
      simp only [Int.ofNat_lt, decide_true, decide_false, cond_true, cond_false, inB_nat, inB_zero, must_true, Int.toNat_natCast, asInt_int, asBool_bool, asSl_sl, asOsl_osl, asStr_str, orcE_R, orcE_W, orcE_L, orcE_X, need_some', asTup_tup, List.getElem?_cons_zero, List.getElem?_cons_succ, Bool.not_true, Bool.not_false, Bool.true_and, Bool.and_true, Bool.false_or, ble_dec, beq_dec, List.length_cons, List.length_nil, Nat.mul_one, Nat.zero_add, Nat.add_zero, Nat.sub_zero, both_self', bytesV_length, bytesV_flat, bytesV_isU8, hle, Int.natCast_nonneg, List.drop_zero, ht, kj]
      by_cases gj : jf d b = 0
      case neg => rw [if_pos gj, bne_t gj]; rfl
      have ih := l13 dep r (d ++ [b]) n (i + 1) (by simp; omega) (by simp; omega) hq (okH_snoc hv g) (wf_snoc hw gj)
      simp only [List.append_assoc, List.singleton_append] at ih
      rw [if_neg (fun h => h gj), gj, bne_f]
      simp only [Int.ofNat_lt, decide_true, decide_false, cond_true, cond_false, inB_nat, inB_zero, must_true, Int.toNat_natCast, asInt_int, asBool_bool, asSl_sl, asOsl_osl, asStr_str, orcE_R, orcE_W, orcE_L, orcE_X, need_some', asTup_tup, List.getElem?_cons_zero, List.getElem?_cons_succ, Bool.not_true, Bool.not_false, Bool.true_and, Bool.and_true, Bool.false_or, ble_dec, beq_dec, List.length_cons, List.length_nil, Nat.mul_one, Nat.zero_add, Nat.add_zero, Nat.sub_zero, both_self', bytesV_length, bytesV_flat, bytesV_isU8, hw', ih]
theorem c13 (l : List Hd) (dep : Int) (hl : l.length ≤ 100000000) : runE C 13 [.agg [.sl l.length (hdsS l), .int .i64 dep]] = some (.tup [.int .i64 (clFault l dep)]) := by
  refine E13 _ _ _ ?_
  unfold T13 clFault
  simp only [Int.ofNat_lt, decide_true, decide_false, cond_true, cond_false, inB_nat, inB_zero, must_true, Int.toNat_natCast, asInt_int, asBool_bool, asSl_sl, asOsl_osl, asStr_str, orcE_R, orcE_W, orcE_L, orcE_X, need_some', asTup_tup, List.getElem?_cons_zero, List.getElem?_cons_succ, Bool.not_true, Bool.not_false, Bool.true_and, Bool.and_true, Bool.false_or, ble_dec, beq_dec, List.length_cons, List.length_nil, Nat.mul_one, Nat.zero_add, Nat.add_zero, Nat.sub_zero, both_self', bytesV_length, bytesV_flat, bytesV_isU8, c47]
  by_cases g0 : 1 ≤ dep ∧ dep ≤ 6
  case neg => rw [if_pos g0, decide_eq_false g0]; rfl
  rw [if_neg (fun h => h g0), decide_eq_true g0]
  by_cases g1 : l.length = 0
  · have g1' : ((l.length : Int) == 0) = true := by rw [g1]; rfl
    rw [if_pos g1, g1']; rfl
  have g1' : ((l.length : Int) == 0) = false := beq_f (by omega)
  rw [if_neg g1, g1']
  by_cases g2 : 24 < l.length
  · rw [if_pos g2, decide_eq_true (show (l.length : Int) > 24 by omega)]; rfl
  rw [if_neg g2, decide_eq_false (show ¬ (l.length : Int) > 24 by omega)]
  exact l13 dep l [] l.length 0 (by simp) rfl (by omega) (fun v hv => by simp at hv) (fun j h1 h2 => by simp at h2)
theorem l242 (dep : Int) : ∀ (r d : List Hd) (n i : Nat), n = d.length + r.length → i = d.length → 0 < i → n ≤ 100000 → okH d → wf d →
    loopE C 42 0 [true, true, true, true, true, false, true] [] [(1, V.ptr 0 0), (3, V.ref 1), (4, V.int .i64 (i : Int))] [Ob.box 26 [V.sl n (hdsS (d ++ r)), V.int .i64 dep] false, Ob.row 22 n (psS ((d ++ r).map hdg)) true] = some (.tup [.int .i64 (cf d r)])
  | [], d, n, i, hn, hi, hip, hq, hv, hw => by
    refine E42l2 _ _ _ _ _ _ ?_
    unfold T42l2
    have : ¬ i < n := by simp at hn; omega
    simp [this, cf]
  | b :: r, d, n, i, hn, hi, hip, hq, hv, hw => by
    simp only [List.length_cons] at hn
    have hlt : i < n := by omega
    have hle : (i : Int) ≤ (n : Int) := by omega
    have hw' := w64_succ (n := i) (by omega)
    have g0 := hdsS_at0 hi b r
    have g1 := hdsS_at1 hi b r
    have g2 := hdsS_at2 hi b r
    have g3 := hdsS_at3 hi b r
    have g4 := hdsS_at4 hi b r
    have g5 := hdsS_at5 hi b r
    have kh := c100 b
    have ht : (hdsS (d ++ b :: r)).take (i * 6) = hdsS d := by subst hi; exact hdsS_take d b r
    have hp : (psS ((d ++ b :: r).map hdg)).take i = psS (digs d) := by rw [ps_take, List.map_append, hi, List.take_left' (by simp), map_hdg hv]
    refine E42l2 _ _ _ _ _ _ ?_
    unfold T42l2
    rw [cf_cons]
    have h0' : ((i : Int) == 0) = false := beq_f (by omega)
    simp only [Int.ofNat_lt, decide_true, decide_false, cond_true, cond_false, inB_nat, inB_zero, must_true, Int.toNat_natCast, asInt_int, asBool_bool, asSl_sl, asOsl_osl, asStr_str, orcE_R, orcE_W, orcE_L, orcE_X, need_some', asTup_tup, List.getElem?_cons_zero, List.getElem?_cons_succ, Bool.not_true, Bool.not_false, Bool.true_and, Bool.and_true, Bool.false_or, ble_dec, beq_dec, List.length_cons, List.length_nil, Nat.mul_one, Nat.zero_add, Nat.add_zero, Nat.sub_zero, both_self', bytesV_length, bytesV_flat, bytesV_isU8, hlt, g0, g1, g2, g3, g4, g5, kh, h0']
    by_cases g : hf b = 0
    case neg => rw [if_pos g, bne_t g]; rfl
    rw [if_neg (fun h => h g), g, bne_f, if_neg (show ¬ d.length = 0 by omega)]
    have kj := c102 d b (by omega) hv (hf_ok g)
    rw [← hi] at kj
    simp only [Int.ofNat_lt, decide_true, decide_false, cond_true, cond_false, inB_nat, inB_zero, must_true, Int.toNat_natCast, asInt_int, asBool_bool, asSl_sl, asOsl_osl, asStr_str, orcE_R, orcE_W, orcE_L, orcE_X, need_some', asTup_tup, List.getElem?_cons_zero, List.getElem?_cons_succ, Bool.not_true, Bool.not_false, Bool.true_and, Bool.and_true, Bool.false_or, ble_dec, beq_dec, List.length_cons, List.length_nil, Nat.mul_one, Nat.zero_add, Nat.add_zero, Nat.sub_zero, both_self', bytesV_length, bytesV_flat, bytesV_isU8, hle, Int.natCast_nonneg, List.drop_zero, ht, hp, kj]
    by_cases gj : jf d b = 0
    case neg => rw [if_pos gj, bne_t gj]; rfl
    have ih := l242 dep r (d ++ [b]) n (i + 1) (by simp; omega) (by simp; omega) (by omega) hq (okH_snoc hv g) (wf_snoc hw gj)
    simp only [List.append_assoc, List.singleton_append] at ih
    rw [if_neg (fun h => h gj), gj, bne_f]
    simp only [Int.ofNat_lt, decide_true, decide_false, cond_true, cond_false, inB_nat, inB_zero, must_true, Int.toNat_natCast, asInt_int, asBool_bool, asSl_sl, asOsl_osl, asStr_str, orcE_R, orcE_W, orcE_L, orcE_X, need_some', asTup_tup, List.getElem?_cons_zero, List.getElem?_cons_succ, Bool.not_true, Bool.not_false, Bool.true_and, Bool.and_true, Bool.false_or, ble_dec, beq_dec, List.length_cons, List.length_nil, Nat.mul_one, Nat.zero_add, Nat.add_zero, Nat.sub_zero, both_self', bytesV_length, bytesV_flat, bytesV_isU8, hw', ih]
theorem l42 (dep : Int) : ∀ (r d : List Hd) (n i : Nat), n = d.length + r.length → i = d.length → n ≤ 100000 → okH d → wf d →
    loopE C 42 0 [true, true, true, true, true, false, true] [] [(1, V.ptr 0 0), (3, V.ref 1), (4, V.int .i64 (i : Int))] [Ob.box 26 [V.sl n (hdsS (d ++ r)), V.int .i64 dep] false, Ob.nrow [] 22 n (psO ((d ++ r).map hdg))] = some (.tup [.int .i64 (cf d r)])
  | [], d, n, i, hn, hi, hq, hv, hw => by
    refine E42l1 _ _ _ _ _ _ ?_
    unfold T42l1
    have : ¬ i < n := by simp at hn; omega
    simp [this, cf]
  | b :: r, d, n, i, hn, hi, hq, hv, hw => by
    simp only [List.length_cons] at hn
    have hlt : i < n := by omega
    have hle : (i : Int) ≤ (n : Int) := by omega
    have hw' := w64_succ (n := i) (by omega)
    have g0 := hdsS_at0 hi b r
    have g1 := hdsS_at1 hi b r
    have g2 := hdsS_at2 hi b r
    have g3 := hdsS_at3 hi b r
    have g4 := hdsS_at4 hi b r
    have g5 := hdsS_at5 hi b r
    have kh := c100 b
    have ht : (hdsS (d ++ b :: r)).take (i * 6) = hdsS d := by subst hi; exact hdsS_take d b r
    have hp : (psS ((d ++ b :: r).map hdg)).take i = psS (digs d) := by rw [ps_take, List.map_append, hi, List.take_left' (by simp), map_hdg hv]
    refine E42l1 _ _ _ _ _ _ ?_
    unfold T42l1
    rw [cf_cons]
    by_cases g : hf b = 0
    case neg =>
      simp only [Int.ofNat_lt, decide_true, decide_false, cond_true, cond_false, inB_nat, inB_zero, must_true, Int.toNat_natCast, asInt_int, asBool_bool, asSl_sl, asOsl_osl, asStr_str, orcE_R, orcE_W, orcE_L, orcE_X, need_some', asTup_tup, List.getElem?_cons_zero, List.getElem?_cons_succ, Bool.not_true, Bool.not_false, Bool.true_and, Bool.and_true, Bool.false_or, ble_dec, beq_dec, List.length_cons, List.length_nil, Nat.mul_one, Nat.zero_add, Nat.add_zero, Nat.sub_zero, both_self', bytesV_length, bytesV_flat, bytesV_isU8, hlt, g0, g1, g2, g3, g4, g5, kh]
      rw [if_pos g, bne_t g]; rfl
    rw [if_neg (fun h => h g)]
    by_cases h0 : d.length = 0
    · have h0' : ((i : Int) == 0) = true := by rw [hi, h0]; rfl
      obtain ⟨q0, q1, q2, q3, q4, q5⟩ := hdsS_first d b r h0
      have ho := hdFault_ok (hf_ok g)
      have h0n : 0 < n := by omega
      rw [if_pos h0]
      simp only [Int.ofNat_lt, decide_true, decide_false, cond_true, cond_false, inB_nat, inB_zero, must_true, Int.toNat_natCast, asInt_int, asBool_bool, asSl_sl, asOsl_osl, asStr_str, orcE_R, orcE_W, orcE_L, orcE_X, need_some', asTup_tup, List.getElem?_cons_zero, List.getElem?_cons_succ, Bool.not_true, Bool.not_false, Bool.true_and, Bool.and_true, Bool.false_or, ble_dec, beq_dec, List.length_cons, List.length_nil, Nat.mul_one, Nat.zero_add, Nat.add_zero, Nat.sub_zero, both_self', bytesV_length, bytesV_flat, bytesV_isU8, hlt, g0, g1, g2, g3, g4, g5, kh, g, bne_f, h0', q0, q1, q2, q3, q4, q5, h0n, c101 b (by omega)]
      cases hf : first b with
      | true =>
        have ih := l42 dep r (d ++ [b]) n (i + 1) (by simp; omega) (by simp; omega) hq (okH_snoc hv g) (wf_first h0)
        simp only [List.append_assoc, List.singleton_append] at ih
        simp only [Int.ofNat_lt, decide_true, decide_false, cond_true, cond_false, inB_nat, inB_zero, must_true, Int.toNat_natCast, asInt_int, asBool_bool, asSl_sl, asOsl_osl, asStr_str, orcE_R, orcE_W, orcE_L, orcE_X, need_some', asTup_tup, List.getElem?_cons_zero, List.getElem?_cons_succ, Bool.not_true, Bool.not_false, Bool.true_and, Bool.and_true, Bool.false_or, ble_dec, beq_dec, List.length_cons, List.length_nil, Nat.mul_one, Nat.zero_add, Nat.add_zero, Nat.sub_zero, both_self', bytesV_length, bytesV_flat, bytesV_isU8, hw', ih, if_true]
      | false => rfl
    · have h0' : ((i : Int) == 0) = false := beq_f (by omega)
      rw [if_neg h0]
      have kj := c102 d b (by omega) hv (hf_ok g)
      rw [← hi] at kj
      simp only [Int.ofNat_lt, decide_true, decide_false, cond_true, cond_false, inB_nat, inB_zero, must_true, Int.toNat_natCast, asInt_int, asBool_bool, asSl_sl, asOsl_osl, asStr_str, orcE_R, orcE_W, orcE_L, orcE_X, need_some', asTup_tup, List.getElem?_cons_zero, List.getElem?_cons_succ, Bool.not_true, Bool.not_false, Bool.true_and, Bool.and_true, Bool.false_or, ble_dec, beq_dec, List.length_cons, List.length_nil, Nat.mul_one, Nat.zero_add, Nat.add_zero, Nat.sub_zero, both_self', bytesV_length, bytesV_flat, bytesV_isU8, hlt, g0, g1, g2, g3, g4, g5, kh, g, bne_f, h0', ps_bare, hle, Int.natCast_nonneg, List.drop_zero, ht, hp, kj]
      by_cases gj : jf d b = 0
      case neg => rw [if_pos gj, bne_t gj]; rfl
      have ih := l242 dep r (d ++ [b]) n (i + 1) (by simp; omega) (by simp; omega) (by omega) hq (okH_snoc hv g) (wf_snoc hw gj)
      simp only [List.append_assoc, List.singleton_append] at ih
      rw [if_neg (fun h => h gj), gj, bne_f]
      simp only [Int.ofNat_lt, decide_true, decide_false, cond_true, cond_false, inB_nat, inB_zero, must_true, Int.toNat_natCast, asInt_int, asBool_bool, asSl_sl, asOsl_osl, asStr_str, orcE_R, orcE_W, orcE_L, orcE_X, need_some', asTup_tup, List.getElem?_cons_zero, List.getElem?_cons_succ, Bool.not_true, Bool.not_false, Bool.true_and, Bool.and_true, Bool.false_or, ble_dec, beq_dec, List.length_cons, List.length_nil, Nat.mul_one, Nat.zero_add, Nat.add_zero, Nat.sub_zero, both_self', bytesV_length, bytesV_flat, bytesV_isU8, hw', ih]
theorem c42 (l : List Hd) (dep : Int) (hl : l.length ≤ 100000000) : runE C 42 [.agg [.sl l.length (hdsS l), .int .i64 dep]] = some (.tup [.int .i64 (clFault l dep)]) := by
  refine E42 _ _ _ ?_
  unfold T42 clFault
  simp only [Int.ofNat_lt, decide_true, decide_false, cond_true, cond_false, inB_nat, inB_zero, must_true, Int.toNat_natCast, asInt_int, asBool_bool, asSl_sl, asOsl_osl, asStr_str, orcE_R, orcE_W, orcE_L, orcE_X, need_some', asTup_tup, List.getElem?_cons_zero, List.getElem?_cons_succ, Bool.not_true, Bool.not_false, Bool.true_and, Bool.and_true, Bool.false_or, ble_dec, beq_dec, List.length_cons, List.length_nil, Nat.mul_one, Nat.zero_add, Nat.add_zero, Nat.sub_zero, both_self', bytesV_length, bytesV_flat, bytesV_isU8, c99]
  by_cases g0 : 1 ≤ dep ∧ dep ≤ 6
  case neg => rw [if_pos g0, decide_eq_false g0]; rfl
  rw [if_neg (fun h => h g0), decide_eq_true g0]
  by_cases g1 : l.length = 0
  · have g1' : ((l.length : Int) == 0) = true := by rw [g1]; rfl
    rw [if_pos g1, g1']; rfl
  have g1' : ((l.length : Int) == 0) = false := beq_f (by omega)
  rw [if_neg g1, g1']
  by_cases g2 : 24 < l.length
  · rw [if_pos g2, decide_eq_true (show (l.length : Int) > 24 by omega)]; rfl
  rw [if_neg g2, decide_eq_false (show ¬ (l.length : Int) > 24 by omega)]
  have k := l42 dep l [] l.length 0 (by simp) rfl (by omega) (fun v hv => by simp at hv) (fun j h1 h2 => by simp at h2)
  simp only [Int.ofNat_lt, decide_true, decide_false, cond_true, cond_false, inB_nat, inB_zero, must_true, Int.toNat_natCast, asInt_int, asBool_bool, asSl_sl, asOsl_osl, asStr_str, orcE_R, orcE_W, orcE_L, orcE_X, need_some', asTup_tup, List.getElem?_cons_zero, List.getElem?_cons_succ, Bool.not_true, Bool.not_false, Bool.true_and, Bool.and_true, Bool.false_or, ble_dec, beq_dec, List.length_cons, List.length_nil, Nat.mul_one, Nat.zero_add, Nat.add_zero, Nat.sub_zero, both_self', bytesV_length, bytesV_flat, bytesV_isU8, c58 l (by omega)]
  exact k
end Go.Proofs.YtehpmolckdmibaaGreat.Cli
