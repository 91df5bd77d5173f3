/-
  The heaviest, the main chain, what is confirmed, PruneClient: both sides.
-/
import Derived.Test.YtehpmolckdmibaaGreatPLAddTP
import Derived.Test.YtehpmolckdmibaaGreatPMPrune
namespace Go.Proofs.YtehpmolckdmibaaGreat.Cli
open Go Go.PI Go.PI.Sha Go.PI.Rel Go.PI.Nest Go.PI.Tru Go.PI.Set Go.PI.Cli Go.Proofs.YtehpmolckdmibaaGreat.Sha Go.Proofs.YtehpmolckdmibaaGreat.By Go.Proofs.YtehpmolckdmibaaGreat.Nest Go.Proofs.YtehpmolckdmibaaGreat.Set EqP
set_option maxHeartbeats 1000000
set_option linter.unusedVariables false
set_option linter.unusedSimpArgs false
theorem shl64 {x : Hd} (h : hdFault x = 0) : IntKind.i64.wrap (1 * 2 ^ min x.zer.toNat 64) = ((2 ^ x.zer.toNat : Nat) : Int) := shl_zer h
theorem wt_add {d r : List Hd} {x : Hd} (hv : okH (d ++ x :: r)) (hq : (d ++ x :: r).length ≤ 1000) : IntKind.i64.wrap ((wtL d : Int) + ((2 ^ x.zer.toNat : Nat) : Int)) = ((wtL (d ++ [x]) : Nat) : Int) := by
  have h1 := wtL_le hv
  rw [wtL_append] at h1
  simp only [wtL] at h1
  have h2 : (d ++ x :: r).length * 1099511627776 ≤ 1000 * 1099511627776 := Nat.mul_le_mul_right _ hq
  rw [wtL_append]
  simp only [wtL, Nat.add_zero]
  generalize 2 ^ x.zer.toNat = p at h1 ⊢
  rw [w64 (by omega) (by omega)]; omega
theorem l246 (hs c : List Hd) (i n a : Nat) (most : Int) (hv : okH c) (hq : c.length ≤ 1000) {res : Option V}
    (h1 : (wtL c : Int) > most → loopE C 46 0 [true, true, false, true] [] [(0, V.sl hs.length (hdsS hs)), (3, V.int .i64 (i : Int)), (4, V.int .i64 (wtL c : Int)), (10, V.int .i64 (n : Int)), (11, V.int .i64 (IntKind.i64.wrap ((i : Int) + 1)))] [] = res)
    (h2 : ¬ (wtL c : Int) > most → loopE C 46 0 [true, true, false, true] [] [(0, V.sl hs.length (hdsS hs)), (3, V.int .i64 (a : Int)), (4, V.int .i64 most), (10, V.int .i64 (n : Int)), (11, V.int .i64 (IntKind.i64.wrap ((i : Int) + 1)))] [] = res) (hres : ∃ v, res = some v) :
    ∀ (r d : List Hd) (N j : Nat), N = d.length + r.length → j = d.length → c = d ++ r →
      loopE C 46 2 [true, true, false, true, false, true, true, false, false, true, true, false, true] [0] [(0, V.sl hs.length (hdsS hs)), (3, V.int .i64 (a : Int)), (4, V.int .i64 most), (5, V.int .i64 (i : Int)), (6, V.int .i64 (wtL d : Int)), (10, V.int .i64 (n : Int)), (11, V.int .i64 (i : Int)), (18, V.sl N (hdsS (d ++ r))), (19, V.int .i64 (N : Int)), (20, V.int .i64 (j : Int))] [] = res
  | [], d, N, j, hN, hj, hc => by
    obtain ⟨v, rfl⟩ := hres
    refine E46l2 _ _ _ _ _ _ _ _ _ _ _ _ ?_
    unfold T46l2
    have hlt : ¬ j < N := by simp at hN; omega
    rw [List.append_nil] at hc
    subst hc
    by_cases g : (wtL c : Int) > most
    · simp only [Int.ofNat_lt, decide_true, decide_false, cond_true, cond_false, inB_nat, inB_zero, must_true, Int.toNat_natCast, asInt_int, asBool_bool, asSl_sl, asOsl_osl, asStr_str, orcE_R, orcE_W, orcE_L, orcE_X, need_some', asTup_tup, List.getElem?_cons_zero, List.getElem?_cons_succ, Bool.not_true, Bool.not_false, Bool.true_and, Bool.and_true, Bool.false_or, ble_dec, beq_dec, List.length_cons, List.length_nil, Nat.mul_one, Nat.zero_add, Nat.add_zero, Nat.sub_zero, both_self', bytesV_length, bytesV_flat, bytesV_isU8, hlt, g, h1 g]
    · simp only [Int.ofNat_lt, decide_true, decide_false, cond_true, cond_false, inB_nat, inB_zero, must_true, Int.toNat_natCast, asInt_int, asBool_bool, asSl_sl, asOsl_osl, asStr_str, orcE_R, orcE_W, orcE_L, orcE_X, need_some', asTup_tup, List.getElem?_cons_zero, List.getElem?_cons_succ, Bool.not_true, Bool.not_false, Bool.true_and, Bool.and_true, Bool.false_or, ble_dec, beq_dec, List.length_cons, List.length_nil, Nat.mul_one, Nat.zero_add, Nat.add_zero, Nat.sub_zero, both_self', bytesV_length, bytesV_flat, bytesV_isU8, hlt, g, h2 g]
  | x :: r, d, N, j, hN, hj, hc => by
    obtain ⟨v, rfl⟩ := hres
    simp only [List.length_cons] at hN
    have ih := l246 hs c i n a most hv hq h1 h2 ⟨v, rfl⟩ r (d ++ [x]) N (j + 1) (by simp; omega) (by simp; omega) (by simpa using hc)
    have hlt : j < N := by omega
    have hw := w64_succ (n := j) (by simp [hc] at hq; omega)
    have hx : hdFault x = 0 := hv x (by rw [hc]; simp)
    have hz := hdFault_ok hx
    have hz0 : 0 ≤ x.zer := by omega
    have ws := wt_add (d := d) (r := r) (x := x) (hc ▸ hv) (hc ▸ hq)
    have g0 := hdsS_at0 hj x r
    have g1 := hdsS_at1 hj x r
    have g2 := hdsS_at2 hj x r
    have g3 := hdsS_at3 hj x r
    have g4 := hdsS_at4 hj x r
    have g5 := hdsS_at5 hj x r
    simp only [List.append_assoc, List.singleton_append] at ih
    refine E46l2 _ _ _ _ _ _ _ _ _ _ _ _ ?_
    unfold T46l2
    simp only [Int.ofNat_lt, decide_true, decide_false, cond_true, cond_false, inB_nat, inB_zero, must_true, Int.toNat_natCast, asInt_int, asBool_bool, asSl_sl, asOsl_osl, asStr_str, orcE_R, orcE_W, orcE_L, orcE_X, need_some', asTup_tup, List.getElem?_cons_zero, List.getElem?_cons_succ, Bool.not_true, Bool.not_false, Bool.true_and, Bool.and_true, Bool.false_or, ble_dec, beq_dec, List.length_cons, List.length_nil, Nat.mul_one, Nat.zero_add, Nat.add_zero, Nat.sub_zero, both_self', bytesV_length, bytesV_flat, bytesV_isU8, hlt, g0, g1, g2, g3, g4, g5, hz0, shl64 hx, ws, hw, ih]
theorem l46 (hs : List Hd) (hq : hs.length ≤ 1000) (hv : okH hs) (hw : wf hs) : ∀ (m i a : Nat) (most : Int), i + m = hs.length →
    loopE C 46 0 [true, true, false, true] [] [(0, V.sl hs.length (hdsS hs)), (3, V.int .i64 (a : Int)), (4, V.int .i64 most), (10, V.int .i64 (hs.length : Int)), (11, V.int .i64 (i : Int))] [] = some (.tup [.int .i64 (hvy hs m i a most : Int)])
  | 0, i, a, most, hi => by
    refine E46l1 _ _ _ _ _ _ ?_
    unfold T46l1
    have : ¬ i < hs.length := by omega
    simp [this, hvy]
  | m + 1, i, a, most, hi => by
    have hlt : i < hs.length := by omega
    have hww := w64_succ (n := i) (by omega)
    have k1 := c107 hs (by omega) hv hw i hlt
    have wl := way_length hlt
    have k2 := c106 hs (way hs i) (by omega) (way_lt hlt)
    have kk := l246 hs (chain hs i) i hs.length a most (okH_way hv hlt) (by rw [chain_length]; omega) (res := some (.tup [.int .i64 (hvy hs (m + 1) i a most : Int)]))
      (fun g => by rw [hww, l46 hs hq hv hw m (i + 1) i _ (by omega)]; simp only [hvy]; rw [if_pos (show (wt hs i : Int) > most from g)]; rfl)
      (fun g => by rw [hww, l46 hs hq hv hw m (i + 1) a most (by omega)]; simp only [hvy]; rw [if_neg (show ¬ (wt hs i : Int) > most from g)]) ⟨_, rfl⟩
      (chain hs i) [] (way hs i).length 0 (by simp [chain_length]) rfl rfl
    simp only [List.nil_append, wtL] at kk
    refine E46l1 _ _ _ _ _ _ ?_
    unfold T46l1
    unfold chain at kk
    simp only [Int.ofNat_lt, decide_true, decide_false, cond_true, cond_false, inB_nat, inB_zero, must_true, Int.toNat_natCast, asInt_int, asBool_bool, asSl_sl, asOsl_osl, asStr_str, orcE_R, orcE_W, orcE_L, orcE_X, need_some', asTup_tup, List.getElem?_cons_zero, List.getElem?_cons_succ, Bool.not_true, Bool.not_false, Bool.true_and, Bool.and_true, Bool.false_or, ble_dec, beq_dec, List.length_cons, List.length_nil, Nat.mul_one, Nat.zero_add, Nat.add_zero, Nat.sub_zero, both_self', bytesV_length, bytesV_flat, bytesV_isU8, hlt, k1, k2]
    exact kk
theorem c46 (hs : List Hd) (hq : hs.length ≤ 1000) (hv : okH hs) (hw : wf hs) : runE C 46 [.sl hs.length (hdsS hs)] = some (.tup [.int .i64 (hvst hs : Int)]) := by
  refine E46 _ _ ?_
  unfold T46
  exact l46 hs hq hv hw hs.length 0 0 (-1) (by omega)
theorem c103 (x : Cl) (g : clFault x.hds x.dep = 0) : runE C 103 [.agg [.sl x.hds.length (hdsS x.hds), .int .i64 x.dep]] = some (.tup [.osl (mn x.hds).length (nV (mn x.hds))]) := by
  obtain ⟨q1, q2, q3, q4, q5⟩ := clFault_ok g
  refine E103 _ _ _ ?_
  unfold T103
  simp only [Int.ofNat_lt, decide_true, decide_false, cond_true, cond_false, inB_nat, inB_zero, must_true, Int.toNat_natCast, asInt_int, asBool_bool, asSl_sl, asOsl_osl, asStr_str, orcE_R, orcE_W, orcE_L, orcE_X, need_some', asTup_tup, List.getElem?_cons_zero, List.getElem?_cons_succ, Bool.not_true, Bool.not_false, Bool.true_and, Bool.and_true, Bool.false_or, ble_dec, beq_dec, List.length_cons, List.length_nil, Nat.mul_one, Nat.zero_add, Nat.add_zero, Nat.sub_zero, both_self', bytesV_length, bytesV_flat, bytesV_isU8, c46 x.hds (by omega) q1 q2, c107 x.hds (by omega) q1 q2 (hvst x.hds) (hvst_lt q3)]
  simp only [nV_flat, Int.ofNat_lt, decide_true, decide_false, cond_true, cond_false, inB_nat, inB_zero, must_true, Int.toNat_natCast, asInt_int, asBool_bool, asSl_sl, asOsl_osl, asStr_str, orcE_R, orcE_W, orcE_L, orcE_X, need_some', asTup_tup, List.getElem?_cons_zero, List.getElem?_cons_succ, Bool.not_true, Bool.not_false, Bool.true_and, Bool.and_true, Bool.false_or, ble_dec, beq_dec, List.length_cons, List.length_nil, Nat.mul_one, Nat.zero_add, Nat.add_zero, Nat.sub_zero, both_self', bytesV_length, bytesV_flat, bytesV_isU8]
  rfl
/-- What the closure asks. -/
def dq (hs : List Hd) (tip : Hd) (dep : Int) (j : Nat) : Bool := decide ((atH hs j).hgt > tip.hgt - dep)
theorem cW105 (hs : List Hd) (dep : Int) (t : Hd) (j : Nat) (hj : j < hs.length) (hd : IntKind.i64.wrap (t.hgt - dep) = t.hgt - dep) : runWE C 105 [] [.int .i64 (j : Int), .ptr 0 0, .ptr 1 0] [.box 26 [.sl hs.length (hdsS hs), .int .i64 dep] false, .box 28 [.sl t.par.length (bytesV t.par), .int .i64 t.hgt, .int .i64 t.tim, .int .i64 t.zer, .sl t.root.length (bytesV t.root), .int .i64 t.non] false] =
    some (.tup [.bool (dq hs t dep j), .sl hs.length (hdsS hs), .int .i64 dep, .sl t.par.length (bytesV t.par), .int .i64 t.hgt, .int .i64 t.tim, .int .i64 t.zer, .sl t.root.length (bytesV t.root), .int .i64 t.non]) := by
  refine E105 _ _ _ _ _ _ _ _ _ _ _ _ ?_
  unfold T105
  have g1 := hdsS_i1 (l := hs) hj
  simp only [Int.ofNat_lt, decide_true, decide_false, cond_true, cond_false, inB_nat, inB_zero, must_true, Int.toNat_natCast, asInt_int, asBool_bool, asSl_sl, asOsl_osl, asStr_str, orcE_R, orcE_W, orcE_L, orcE_X, need_some', asTup_tup, List.getElem?_cons_zero, List.getElem?_cons_succ, Bool.not_true, Bool.not_false, Bool.true_and, Bool.and_true, Bool.false_or, ble_dec, beq_dec, List.length_cons, List.length_nil, Nat.mul_one, Nat.zero_add, Nat.add_zero, Nat.sub_zero, both_self', bytesV_length, bytesV_flat, bytesV_isU8, hj, g1, hd]
  rfl
theorem cP105 (hs : List Hd) (dep : Int) (t : Hd) (j : Nat) (hj : j < hs.length) (hd : IntKind.i64.wrap (t.hgt - dep) = t.hgt - dep) : runE C 105 [.int .i64 (j : Int), .pin [.sl hs.length (hdsS hs), .int .i64 dep] 0, .pin [.sl t.par.length (bytesV t.par), .int .i64 t.hgt, .int .i64 t.tim, .int .i64 t.zer, .sl t.root.length (bytesV t.root), .int .i64 t.non] 0] =
    some (.tup [.bool (dq hs t dep j)]) := by
  refine E105s2 _ _ _ _ _ _ _ _ _ _ _ _ ?_
  unfold T105s2
  have g1 := hdsS_i1 (l := hs) hj
  simp only [Int.ofNat_lt, decide_true, decide_false, cond_true, cond_false, inB_nat, inB_zero, must_true, Int.toNat_natCast, asInt_int, asBool_bool, asSl_sl, asOsl_osl, asStr_str, orcE_R, orcE_W, orcE_L, orcE_X, need_some', asTup_tup, List.getElem?_cons_zero, List.getElem?_cons_succ, Bool.not_true, Bool.not_false, Bool.true_and, Bool.and_true, Bool.false_or, ble_dec, beq_dec, List.length_cons, List.length_nil, Nat.mul_one, Nat.zero_add, Nat.add_zero, Nat.sub_zero, both_self', bytesV_length, bytesV_flat, bytesV_isU8, hj, g1, hd]
  rfl
/-- The first that is asked for. -/
def fst (p : Nat → Bool) : List Nat → Int → Int
  | [], _ => -1
  | j :: r, i => if p j = true then i else fst p r (i + 1)
theorem fst_split (p : Nat → Bool) : ∀ (l : List Nat) (i : Int), (fst p l i = -1 ∧ ∀ j ∈ l, p j = false) ∨ ∃ a x r, l = a ++ x :: r ∧ (∀ j ∈ a, p j = false) ∧ p x = true ∧ fst p l i = i + a.length
  | [], i => .inl ⟨rfl, by simp⟩
  | y :: l, i => by
    by_cases h : p y = true
    · exact .inr ⟨[], y, l, rfl, by simp, h, by simp [fst, h]⟩
    · rcases fst_split p l (i + 1) with ⟨h1, h2⟩ | ⟨a, x, r, h1, h2, h3, h4⟩
      · refine .inl ⟨by simp [fst, h, h1], fun j hj => ?_⟩
        rcases List.mem_cons.1 hj with e | hj
        · rw [e]; simpa using h
        · exact h2 j hj
      · refine .inr ⟨y :: a, x, r, by simp [h1], fun j hj => ?_, h3, ?_⟩
        · rcases List.mem_cons.1 hj with e | hj
          · rw [e]; simpa using h
          · exact h2 j hj
        · simp only [fst, h, List.length_cons]
          rw [if_neg (by simp), h4]; omega
theorem lF (hs : List Hd) (dep : Int) (t : Hd) (hd : IntKind.i64.wrap (t.hgt - dep) = t.hgt - dep) : ∀ (r d : List Nat) (n i : Nat), n = d.length + r.length → i = d.length → n < 1000000000 → (∀ j ∈ r, j < hs.length) →
    loopE C 171 0 [true, false, true] [] [(0, V.sl n (nV (d ++ r))), (1, V.fn 105 [V.pin [V.sl hs.length (hdsS hs), V.int .i64 dep] 0, V.pin [V.sl t.par.length (bytesV t.par), V.int .i64 t.hgt, V.int .i64 t.tim, V.int .i64 t.zer, V.sl t.root.length (bytesV t.root), V.int .i64 t.non] 0]), (7, V.int .i64 (n : Int)), (8, V.int .i64 (i : Int))] [] = some (.tup [.int .i64 (fst (dq hs t dep) r i)])
  | [], d, n, i, hn, hi, hq, hr => by
    refine E171l1 _ _ _ _ _ _ _ _ _ _ _ _ _ _ _ ?_
    unfold T171l1
    have : ¬ i < n := by simp at hn; omega
    simp [this, fst]
  | b :: r, d, n, i, hn, hi, hq, hr => by
    simp only [List.length_cons] at hn
    have hlt : i < n := by omega
    have hw := w64_succ (n := i) (by omega)
    have gp := nV_at hi b r
    have ih := lF hs dep t hd r (d ++ [b]) n (i + 1) (by simp; omega) (by simp; omega) hq (fun v h => hr v (by simp [h]))
    refine E171l1 _ _ _ _ _ _ _ _ _ _ _ _ _ _ _ ?_
    unfold T171l1
    simp only [List.append_assoc, List.singleton_append] at ih
    have ei : ((i + 1 : Nat) : Int) = (i : Int) + 1 := by omega
    simp only [Int.ofNat_lt, decide_true, decide_false, cond_true, cond_false, inB_nat, inB_zero, must_true, Int.toNat_natCast, asInt_int, asBool_bool, asSl_sl, asOsl_osl, asStr_str, orcE_R, orcE_W, orcE_L, orcE_X, need_some', asTup_tup, List.getElem?_cons_zero, List.getElem?_cons_succ, Bool.not_true, Bool.not_false, Bool.true_and, Bool.and_true, Bool.false_or, ble_dec, beq_dec, List.length_cons, List.length_nil, Nat.mul_one, Nat.zero_add, Nat.add_zero, Nat.sub_zero, both_self', bytesV_length, bytesV_flat, bytesV_isU8, hlt, gp, cP105 hs dep t b (hr b (by simp)) hd, hw, ih, fst]
    by_cases e : dq hs t dep b = true
    · simp [e]
    · simp [e]
theorem iF (hs : List Hd) (dep : Int) (t : Hd) (hd : IntKind.i64.wrap (t.hgt - dep) = t.hgt - dep) (l : List Nat) (h : l.length < 1000000000) (hl : ∀ j ∈ l, j < hs.length) :
    runE C 171 [.sl l.length (nV l), .fn 105 [.pin [V.sl hs.length (hdsS hs), V.int .i64 dep] 0, .pin [V.sl t.par.length (bytesV t.par), V.int .i64 t.hgt, V.int .i64 t.tim, V.int .i64 t.zer, V.sl t.root.length (bytesV t.root), V.int .i64 t.non] 0]] = some (.tup [.int .i64 (fst (dq hs t dep) l 0)]) := by
  refine E171 _ _ _ _ _ _ _ _ _ _ _ _ _ ?_
  unfold T171
  exact lF hs dep t hd l [] l.length 0 (by simp) rfl h hl
theorem nV_take (l : List Nat) (n : Nat) : (nV l).take (n * 1) = nV (l.take n) := rows_take nE (sz := 1) (fun _ => rfl) n l
theorem take_splice_le {β : List V} {n : Nat} (xs : List V) (h : n ≤ β.length) : (splice β n xs).take n = β.take n := by
  unfold splice
  rw [List.append_assoc, List.take_append_of_le_length (by rw [List.length_take]; omega), List.take_take, Nat.min_self]
/-- The second half of the deleting: what is kept comes first, then what is passed over. -/
theorem l104 (hs : List Hd) (dep : Int) (t : Hd) (hd : IntKind.i64.wrap (t.hgt - dep) = t.hgt - dep) : ∀ (r a : List Nat) (y : Nat) (b : List Nat) (n i j : Nat), n = a.length + (y :: b).length + r.length → i = a.length → j = a.length + (y :: b).length → n < 1000000000 → (∀ j ∈ r, j < hs.length) →
    loopWE C 104 [] [Ob.row 2 0 [] false, Ob.box 26 [V.u, V.u] false, Ob.box 28 [V.u, V.u, V.u, V.u, V.u, V.u] false] 0 [true, true, true, false, true] [] [(0, V.ref 0), (1, V.fn 105 [V.ptr 1 0, V.ptr 2 0]), (5, V.int .i64 (i : Int)), (6, V.int .i64 (j : Int))]
      [Ob.row 2 n (nV (a ++ y :: b ++ r)) false, Ob.box 26 [V.sl hs.length (hdsS hs), V.int .i64 dep] false, Ob.box 28 [V.sl t.par.length (bytesV t.par), V.int .i64 t.hgt, V.int .i64 t.tim, V.int .i64 t.zer, V.sl t.root.length (bytesV t.root), V.int .i64 t.non] false] =
      some (.tup [.sl (a ++ r.filter (fun k => !dq hs t dep k)).length (nV (a ++ r.filter (fun k => !dq hs t dep k))), .sl hs.length (hdsS hs), .int .i64 dep, .sl t.par.length (bytesV t.par), .int .i64 t.hgt, .int .i64 t.tim, .int .i64 t.zer, .sl t.root.length (bytesV t.root), .int .i64 t.non])
  | [], a, y, b, n, i, j, hn, hi, hj, hq, hr => by
    refine E104l1 _ _ _ _ _ _ _ _ _ _ _ _ _ _ _ ?_
    unfold T104l1
    have hlt : ¬ (j : Int) < (n : Int) := by simp at hn hj; omega
    subst hi
    have hle : (a.length : Int) ≤ (n : Int) := by simp at hn; omega
    have h0 : 0 ≤ (a.length : Int) := by omega
    have hl : (nV (a ++ y :: b)).length = n := by rw [nV_length]; simp at hn ⊢; omega
    have es := take_splice_le (β := nV (a ++ y :: b)) (n := a.length * 1) (reps (n - a.length) [V.int .i64 0]) (by rw [hl]; simp at hn; omega)
    have et : (a ++ y :: b).take a.length = a := by simp
    rw [nV_take, et] at es
    simp only [List.append_nil, decide_eq_false hlt, cond_false, decide_eq_true hle, decide_eq_true h0, Bool.and_self, must, cond_true, Int.toNat_natCast, Nat.sub_zero, List.drop_zero, es, List.filter_nil]
  | x :: r, a, y, b, n, i, j, hn, hi, hj, hq, hr => by
    simp only [List.length_cons] at hn hj
    have hlt : (j : Int) < (n : Int) := by omega
    have hltn : j < n := by omega
    have hin : i < n := by omega
    have w1 := w64_succ (n := i) (by omega)
    have w2 := w64_succ (n := j) (by omega)
    have gp : (nV (a ++ y :: b ++ x :: r))[j]? = some (.int .i64 (x : Int)) := nV_at (d := a ++ y :: b) (by simp; omega) x r
    have hl : (nV (a ++ y :: b ++ x :: r)).length = n := by rw [nV_length]; simp; omega
    have hs1 : splice (nV (a ++ y :: b ++ x :: r)) i [.int .i64 (x : Int)] = nV (a ++ x :: b ++ x :: r) := by
      have := nV_set hi y x (b ++ x :: r)
      simpa using this
    have hb : i + 1 ≤ n := by omega
    have kc := cW105 hs dep t x (hr x (by simp)) hd
    refine E104l1 _ _ _ _ _ _ _ _ _ _ _ _ _ _ _ ?_
    unfold T104l1
    by_cases e : dq hs t dep x = true
    · have ih := l104 hs dep t hd r a y (b ++ [x]) n i (j + 1) (by simp; omega) hi (by simp; omega) hq (fun v h => hr v (by simp [h]))
      have e1 : a ++ y :: (b ++ [x]) ++ r = a ++ y :: b ++ x :: r := by simp
      have e2 : (x :: r).filter (fun k => !dq hs t dep k) = r.filter (fun k => !dq hs t dep k) := by rw [List.filter_cons]; simp [e]
      rw [e1] at ih
      rw [e2]
      rw [e] at kc
      simp only [Int.ofNat_lt, decide_true, decide_false, cond_true, cond_false, inB_nat, inB_zero, must_true, Int.toNat_natCast, asInt_int, asBool_bool, asSl_sl, asOsl_osl, asStr_str, orcE_R, orcE_W, orcE_L, orcE_X, need_some', asTup_tup, List.getElem?_cons_zero, List.getElem?_cons_succ, Bool.not_true, Bool.not_false, Bool.true_and, Bool.and_true, Bool.false_or, ble_dec, beq_dec, List.length_cons, List.length_nil, Nat.mul_one, Nat.zero_add, Nat.add_zero, Nat.sub_zero, both_self', bytesV_length, bytesV_flat, bytesV_isU8, hltn, gp, kc, w1, w2, ih]
    · have e : dq hs t dep x = false := by simpa using e
      have e2 : (x :: r).filter (fun k => !dq hs t dep k) = x :: r.filter (fun k => !dq hs t dep k) := by rw [List.filter_cons]; simp [e]
      rw [e2]
      rw [e] at kc
      cases b with
      | nil =>
        have ih := l104 hs dep t hd r (a ++ [x]) x [] n (i + 1) (j + 1) (by simp at hn ⊢; omega) (by simp; omega) (by simp at hj ⊢; omega) hq (fun v h => hr v (by simp [h]))
        have e1 : a ++ [x] ++ [x] ++ r = a ++ x :: ([] : List Nat) ++ x :: r := by simp
        rw [e1] at ih
        simp only [List.append_assoc, List.singleton_append] at ih
        simp only [Int.ofNat_lt, decide_true, decide_false, cond_true, cond_false, inB_nat, inB_zero, must_true, Int.toNat_natCast, asInt_int, asBool_bool, asSl_sl, asOsl_osl, asStr_str, orcE_R, orcE_W, orcE_L, orcE_X, need_some', asTup_tup, List.getElem?_cons_zero, List.getElem?_cons_succ, Bool.not_true, Bool.not_false, Bool.true_and, Bool.and_true, Bool.false_or, ble_dec, beq_dec, List.length_cons, List.length_nil, Nat.mul_one, Nat.zero_add, Nat.add_zero, Nat.sub_zero, both_self', bytesV_length, bytesV_flat, bytesV_isU8, hltn, hin, gp, kc, hl, hs1, hb, w1, w2]
        simp only [List.append_assoc, List.singleton_append, List.cons_append, List.nil_append] at ih ⊢
        simp only [Int.ofNat_lt, decide_true, decide_false, cond_true, cond_false, inB_nat, inB_zero, must_true, Int.toNat_natCast, asInt_int, asBool_bool, asSl_sl, asOsl_osl, asStr_str, orcE_R, orcE_W, orcE_L, orcE_X, need_some', asTup_tup, List.getElem?_cons_zero, List.getElem?_cons_succ, Bool.not_true, Bool.not_false, Bool.true_and, Bool.and_true, Bool.false_or, ble_dec, beq_dec, List.length_cons, List.length_nil, Nat.mul_one, Nat.zero_add, Nat.add_zero, Nat.sub_zero, both_self', bytesV_length, bytesV_flat, bytesV_isU8, hb, ih]
      | cons z b =>
        have ih := l104 hs dep t hd r (a ++ [x]) z (b ++ [x]) n (i + 1) (j + 1) (by simp at hn ⊢; omega) (by simp; omega) (by simp at hj ⊢; omega) hq (fun v h => hr v (by simp [h]))
        simp only [Int.ofNat_lt, decide_true, decide_false, cond_true, cond_false, inB_nat, inB_zero, must_true, Int.toNat_natCast, asInt_int, asBool_bool, asSl_sl, asOsl_osl, asStr_str, orcE_R, orcE_W, orcE_L, orcE_X, need_some', asTup_tup, List.getElem?_cons_zero, List.getElem?_cons_succ, Bool.not_true, Bool.not_false, Bool.true_and, Bool.and_true, Bool.false_or, ble_dec, beq_dec, List.length_cons, List.length_nil, Nat.mul_one, Nat.zero_add, Nat.add_zero, Nat.sub_zero, both_self', bytesV_length, bytesV_flat, bytesV_isU8, hltn, hin, gp, kc, hl, hs1, hb, w1, w2]
        simp only [List.append_assoc, List.singleton_append, List.cons_append, List.nil_append] at ih ⊢
        simp only [Int.ofNat_lt, decide_true, decide_false, cond_true, cond_false, inB_nat, inB_zero, must_true, Int.toNat_natCast, asInt_int, asBool_bool, asSl_sl, asOsl_osl, asStr_str, orcE_R, orcE_W, orcE_L, orcE_X, need_some', asTup_tup, List.getElem?_cons_zero, List.getElem?_cons_succ, Bool.not_true, Bool.not_false, Bool.true_and, Bool.and_true, Bool.false_or, ble_dec, beq_dec, List.length_cons, List.length_nil, Nat.mul_one, Nat.zero_add, Nat.add_zero, Nat.sub_zero, both_self', bytesV_length, bytesV_flat, bytesV_isU8, hb, ih]
theorem c104 (hs : List Hd) (dep : Int) (t : Hd) (hd : IntKind.i64.wrap (t.hgt - dep) = t.hgt - dep) (l : List Nat) (h : l.length < 1000000000) (hl : ∀ j ∈ l, j < hs.length) :
    runWE C 104 [] [.ref 0, .fn 105 [.ptr 1 0, .ptr 2 0]] [.row 2 l.length (nV l) false, .box 26 [.sl hs.length (hdsS hs), .int .i64 dep] false, .box 28 [.sl t.par.length (bytesV t.par), .int .i64 t.hgt, .int .i64 t.tim, .int .i64 t.zer, .sl t.root.length (bytesV t.root), .int .i64 t.non] false] =
      some (.tup [.sl (l.filter (fun k => !dq hs t dep k)).length (nV (l.filter (fun k => !dq hs t dep k))), .sl hs.length (hdsS hs), .int .i64 dep, .sl t.par.length (bytesV t.par), .int .i64 t.hgt, .int .i64 t.tim, .int .i64 t.zer, .sl t.root.length (bytesV t.root), .int .i64 t.non]) := by
  refine E104 _ _ _ _ _ _ _ _ _ _ _ _ _ ?_
  unfold T104
  have k := iF hs dep t hd l h hl
  rcases fst_split (dq hs t dep) l 0 with ⟨h1, h2⟩ | ⟨a, x, r, h1, h2, h3, h4⟩
  · rw [h1] at k
    have e : l.filter (fun k => !dq hs t dep k) = l := List.filter_eq_self.2 fun j hj => by simp [h2 j hj]
    rw [e]
    simp only [Int.ofNat_lt, decide_true, decide_false, cond_true, cond_false, inB_nat, inB_zero, must_true, Int.toNat_natCast, asInt_int, asBool_bool, asSl_sl, asOsl_osl, asStr_str, orcE_R, orcE_W, orcE_L, orcE_X, need_some', asTup_tup, List.getElem?_cons_zero, List.getElem?_cons_succ, Bool.not_true, Bool.not_false, Bool.true_and, Bool.and_true, Bool.false_or, ble_dec, beq_dec, List.length_cons, List.length_nil, Nat.mul_one, Nat.zero_add, Nat.add_zero, Nat.sub_zero, both_self', bytesV_length, bytesV_flat, bytesV_isU8, k]
    rfl
  · rw [h4, Int.zero_add] at k
    have e : l.filter (fun k => !dq hs t dep k) = a ++ r.filter (fun k => !dq hs t dep k) := by
      rw [h1, List.filter_append, List.filter_cons, List.filter_eq_self.2 fun j hj => by simp [h2 j hj]]
      simp [h3]
    rw [e]
    have w1 := w64_succ (n := a.length) (by rw [h1] at h; simp at h; omega)
    have hf : ((a.length : Int) == -1) = false := beq_f (by omega)
    have kk := l104 hs dep t hd r a x [] l.length a.length (a.length + 1) (by rw [h1]; simp; omega) rfl (by simp) h (fun j hj => hl j (by rw [h1]; simp [hj]))
    have e3 : a ++ [x] ++ r = l := by rw [h1]; simp
    rw [e3] at kk
    simp only [Int.ofNat_lt, decide_true, decide_false, cond_true, cond_false, inB_nat, inB_zero, must_true, Int.toNat_natCast, asInt_int, asBool_bool, asSl_sl, asOsl_osl, asStr_str, orcE_R, orcE_W, orcE_L, orcE_X, need_some', asTup_tup, List.getElem?_cons_zero, List.getElem?_cons_succ, Bool.not_true, Bool.not_false, Bool.true_and, Bool.and_true, Bool.false_or, ble_dec, beq_dec, List.length_cons, List.length_nil, Nat.mul_one, Nat.zero_add, Nat.add_zero, Nat.sub_zero, both_self', bytesV_length, bytesV_flat, bytesV_isU8, k, hf, w1, kk]
theorem mn_at (hs : List Hd) : (nV (mn hs))[(mn hs).length - 1]? = some (.int .i64 (hvst hs : Int)) := by
  have e : mn hs = pre hs (hvst hs) (hvst hs) ++ hvst hs :: [] := mn_last hs
  rw [e]
  exact nV_at (by simp) _ _
theorem cnf_dq (hs : List Hd) (dep : Int) : (mn hs).filter (fun k => !dq hs (atH hs (hvst hs)) dep k) = cnf hs dep := rfl
theorem c45 (x : Cl) (g : clFault x.hds x.dep = 0) : runE C 45 [.agg [.sl x.hds.length (hdsS x.hds), .int .i64 x.dep]] = some (.tup [.sl (cnf x.hds x.dep).length (nV (cnf x.hds x.dep))]) := by
  obtain ⟨q1, q2, q3, q4, q5⟩ := clFault_ok g
  refine E45 _ _ _ ?_
  unfold T45
  have hp := mn_pos x.hds
  have hl := mn_length q3
  have hv := hvst_lt q3
  have ho := hdFault_ok (q1 _ (atH_mem hv))
  have hd : IntKind.i64.wrap ((atH x.hds (hvst x.hds)).hgt - x.dep) = (atH x.hds (hvst x.hds)).hgt - x.dep := w64 (by omega) (by omega)
  have w1 : IntKind.i64.wrap (((mn x.hds).length : Int) - 1) = (((mn x.hds).length - 1 : Nat) : Int) := by rw [w64 (by omega) (by omega)]; omega
  have hlt : (mn x.hds).length - 1 < (mn x.hds).length := by omega
  have g0 := hdsS_i0 (l := x.hds) hv
  have g1 := hdsS_i1 (l := x.hds) hv
  have g2 := hdsS_i2 (l := x.hds) hv
  have g3 := hdsS_i3 (l := x.hds) hv
  have g4 := hdsS_i4 (l := x.hds) hv
  have g5 := hdsS_i5 (l := x.hds) hv
  have kd := c104 x.hds x.dep (atH x.hds (hvst x.hds)) hd (mn x.hds) (by omega) (mn_lt q3)
  rw [cnf_dq] at kd
  unfold atH at kd
  simp only [Int.ofNat_lt, decide_true, decide_false, cond_true, cond_false, inB_nat, inB_zero, must_true, Int.toNat_natCast, asInt_int, asBool_bool, asSl_sl, asOsl_osl, asStr_str, orcE_R, orcE_W, orcE_L, orcE_X, need_some', asTup_tup, List.getElem?_cons_zero, List.getElem?_cons_succ, Bool.not_true, Bool.not_false, Bool.true_and, Bool.and_true, Bool.false_or, ble_dec, beq_dec, List.length_cons, List.length_nil, Nat.mul_one, Nat.zero_add, Nat.add_zero, Nat.sub_zero, both_self', bytesV_length, bytesV_flat, bytesV_isU8, c103 x g, w1, hlt, mn_at, hv, g0, g1, g2, g3, g4, g5, kd]
end Go.Proofs.YtehpmolckdmibaaGreat.Cli
