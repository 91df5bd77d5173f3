/-
  Trusts as arguments of laws; ResumeTrust, both sides.
-/
import Derived.Test.YtehpmolckdmibaaPLSet3TR
namespace Go.PI.Set
open Go Go.PI Go.PI.Sha Go.PI.Rel Go.PI.Nest Go.PI.Tru
theorem ps_part (d : List (List UInt8)) (b : List UInt8) (r : Nat) : splice (prt (fun b => [bO b]) [.nilsl] d (r + 1)) d.length [.own false 5 1 b.length (bytesV b)] = prt (fun b => [bO b]) [.nilsl] (d ++ [b]) r := by
  have := prt_step (fun b => [bO b]) (sz := 1) (fun _ => rfl) (z := [.nilsl]) rfl d b r
  rw [Nat.mul_one] at this
  exact this
def szTr (t : Tr) : Nat := szH t.hd + (t.nx.length + tot kl t.nx) + (t.roots.length + tot List.length t.roots)
theorem cV_bound {l : List Vd} (h : fitV l) : cV l ≤ 200000000 := by rw [cV_le]; have := h.1; have := h.2; omega
theorem szT_bound {t : Tr} (h : fitH t.hd) (h1 : fitV t.nx) (h2 : fitP t.roots) : szT t ≤ 400000000 := by
  have := cV_bound h1
  have := h2.2
  have : szH t.hd ≤ 100000000 := h
  unfold szT
  omega
def fitT (t : Tr) : Prop := fitH t.hd ∧ fitV t.nx ∧ fitP t.roots
def resumeTrust (t : Tr) (x : HB) (l : List Vd) : Int × Tr := if tFault t ≠ 0 then (tFault t, noT) else if t.pau = false then (1, noT) else if x.hgt ≤ t.hd.hgt then (3, noT) else newTrust x l t.per
end Go.PI.Set
namespace Go.Proofs.Ytehpmolckdmibaa.Set
open Go Go.PI Go.PI.Sha Go.PI.Rel Go.PI.Nest Go.PI.Tru Go.PI.Set Go.Proofs.Ytehpmolckdmibaa.Sha Go.Proofs.Ytehpmolckdmibaa.By Go.Proofs.Ytehpmolckdmibaa.Nest Go.Proofs.Ytehpmolckdmibaa.Tru EqR
set_option maxHeartbeats 1000000
set_option linter.unusedVariables false
set_option linter.unusedSimpArgs false

theorem l66 : ∀ (r d : List (List UInt8)) (left : Int) (n i : Nat), n = d.length + r.length → i = d.length → n ≤ 4611686018427387904 → (∀ v ∈ r, v.length ≤ 9223372036854775807) → 0 ≤ left → left ≤ 4611686018427387904 →
    loopE C 66 0 [true, true, true, false, true] [] [(0, V.sl n (psS (d ++ r))), (1, V.int .i64 left), (5, V.int .i64 (i : Int))] [] = some (.tup [.int .i64 (less left (tot List.length r))])
  | [], d, left, n, i, hn, hi, hq, hv, h1, h2 => by
    refine E66l1 _ _ _ _ ?_
    unfold T66l1
    have : ¬ i < n := by simp at hn; omega
    rw [less_ge (by simp [tot]; omega)]
    simp [this, tot]
  | v :: r, d, left, n, i, hn, hi, hq, hv, h1, h2 => by
    simp only [List.length_cons] at hn
    have hlt : i < n := by omega
    have hw := w64_succ (n := i) (by omega)
    have hg : (psS (d ++ v :: r))[i]? = some (bS v) := by subst hi; exact psS_at d v r
    have hl : (psS (d ++ v :: r)).length = n := by rw [psS_length]; simp; omega
    have k := c115 v.length (bytesV v) left (hv v (by simp)) h1 h2
    have et : tot List.length (v :: r) = v.length + tot List.length r := rfl
    rw [et]
    refine E66l1 _ _ _ _ ?_
    unfold T66l1
    by_cases g : left < v.length
    · rw [if_pos g] at k
      rw [less_lt (by omega)]
      simp only [Int.ofNat_lt, decide_true, decide_false, cond_true, cond_false, inB_nat, inB_zero, must_true, Int.toNat_natCast, asInt_int, asBool_bool, asSl_sl, asOsl_osl, asStr_str, orcE_R, orcE_W, orcE_L, orcE_X, need_some', asTup_tup, List.getElem?_cons_zero, List.getElem?_cons_succ, Bool.not_true, Bool.not_false, Bool.true_and, Bool.and_true, Bool.false_or, ble_dec, beq_dec, List.length_cons, List.length_nil, Nat.mul_one, Nat.zero_add, Nat.add_zero, Nat.sub_zero, both_self', bytesV_length, bytesV_flat, bytesV_isU8, hlt, hl, hg, bS, k]
      rfl
    · rw [if_neg g] at k
      have n1 : ¬ (left - (v.length : Int) < 0) := by omega
      have ih := l66 r (d ++ [v]) (left - v.length) n (i + 1) (by simp; omega) (by simp; omega) hq (fun u hu => hv u (by simp [hu])) (by omega) (by omega)
      rw [less_less g] at ih
      simp only [List.append_assoc, List.singleton_append] at ih
      simp only [Int.ofNat_lt, decide_true, decide_false, cond_true, cond_false, inB_nat, inB_zero, must_true, Int.toNat_natCast, asInt_int, asBool_bool, asSl_sl, asOsl_osl, asStr_str, orcE_R, orcE_W, orcE_L, orcE_X, need_some', asTup_tup, List.getElem?_cons_zero, List.getElem?_cons_succ, Bool.not_true, Bool.not_false, Bool.true_and, Bool.and_true, Bool.false_or, ble_dec, beq_dec, List.length_cons, List.length_nil, Nat.mul_one, Nat.zero_add, Nat.add_zero, Nat.sub_zero, both_self', bytesV_length, bytesV_flat, bytesV_isU8, hlt, hl, hg, bS, k, n1, hw, ih]
theorem c66 (l : List (List UInt8)) (left : Int) (h : l.length ≤ 9223372036854775807) (hv : ∀ v ∈ l, v.length ≤ 9223372036854775807) (h1 : 0 ≤ left) (h2 : left ≤ 4611686018427387904) :
    runE C 66 [.sl l.length (psS l), .int .i64 left] = some (.tup [.int .i64 (less left (l.length + tot List.length l))]) := by
  refine E66 _ _ _ ?_
  unfold T66
  rw [w64 (by omega) (by omega)]
  by_cases g : left < (l.length : Int)
  · rw [less_lt (by omega), decide_eq_true (by omega)]
    rfl
  · have k := l66 l [] (left - l.length) l.length 0 (by simp) rfl (by omega) hv (by omega) (by omega)
    rw [less_less g] at k
    rw [decide_eq_false (by omega)]
    exact k
theorem l67 : ∀ (r d : List (List UInt8)) (n i : Nat), n = d.length + r.length → i = d.length → n < 1000000000 → tot List.length r ≤ 100000000 →
    loopE C 67 0 [true, true, false, true] [] [(0, V.sl n (psS (d ++ r))), (3, V.ref 0), (4, V.int .i64 (i : Int))] [Ob.nrow [] 22 n (prt (fun b => [bO b]) [.nilsl] d r.length)] = some (.tup [.osl n (psO (d ++ r))])
  | [], d, n, i, hn, hi, hq, ht => by
    refine E67l1 _ _ _ _ _ ?_
    unfold T67l1
    have : ¬ i < n := by simp at hn; omega
    rw [List.length_nil, prt_full]
    simp [this, psO]
  | v :: r, d, n, i, hn, hi, hq, ht => by
    simp only [List.length_cons] at hn ⊢
    simp only [tot] at ht
    have ih := l67 r (d ++ [v]) n (i + 1) (by simp; omega) (by simp; omega) hq (by omega)
    refine E67l1 _ _ _ _ _ ?_
    unfold T67l1
    have hlt : i < n := by omega
    have hw := w64_succ (n := i) (by omega)
    have hg : (psS (d ++ v :: r))[i]? = some (bS v) := by subst hi; exact psS_at d v r
    have hl : (psS (d ++ v :: r)).length = n := by rw [psS_length]; simp; omega
    have hs : splice (prt (fun b => [bO b]) [.nilsl] d (r.length + 1)) i [V.own false 5 1 v.length (bytesV v)] = prt (fun b => [bO b]) [.nilsl] (d ++ [v]) r.length := by subst hi; exact ps_part d v r.length
    have hl2 : (prt (fun b => [bO b]) [.nilsl] d (r.length + 1)).length = n := by rw [prt_length (fun b => [bO b]) (sz := 1) (fun _ => rfl) (z := [.nilsl]) rfl]; omega
    have hb : i + (0 + 1) ≤ n := by omega
    simp only [List.append_assoc, List.singleton_append] at ih
    simp only [Int.ofNat_lt, decide_true, decide_false, cond_true, cond_false, inB_nat, inB_zero, must_true, Int.toNat_natCast, asInt_int, asBool_bool, asSl_sl, asOsl_osl, asStr_str, orcE_R, orcE_W, orcE_L, orcE_X, need_some', asTup_tup, List.getElem?_cons_zero, List.getElem?_cons_succ, Bool.not_true, Bool.not_false, Bool.true_and, Bool.and_true, Bool.false_or, ble_dec, beq_dec, List.length_cons, List.length_nil, Nat.mul_one, Nat.zero_add, Nat.add_zero, Nat.sub_zero, both_self', bytesV_length, bytesV_flat, bytesV_isU8, hlt, hl, hg, bS, c119 v (by omega), hl2, hs, hw, ih]
    simp only [hb, Int.ofNat_lt, decide_true, decide_false, cond_true, cond_false, inB_nat, inB_zero, must_true, Int.toNat_natCast, asInt_int, asBool_bool, asSl_sl, asOsl_osl, asStr_str, orcE_R, orcE_W, orcE_L, orcE_X, need_some', asTup_tup, List.getElem?_cons_zero, List.getElem?_cons_succ, Bool.not_true, Bool.not_false, Bool.true_and, Bool.and_true, Bool.false_or, ble_dec, beq_dec, List.length_cons, List.length_nil, Nat.mul_one, Nat.zero_add, Nat.add_zero, Nat.sub_zero, both_self', bytesV_length, bytesV_flat, bytesV_isU8]
theorem c67 (l : List (List UInt8)) (hf : fitP l) : runE C 67 [.sl l.length (psS l)] = some (.tup [.osl l.length (psO l)]) := by
  refine E67 _ _ ?_
  unfold T67
  have := l67 l [] l.length 0 (by simp) rfl (by have := hf.1; omega) hf.2
  rw [prt_zero] at this
  rw [must_of (by have := hf.1; simp; omega)]
  simpa using this
theorem c60 (t : Tr) (left : Int) (h : t.hd.root.length ≤ 9223372036854775807 ∧ t.hd.set.length ≤ 9223372036854775807 ∧ t.hd.nxt.length ≤ 9223372036854775807) (a1 : t.nx.length ≤ 9223372036854775807) (a2 : ∀ v ∈ t.nx, v.key.length ≤ 9223372036854775807) (a3 : t.roots.length ≤ 9223372036854775807) (a4 : ∀ v ∈ t.roots, v.length ≤ 9223372036854775807) (h1 : 0 ≤ left) (h2 : left ≤ 4611686018427387904) :
    runE C 60 [.agg [.int .i64 t.hd.hgt, .int .i64 t.hd.tim, .sl t.hd.root.length (bytesV t.hd.root), .sl t.hd.set.length (bytesV t.hd.set), .sl t.hd.nxt.length (bytesV t.hd.nxt), .sl t.nx.length (vsS t.nx), .int .i64 t.per, .bool t.pau, .sl t.roots.length (psS t.roots), .int .i64 t.frm], .int .i64 left] = some (.tup [.int .i64 (less left (szTr t))]) := by
  refine E60 _ _ _ _ _ _ _ _ _ _ _ _ _ _ _ _ ?_
  unfold T60
  have k1 := c28 t.hd left h h1 h2
  by_cases g1 : left < (szH t.hd : Int)
  · rw [less_lt g1] at k1
    rw [less_lt (by unfold szTr; omega)]
    simp only [Int.ofNat_lt, decide_true, decide_false, cond_true, cond_false, inB_nat, inB_zero, must_true, Int.toNat_natCast, asInt_int, asBool_bool, asSl_sl, asOsl_osl, asStr_str, orcE_R, orcE_W, orcE_L, orcE_X, need_some', asTup_tup, List.getElem?_cons_zero, List.getElem?_cons_succ, Bool.not_true, Bool.not_false, Bool.true_and, Bool.and_true, Bool.false_or, ble_dec, beq_dec, List.length_cons, List.length_nil, Nat.mul_one, Nat.zero_add, Nat.add_zero, Nat.sub_zero, both_self', bytesV_length, bytesV_flat, bytesV_isU8, k1]
    rfl
  rw [less_ge g1] at k1
  have n1 : ¬ (left - (szH t.hd : Int) < 0) := by omega
  have k2 := c29 t.nx (left - szH t.hd) a1 a2 (by omega) (by omega)
  rw [less_less g1] at k2
  by_cases g2 : left < ((szH t.hd + (t.nx.length + tot kl t.nx) : Nat) : Int)
  · rw [less_lt g2] at k2
    rw [less_lt (by unfold szTr; omega)]
    simp only [Int.ofNat_lt, decide_true, decide_false, cond_true, cond_false, inB_nat, inB_zero, must_true, Int.toNat_natCast, asInt_int, asBool_bool, asSl_sl, asOsl_osl, asStr_str, orcE_R, orcE_W, orcE_L, orcE_X, need_some', asTup_tup, List.getElem?_cons_zero, List.getElem?_cons_succ, Bool.not_true, Bool.not_false, Bool.true_and, Bool.and_true, Bool.false_or, ble_dec, beq_dec, List.length_cons, List.length_nil, Nat.mul_one, Nat.zero_add, Nat.add_zero, Nat.sub_zero, both_self', bytesV_length, bytesV_flat, bytesV_isU8, k1, n1, k2]
    rfl
  rw [less_ge g2] at k2
  have n2 : ¬ (left - ((szH t.hd + (t.nx.length + tot kl t.nx) : Nat) : Int) < 0) := by omega
  have k3 := c66 t.roots (left - ((szH t.hd + (t.nx.length + tot kl t.nx) : Nat) : Int)) a3 a4 (by omega) (by omega)
  rw [less_less g2] at k3
  have k3 : runE C 66 _ = some (.tup [.int .i64 (less left (szTr t))]) := k3
  by_cases g3 : left < (szTr t : Int)
  · rw [less_lt g3] at k3 ⊢
    simp only [Int.ofNat_lt, decide_true, decide_false, cond_true, cond_false, inB_nat, inB_zero, must_true, Int.toNat_natCast, asInt_int, asBool_bool, asSl_sl, asOsl_osl, asStr_str, orcE_R, orcE_W, orcE_L, orcE_X, need_some', asTup_tup, List.getElem?_cons_zero, List.getElem?_cons_succ, Bool.not_true, Bool.not_false, Bool.true_and, Bool.and_true, Bool.false_or, ble_dec, beq_dec, List.length_cons, List.length_nil, Nat.mul_one, Nat.zero_add, Nat.add_zero, Nat.sub_zero, both_self', bytesV_length, bytesV_flat, bytesV_isU8, k1, n1, k2, n2, k3]
    rfl
  · rw [less_ge g3] at k3 ⊢
    have n3 : ¬ (left - (szTr t : Int) < 0) := by omega
    simp only [Int.ofNat_lt, decide_true, decide_false, cond_true, cond_false, inB_nat, inB_zero, must_true, Int.toNat_natCast, asInt_int, asBool_bool, asSl_sl, asOsl_osl, asStr_str, orcE_R, orcE_W, orcE_L, orcE_X, need_some', asTup_tup, List.getElem?_cons_zero, List.getElem?_cons_succ, Bool.not_true, Bool.not_false, Bool.true_and, Bool.and_true, Bool.false_or, ble_dec, beq_dec, List.length_cons, List.length_nil, Nat.mul_one, Nat.zero_add, Nat.add_zero, Nat.sub_zero, both_self', bytesV_length, bytesV_flat, bytesV_isU8, k1, n1, k2, n2, k3, n3]
theorem c62 (t : Tr) (h : fitH t.hd) (h1 : fitV t.nx) (h2 : fitP t.roots) : runE C 62 [.agg [.int .i64 t.hd.hgt, .int .i64 t.hd.tim, .sl t.hd.root.length (bytesV t.hd.root), .sl t.hd.set.length (bytesV t.hd.set), .sl t.hd.nxt.length (bytesV t.hd.nxt), .sl t.nx.length (vsS t.nx), .int .i64 t.per, .bool t.pau, .sl t.roots.length (psS t.roots), .int .i64 t.frm]] = some (.tup [.int .i64 t.hd.hgt, .int .i64 t.hd.tim, .osl t.hd.root.length (bytesV t.hd.root), .osl t.hd.set.length (bytesV t.hd.set), .osl t.hd.nxt.length (bytesV t.hd.nxt), .osl t.nx.length (vsO t.nx), .int .i64 t.per, .bool t.pau, .osl t.roots.length (psO t.roots), .int .i64 t.frm]) := by
  refine E62 _ _ _ _ _ _ _ _ _ _ _ _ _ _ _ ?_
  unfold T62
  simp only [Int.ofNat_lt, decide_true, decide_false, cond_true, cond_false, inB_nat, inB_zero, must_true, Int.toNat_natCast, asInt_int, asBool_bool, asSl_sl, asOsl_osl, asStr_str, orcE_R, orcE_W, orcE_L, orcE_X, need_some', asTup_tup, List.getElem?_cons_zero, List.getElem?_cons_succ, Bool.not_true, Bool.not_false, Bool.true_and, Bool.and_true, Bool.false_or, ble_dec, beq_dec, List.length_cons, List.length_nil, Nat.mul_one, Nat.zero_add, Nat.add_zero, Nat.sub_zero, both_self', bytesV_length, bytesV_flat, bytesV_isU8, c31 t.hd h, c32 t.nx h1, c67 t.roots h2]
theorem resumeTrust_fit (t : Tr) (x : HB) (l : List Vd) (ht : fitT t) (h : fitH x) (h1 : fitV l) : fitH (resumeTrust t x l).2.hd ∧ fitV (resumeTrust t x l).2.nx ∧ fitP (resumeTrust t x l).2.roots := by
  have z : fitH noT.hd ∧ fitV noT.nx ∧ fitP noT.roots := ⟨by simp [noT, noH, fitH, szH], by simp [noT, fitV, tot], by simp [noT, fitP, tot]⟩
  unfold resumeTrust
  split
  · exact z
  · split
    · exact z
    · split
      · exact z
      · exact newTrust_fit x l t.per h h1
theorem c63 (t : Tr) (x : HB) (l : List Vd) (ht : fitT t) (h : fitH x) (h1 : fitV l) : runE C 63 [.agg [.int .i64 t.hd.hgt, .int .i64 t.hd.tim, .sl t.hd.root.length (bytesV t.hd.root), .sl t.hd.set.length (bytesV t.hd.set), .sl t.hd.nxt.length (bytesV t.hd.nxt), .sl t.nx.length (vsS t.nx), .int .i64 t.per, .bool t.pau, .sl t.roots.length (psS t.roots), .int .i64 t.frm], .agg [.int .i64 x.hgt, .int .i64 x.tim, .sl x.root.length (bytesV x.root), .sl x.set.length (bytesV x.set), .sl x.nxt.length (bytesV x.nxt)], .sl l.length (vsS l)] = some (.tup [.int .i64 (resumeTrust t x l).1, .int .i64 (resumeTrust t x l).2.hd.hgt, .int .i64 (resumeTrust t x l).2.hd.tim, .osl (resumeTrust t x l).2.hd.root.length (bytesV (resumeTrust t x l).2.hd.root), .osl (resumeTrust t x l).2.hd.set.length (bytesV (resumeTrust t x l).2.hd.set), .osl (resumeTrust t x l).2.hd.nxt.length (bytesV (resumeTrust t x l).2.hd.nxt), .osl (resumeTrust t x l).2.nx.length (vsO (resumeTrust t x l).2.nx), .int .i64 (resumeTrust t x l).2.per, .bool (resumeTrust t x l).2.pau, .osl (resumeTrust t x l).2.roots.length (psO (resumeTrust t x l).2.roots), .int .i64 (resumeTrust t x l).2.frm]) := by
  refine E63 _ _ _ _ _ _ _ _ _ _ _ _ _ _ _ _ _ _ _ _ _ _ _ _ _ ?_
  unfold T63
  have k := c121 t ht.1 ht.2.1 ht.2.2
  have k2 := c33 x l t.per h h1
  unfold resumeTrust
  by_cases g : tFault t = 0
  · rw [if_neg (by simp [g])]
    rw [g] at k
    cases hp : t.pau with
    | false =>
      rw [if_pos rfl]
      rw [hp] at k
      simp only [Int.ofNat_lt, decide_true, decide_false, cond_true, cond_false, inB_nat, inB_zero, must_true, Int.toNat_natCast, asInt_int, asBool_bool, asSl_sl, asOsl_osl, asStr_str, orcE_R, orcE_W, orcE_L, orcE_X, need_some', asTup_tup, List.getElem?_cons_zero, List.getElem?_cons_succ, Bool.not_true, Bool.not_false, Bool.true_and, Bool.and_true, Bool.false_or, ble_dec, beq_dec, List.length_cons, List.length_nil, Nat.mul_one, Nat.zero_add, Nat.add_zero, Nat.sub_zero, both_self', bytesV_length, bytesV_flat, bytesV_isU8, k, bne_f]
      rfl
    | true =>
      rw [if_neg (by simp)]
      rw [hp] at k
      by_cases g2 : x.hgt ≤ t.hd.hgt
      · rw [if_pos g2]
        simp only [Int.ofNat_lt, decide_true, decide_false, cond_true, cond_false, inB_nat, inB_zero, must_true, Int.toNat_natCast, asInt_int, asBool_bool, asSl_sl, asOsl_osl, asStr_str, orcE_R, orcE_W, orcE_L, orcE_X, need_some', asTup_tup, List.getElem?_cons_zero, List.getElem?_cons_succ, Bool.not_true, Bool.not_false, Bool.true_and, Bool.and_true, Bool.false_or, ble_dec, beq_dec, List.length_cons, List.length_nil, Nat.mul_one, Nat.zero_add, Nat.add_zero, Nat.sub_zero, both_self', bytesV_length, bytesV_flat, bytesV_isU8, k, bne_f, g2]
        rfl
      · rw [if_neg g2]
        simp only [Int.ofNat_lt, decide_true, decide_false, cond_true, cond_false, inB_nat, inB_zero, must_true, Int.toNat_natCast, asInt_int, asBool_bool, asSl_sl, asOsl_osl, asStr_str, orcE_R, orcE_W, orcE_L, orcE_X, need_some', asTup_tup, List.getElem?_cons_zero, List.getElem?_cons_succ, Bool.not_true, Bool.not_false, Bool.true_and, Bool.and_true, Bool.false_or, ble_dec, beq_dec, List.length_cons, List.length_nil, Nat.mul_one, Nat.zero_add, Nat.add_zero, Nat.sub_zero, both_self', bytesV_length, bytesV_flat, bytesV_isU8, k, bne_f, g2, k2]
  · rw [if_pos g]
    simp only [Int.ofNat_lt, decide_true, decide_false, cond_true, cond_false, inB_nat, inB_zero, must_true, Int.toNat_natCast, asInt_int, asBool_bool, asSl_sl, asOsl_osl, asStr_str, orcE_R, orcE_W, orcE_L, orcE_X, need_some', asTup_tup, List.getElem?_cons_zero, List.getElem?_cons_succ, Bool.not_true, Bool.not_false, Bool.true_and, Bool.and_true, Bool.false_or, ble_dec, beq_dec, List.length_cons, List.length_nil, Nat.mul_one, Nat.zero_add, Nat.add_zero, Nat.sub_zero, both_self', bytesV_length, bytesV_flat, bytesV_isU8, k, bne_t g]
    rfl
theorem c61 (t : Tr) (x : HB) (l : List Vd) (ht : fitT t) (h : fitH x) (h1 : fitV l) : runE C 61 [.agg [.int .i64 t.hd.hgt, .int .i64 t.hd.tim, .sl t.hd.root.length (bytesV t.hd.root), .sl t.hd.set.length (bytesV t.hd.set), .sl t.hd.nxt.length (bytesV t.hd.nxt), .sl t.nx.length (vsS t.nx), .int .i64 t.per, .bool t.pau, .sl t.roots.length (psS t.roots), .int .i64 t.frm], .agg [.int .i64 x.hgt, .int .i64 x.tim, .sl x.root.length (bytesV x.root), .sl x.set.length (bytesV x.set), .sl x.nxt.length (bytesV x.nxt)], .sl l.length (vsS l)] = some (.tup [.int .i64 (resumeTrust t x l).1, .int .i64 (resumeTrust t x l).2.hd.hgt, .int .i64 (resumeTrust t x l).2.hd.tim, .sl (resumeTrust t x l).2.hd.root.length (bytesV (resumeTrust t x l).2.hd.root), .sl (resumeTrust t x l).2.hd.set.length (bytesV (resumeTrust t x l).2.hd.set), .sl (resumeTrust t x l).2.hd.nxt.length (bytesV (resumeTrust t x l).2.hd.nxt), .sl (resumeTrust t x l).2.nx.length (vsS (resumeTrust t x l).2.nx), .int .i64 (resumeTrust t x l).2.per, .bool (resumeTrust t x l).2.pau, .sl (resumeTrust t x l).2.roots.length (psS (resumeTrust t x l).2.roots), .int .i64 (resumeTrust t x l).2.frm]) := by
  refine E61 _ _ _ _ _ _ _ _ _ _ _ _ _ _ _ _ _ _ _ _ _ _ _ _ _ ?_
  unfold T61
  have k := c117 t ht.1 ht.2.1 ht.2.2
  have k2 := c30 x l t.per h h1
  unfold resumeTrust
  by_cases g : tFault t = 0
  · rw [if_neg (by simp [g])]
    rw [g] at k
    cases hp : t.pau with
    | false =>
      rw [if_pos rfl]
      rw [hp] at k
      simp only [Int.ofNat_lt, decide_true, decide_false, cond_true, cond_false, inB_nat, inB_zero, must_true, Int.toNat_natCast, asInt_int, asBool_bool, asSl_sl, asOsl_osl, asStr_str, orcE_R, orcE_W, orcE_L, orcE_X, need_some', asTup_tup, List.getElem?_cons_zero, List.getElem?_cons_succ, Bool.not_true, Bool.not_false, Bool.true_and, Bool.and_true, Bool.false_or, ble_dec, beq_dec, List.length_cons, List.length_nil, Nat.mul_one, Nat.zero_add, Nat.add_zero, Nat.sub_zero, both_self', bytesV_length, bytesV_flat, bytesV_isU8, k, bne_f]
      rfl
    | true =>
      rw [if_neg (by simp)]
      rw [hp] at k
      by_cases g2 : x.hgt ≤ t.hd.hgt
      · rw [if_pos g2]
        simp only [Int.ofNat_lt, decide_true, decide_false, cond_true, cond_false, inB_nat, inB_zero, must_true, Int.toNat_natCast, asInt_int, asBool_bool, asSl_sl, asOsl_osl, asStr_str, orcE_R, orcE_W, orcE_L, orcE_X, need_some', asTup_tup, List.getElem?_cons_zero, List.getElem?_cons_succ, Bool.not_true, Bool.not_false, Bool.true_and, Bool.and_true, Bool.false_or, ble_dec, beq_dec, List.length_cons, List.length_nil, Nat.mul_one, Nat.zero_add, Nat.add_zero, Nat.sub_zero, both_self', bytesV_length, bytesV_flat, bytesV_isU8, k, bne_f, g2]
        rfl
      · rw [if_neg g2]
        simp only [Int.ofNat_lt, decide_true, decide_false, cond_true, cond_false, inB_nat, inB_zero, must_true, Int.toNat_natCast, asInt_int, asBool_bool, asSl_sl, asOsl_osl, asStr_str, orcE_R, orcE_W, orcE_L, orcE_X, need_some', asTup_tup, List.getElem?_cons_zero, List.getElem?_cons_succ, Bool.not_true, Bool.not_false, Bool.true_and, Bool.and_true, Bool.false_or, ble_dec, beq_dec, List.length_cons, List.length_nil, Nat.mul_one, Nat.zero_add, Nat.add_zero, Nat.sub_zero, both_self', bytesV_length, bytesV_flat, bytesV_isU8, k, bne_f, g2, k2]
  · rw [if_pos g]
    simp only [Int.ofNat_lt, decide_true, decide_false, cond_true, cond_false, inB_nat, inB_zero, must_true, Int.toNat_natCast, asInt_int, asBool_bool, asSl_sl, asOsl_osl, asStr_str, orcE_R, orcE_W, orcE_L, orcE_X, need_some', asTup_tup, List.getElem?_cons_zero, List.getElem?_cons_succ, Bool.not_true, Bool.not_false, Bool.true_and, Bool.and_true, Bool.false_or, ble_dec, beq_dec, List.length_cons, List.length_nil, Nat.mul_one, Nat.zero_add, Nat.add_zero, Nat.sub_zero, both_self', bytesV_length, bytesV_flat, bytesV_isU8, k, bne_t g]
    rfl
end Go.Proofs.Ytehpmolckdmibaa.Set
