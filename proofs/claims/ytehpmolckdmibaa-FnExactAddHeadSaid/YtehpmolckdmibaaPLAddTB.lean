/-
  AddHead, both sides.
-/
import Derived.Test.YtehpmolckdmibaaPLJoin2TB
namespace Go.Proofs.Ytehpmolckdmibaa.Cli
open Go Go.PI Go.PI.Sha Go.PI.Rel Go.PI.Nest Go.PI.Tru Go.PI.Set Go.PI.Cli Go.Proofs.Ytehpmolckdmibaa.Sha Go.Proofs.Ytehpmolckdmibaa.By Go.Proofs.Ytehpmolckdmibaa.Nest Go.Proofs.Ytehpmolckdmibaa.Set EqB
set_option maxHeartbeats 1000000
set_option linter.unusedVariables false
set_option linter.unusedSimpArgs false

theorem cf_wf : ∀ (r d : List Hd), cf d r = 0 → wf d → wf (d ++ r)
  | [], d, h, hw => by simpa using hw
  | x :: r, d, h, hw => by
    rw [cf_cons] at h
    by_cases g : hf x = 0
    case neg => rw [if_pos g] at h; exact absurd h g
    rw [if_neg (fun h => h g)] at h
    have e : d ++ x :: r = d ++ [x] ++ r := by simp
    rw [e]
    by_cases h0 : d.length = 0
    · rw [if_pos h0] at h
      by_cases hf : first x = true
      · rw [if_pos hf] at h; exact cf_wf r _ h (wf_first h0)
      · rw [if_neg hf] at h; cases h
    · rw [if_neg h0] at h
      by_cases gj : jf d x = 0
      · rw [if_neg (fun h => h gj)] at h; exact cf_wf r _ h (wf_snoc hw gj)
      · rw [if_pos gj] at h; exact absurd h gj
theorem clFault_ok {hs : List Hd} {dep : Int} (h : clFault hs dep = 0) : okH hs ∧ wf hs ∧ 0 < hs.length ∧ hs.length ≤ 24 ∧ 1 ≤ dep ∧ dep ≤ 6 := by
  unfold clFault at h
  by_cases g0 : 1 ≤ dep ∧ dep ≤ 6
  case neg => rw [if_pos g0] at h; cases h
  rw [if_neg (fun h => h g0)] at h
  by_cases g1 : hs.length = 0
  · rw [if_pos g1] at h; cases h
  rw [if_neg g1] at h
  by_cases g2 : 24 < hs.length
  · rw [if_pos g2] at h; cases h
  rw [if_neg g2] at h
  have w0 : wf [] := fun j h1 h2 => by simp at h2
  exact ⟨cf_ok hs [] h, by simpa using cf_wf hs [] h w0, by omega, by omega, g0⟩
/-- What AddHead answers. -/
def addC (x : Cl) (y : Hd) : Int × List Hd × Int := if clFault x.hds x.dep ≠ 0 then (clFault x.hds x.dep, [], 0) else if hf y ≠ 0 then (hf y, [], 0) else if jf x.hds y ≠ 0 then (jf x.hds y, [], 0) else if x.hds.length = 24 then (8, [], 0) else (0, x.hds ++ [y], x.dep)
theorem hd_fit {y : Hd} (h : hdFault y = 0) : hdZ y = 64 := by have := hdFault_ok h; unfold hdZ; omega
theorem ok_tot : ∀ {hs : List Hd}, okH hs → tot hdZ hs = 64 * hs.length
  | [], _ => rfl
  | v :: l, h => by
    simp only [tot, hd_fit (h v (by simp)), ok_tot (hs := l) (fun u hu => h u (by simp [hu])), List.length_cons]; omega
theorem ok_fit {hs : List Hd} (h : okH hs) (hl : hs.length ≤ 1000) : hdsfit hs := ⟨by omega, by rw [ok_tot h]; omega⟩
theorem addC_fit (x : Cl) (y : Hd) (h : hdsfit x.hds) (h1 : hdfit y) : hdsfit (addC x y).2.1 := by
  unfold addC
  by_cases g0 : clFault x.hds x.dep = 0
  case neg => rw [if_pos g0]; exact ⟨by simp, by simp [tot]⟩
  rw [if_neg (fun h => h g0)]
  by_cases g1 : hf y = 0
  case neg => rw [if_pos g1]; exact ⟨by simp, by simp [tot]⟩
  rw [if_neg (fun h => h g1)]
  by_cases g2 : jf x.hds y = 0
  case neg => rw [if_pos g2]; exact ⟨by simp, by simp [tot]⟩
  rw [if_neg (fun h => h g2)]
  by_cases g3 : x.hds.length = 24
  · rw [if_pos g3]; exact ⟨by simp, by simp [tot]⟩
  rw [if_neg g3]
  obtain ⟨q1, q2, q3, q4, q5⟩ := clFault_ok g0
  exact ok_fit (okH_snoc q1 g1) (by simp; omega)
theorem c161 (l : List Hd) (h : l.length ≤ 1000000000) : runE C 161 [.sl l.length (hdsS l)] = some (.tup [.osl l.length (hdsS l)]) := by
  refine E161 _ _ ?_
  unfold T161
  have hl : (hdsS l).length = l.length * 6 := hdsS_length l
  have d1 : l.length ≤ 140737488355328 := by omega
  have d2 : l.length * 80 ≤ 140737488355328 := by omega
  simp only [Int.ofNat_lt, decide_true, decide_false, cond_true, cond_false, inB_nat, inB_zero, must_true, Int.toNat_natCast, asInt_int, asBool_bool, asSl_sl, asOsl_osl, asStr_str, orcE_R, orcE_W, orcE_L, orcE_X, need_some', asTup_tup, List.getElem?_cons_zero, List.getElem?_cons_succ, Bool.not_true, Bool.not_false, Bool.true_and, Bool.and_true, Bool.false_or, ble_dec, beq_dec, List.length_cons, List.length_nil, Nat.mul_one, Nat.zero_add, Nat.add_zero, Nat.sub_zero, both_self', bytesV_length, bytesV_flat, bytesV_isU8, hl, d1, d2]
  by_cases h0 : l = []
  · subst h0; simp [hdsS]
  · have h1 : l.length ≠ 0 := by simpa using h0
    simp [h1]
theorem c160 (x : Cl) (y : Hd) (g0 : clFault x.hds x.dep = 0) : runE C 160 [.agg [.sl x.hds.length (hdsS x.hds), .int .i64 x.dep], .agg [.sl y.par.length (bytesV y.par), .int .i64 y.hgt, .int .i64 y.tim, .int .i64 y.zer, .sl y.root.length (bytesV y.root), .int .i64 y.non]] = some (.tup [.int .i64 (addC x y).1]) := by
  obtain ⟨q1, q2, q3, q4, q5⟩ := clFault_ok g0
  refine E160 _ _ _ _ _ _ _ _ _ _ _ ?_
  unfold T160 addC
  rw [if_neg (fun h => h g0)]
  have k1 := c206 y
  by_cases g1 : hf y = 0
  case neg => simp only [Int.ofNat_lt, decide_true, decide_false, cond_true, cond_false, inB_nat, inB_zero, must_true, Int.toNat_natCast, asInt_int, asBool_bool, asSl_sl, asOsl_osl, asStr_str, orcE_R, orcE_W, orcE_L, orcE_X, need_some', asTup_tup, List.getElem?_cons_zero, List.getElem?_cons_succ, Bool.not_true, Bool.not_false, Bool.true_and, Bool.and_true, Bool.false_or, ble_dec, beq_dec, List.length_cons, List.length_nil, Nat.mul_one, Nat.zero_add, Nat.add_zero, Nat.sub_zero, both_self', bytesV_length, bytesV_flat, bytesV_isU8, k1, bne_t g1]; rw [if_pos g1]
  have k2 := c208 x.hds y (by omega) q1 q2 (hf_ok g1)
  rw [if_neg (fun h => h g1)]
  rw [g1] at k1
  by_cases g2 : jf x.hds y = 0
  case neg => simp only [Int.ofNat_lt, decide_true, decide_false, cond_true, cond_false, inB_nat, inB_zero, must_true, Int.toNat_natCast, asInt_int, asBool_bool, asSl_sl, asOsl_osl, asStr_str, orcE_R, orcE_W, orcE_L, orcE_X, need_some', asTup_tup, List.getElem?_cons_zero, List.getElem?_cons_succ, Bool.not_true, Bool.not_false, Bool.true_and, Bool.and_true, Bool.false_or, ble_dec, beq_dec, List.length_cons, List.length_nil, Nat.mul_one, Nat.zero_add, Nat.add_zero, Nat.sub_zero, both_self', bytesV_length, bytesV_flat, bytesV_isU8, k1, bne_f, k2, bne_t g2]; rw [if_pos g2]
  rw [if_neg (fun h => h g2)]
  rw [g2] at k2
  simp only [Int.ofNat_lt, decide_true, decide_false, cond_true, cond_false, inB_nat, inB_zero, must_true, Int.toNat_natCast, asInt_int, asBool_bool, asSl_sl, asOsl_osl, asStr_str, orcE_R, orcE_W, orcE_L, orcE_X, need_some', asTup_tup, List.getElem?_cons_zero, List.getElem?_cons_succ, Bool.not_true, Bool.not_false, Bool.true_and, Bool.and_true, Bool.false_or, ble_dec, beq_dec, List.length_cons, List.length_nil, Nat.mul_one, Nat.zero_add, Nat.add_zero, Nat.sub_zero, both_self', bytesV_length, bytesV_flat, bytesV_isU8, k1, bne_f, k2]
  by_cases g3 : x.hds.length = 24
  · have g3' : ((x.hds.length : Int) == 24) = true := by rw [g3]; rfl
    rw [if_pos g3, g3']; rfl
  · rw [if_neg g3, beq_f (by omega)]; rfl
theorem c79 (x : Cl) (y : Hd) (h : hdsfit x.hds) (h1 : hdfit y) : runE C 79 [.agg [.sl x.hds.length (hdsS x.hds), .int .i64 x.dep], .agg [.sl y.par.length (bytesV y.par), .int .i64 y.hgt, .int .i64 y.tim, .int .i64 y.zer, .sl y.root.length (bytesV y.root), .int .i64 y.non]] = some (.tup [.int .i64 (addC x y).1, .osl (addC x y).2.1.length (hdsO (addC x y).2.1), .int .i64 (addC x y).2.2]) := by
  refine E79 _ _ _ _ _ _ _ _ _ _ _ ?_
  unfold T79
  have k0 := c129 x.hds x.dep h.1
  by_cases g0 : clFault x.hds x.dep = 0
  case neg =>
    simp only [Int.ofNat_lt, decide_true, decide_false, cond_true, cond_false, inB_nat, inB_zero, must_true, Int.toNat_natCast, asInt_int, asBool_bool, asSl_sl, asOsl_osl, asStr_str, orcE_R, orcE_W, orcE_L, orcE_X, need_some', asTup_tup, List.getElem?_cons_zero, List.getElem?_cons_succ, Bool.not_true, Bool.not_false, Bool.true_and, Bool.and_true, Bool.false_or, ble_dec, beq_dec, List.length_cons, List.length_nil, Nat.mul_one, Nat.zero_add, Nat.add_zero, Nat.sub_zero, both_self', bytesV_length, bytesV_flat, bytesV_isU8, k0, bne_t g0]
    unfold addC; rw [if_pos g0]; rfl
  have ka := c160 x y g0
  rw [g0] at k0
  obtain ⟨q1, q2, q3, q4, q5⟩ := clFault_ok g0
  by_cases ga : (addC x y).1 = 0
  case neg =>
    simp only [Int.ofNat_lt, decide_true, decide_false, cond_true, cond_false, inB_nat, inB_zero, must_true, Int.toNat_natCast, asInt_int, asBool_bool, asSl_sl, asOsl_osl, asStr_str, orcE_R, orcE_W, orcE_L, orcE_X, need_some', asTup_tup, List.getElem?_cons_zero, List.getElem?_cons_succ, Bool.not_true, Bool.not_false, Bool.true_and, Bool.and_true, Bool.false_or, ble_dec, beq_dec, List.length_cons, List.length_nil, Nat.mul_one, Nat.zero_add, Nat.add_zero, Nat.sub_zero, both_self', bytesV_length, bytesV_flat, bytesV_isU8, k0, bne_f, ka, bne_t ga]
    unfold addC at ga ⊢
    rw [if_neg (fun h => h g0)] at ga ⊢
    by_cases g1 : hf y = 0
    case neg => rw [if_pos g1]; rfl
    rw [if_neg (fun h => h g1)] at ga ⊢
    by_cases g2 : jf x.hds y = 0
    case neg => rw [if_pos g2]; rfl
    rw [if_neg (fun h => h g2)] at ga ⊢
    by_cases g3 : x.hds.length = 24
    · rw [if_pos g3]; rfl
    · rw [if_neg g3] at ga; exact absurd rfl ga
  rw [ga] at ka
  have e : addC x y = (0, x.hds ++ [y], x.dep) := by
    unfold addC at ga ⊢
    rw [if_neg (fun h => h g0)] at ga ⊢
    by_cases g1 : hf y = 0
    case neg => rw [if_pos g1] at ga; exact absurd ga g1
    rw [if_neg (fun h => h g1)] at ga ⊢
    by_cases g2 : jf x.hds y = 0
    case neg => rw [if_pos g2] at ga; exact absurd ga g2
    rw [if_neg (fun h => h g2)] at ga ⊢
    by_cases g3 : x.hds.length = 24
    · rw [if_pos g3] at ga; cases ga
    · rw [if_neg g3]
  have hfit := addC_fit x y h h1
  rw [e] at hfit ⊢
  have k1 := c161 x.hds (by omega)
  have k2 := c128 (x.hds ++ [y]) x.dep hfit
  rw [List.length_append, List.length_singleton] at k2
  have d1 : x.hds.length + 1 ≤ 140737488355328 := by omega
  have d2 : (x.hds.length + 1) * 80 ≤ 140737488355328 := by omega
  simp only [Int.ofNat_lt, decide_true, decide_false, cond_true, cond_false, inB_nat, inB_zero, must_true, Int.toNat_natCast, asInt_int, asBool_bool, asSl_sl, asOsl_osl, asStr_str, orcE_R, orcE_W, orcE_L, orcE_X, need_some', asTup_tup, List.getElem?_cons_zero, List.getElem?_cons_succ, Bool.not_true, Bool.not_false, Bool.true_and, Bool.and_true, Bool.false_or, ble_dec, beq_dec, List.length_cons, List.length_nil, Nat.mul_one, Nat.zero_add, Nat.add_zero, Nat.sub_zero, both_self', bytesV_length, bytesV_flat, bytesV_isU8, k0, bne_f, ka, k1, d1, d2, hdsS_snoc, k2]
  rw [List.length_append, List.length_singleton]
theorem l157 (dep : Int) : ∀ (r d : List Hd) (n i : Nat), n = d.length + r.length → i = d.length → n < 1000000000 → tot hdZ r ≤ 100000000 →
    loopE C 157 0 [true, true, false, true] [] [(1, V.ptr 0 0), (2, V.ptr 1 0), (3, V.ptr 3 0), (4, V.int .i64 (i : Int))] [Ob.box 81 [V.sl n (hdsS (d ++ r)), V.int .i64 dep] false, Ob.box 81 [V.ref 2, V.int .i64 0] false, Ob.nrow [] 42 0 [], Ob.box 81 [V.ref 4, V.int .i64 dep] false, Ob.nrow [] 42 i (hdsO d)] = some (.tup [.osl n (hdsO (d ++ r)), .int .i64 dep])
  | [], d, n, i, hn, hi, hq, ht => by
    refine E157l1 _ _ _ _ _ _ _ _ _ _ ?_
    unfold T157l1
    have e : i = n := by simp at hn; omega
    have : ¬ n < n := by omega
    subst e
    simp [this]
  | b :: r, d, n, i, hn, hi, hq, ht => by
    simp only [List.length_cons] at hn
    simp only [tot] at ht
    have ih := l157 dep r (d ++ [b]) n (i + 1) (by simp; omega) (by simp; omega) hq (by omega)
    refine E157l1 _ _ _ _ _ _ _ _ _ _ ?_
    unfold T157l1
    have hlt : i < n := by omega
    have hw := w64_succ (n := i) (by omega)
    have g0 := hdsS_at0 hi b r
    have g1 := hdsS_at1 hi b r
    have g2 := hdsS_at2 hi b r
    have g3 := hdsS_at3 hi b r
    have g4 := hdsS_at4 hi b r
    have g5 := hdsS_at5 hi b r
    have d1 : i + 1 ≤ 140737488355328 := by omega
    have d2 : (i + 1) * 80 ≤ 140737488355328 := by omega
    simp only [List.append_assoc, List.singleton_append] at ih
    simp only [Int.ofNat_lt, decide_true, decide_false, cond_true, cond_false, inB_nat, inB_zero, must_true, Int.toNat_natCast, asInt_int, asBool_bool, asSl_sl, asOsl_osl, asStr_str, orcE_R, orcE_W, orcE_L, orcE_X, need_some', asTup_tup, List.getElem?_cons_zero, List.getElem?_cons_succ, Bool.not_true, Bool.not_false, Bool.true_and, Bool.and_true, Bool.false_or, ble_dec, beq_dec, List.length_cons, List.length_nil, Nat.mul_one, Nat.zero_add, Nat.add_zero, Nat.sub_zero, both_self', bytesV_length, bytesV_flat, bytesV_isU8, hlt, g0, g1, g2, g3, g4, g5, c113 b (by unfold hdfit; omega), hw, d1, d2, hdsO_snoc, ih]
theorem c157 (l : List Hd) (dep : Int) (hf : hdsfit l) : runE C 157 [.agg [.sl l.length (hdsS l), .int .i64 dep]] = some (.tup [.osl l.length (hdsO l), .int .i64 dep]) := by
  refine E157 _ _ _ ?_
  unfold T157
  exact l157 dep l [] l.length 0 (by simp) rfl (by have := hf.1; omega) hf.2
theorem c158 (x : Cl) (y : Hd) (g0 : clFault x.hds x.dep = 0) (h1 : hdfit y) : runWE C 158 [] [.ptr 0 0, .agg [.sl y.par.length (bytesV y.par), .int .i64 y.hgt, .int .i64 y.tim, .int .i64 y.zer, .sl y.root.length (bytesV y.root), .int .i64 y.non]] [.box 81 [.ref 1, .int .i64 x.dep] false, .nrow [] 42 x.hds.length (hdsO x.hds)] =
    some (.tup [.int .i64 (addC x y).1, .osl (if (addC x y).1 = 0 then x.hds ++ [y] else x.hds).length (hdsO (if (addC x y).1 = 0 then x.hds ++ [y] else x.hds)), .int .i64 x.dep]) := by
  obtain ⟨q1, q2, q3, q4, q5⟩ := clFault_ok g0
  refine E158 _ _ _ _ _ _ _ _ _ _ _ ?_
  unfold T158 addC
  rw [if_neg (fun h => h g0)]
  have k1 := c203 y
  by_cases g1 : hf y = 0
  case neg =>
    simp only [Int.ofNat_lt, decide_true, decide_false, cond_true, cond_false, inB_nat, inB_zero, must_true, Int.toNat_natCast, asInt_int, asBool_bool, asSl_sl, asOsl_osl, asStr_str, orcE_R, orcE_W, orcE_L, orcE_X, need_some', asTup_tup, List.getElem?_cons_zero, List.getElem?_cons_succ, Bool.not_true, Bool.not_false, Bool.true_and, Bool.and_true, Bool.false_or, ble_dec, beq_dec, List.length_cons, List.length_nil, Nat.mul_one, Nat.zero_add, Nat.add_zero, Nat.sub_zero, both_self', bytesV_length, bytesV_flat, bytesV_isU8, k1, bne_t g1]
    rw [if_pos g1, if_neg g1]
  have kd := c202 x.hds (by omega)
  have k2 := c205 x.hds y (by omega) q1 (hf_ok g1)
  rw [map_hdg q1] at kd
  rw [if_neg (fun h => h g1)]
  rw [g1] at k1
  simp only [hds_bare, ps_bare, Int.ofNat_lt, decide_true, decide_false, cond_true, cond_false, inB_nat, inB_zero, must_true, Int.toNat_natCast, asInt_int, asBool_bool, asSl_sl, asOsl_osl, asStr_str, orcE_R, orcE_W, orcE_L, orcE_X, need_some', asTup_tup, List.getElem?_cons_zero, List.getElem?_cons_succ, Bool.not_true, Bool.not_false, Bool.true_and, Bool.and_true, Bool.false_or, ble_dec, beq_dec, List.length_cons, List.length_nil, Nat.mul_one, Nat.zero_add, Nat.add_zero, Nat.sub_zero, both_self', bytesV_length, bytesV_flat, bytesV_isU8, k1, bne_f, kd, k2]
  by_cases g2 : jf x.hds y = 0
  case neg => rw [if_pos g2, bne_t g2, if_neg g2]; rfl
  rw [if_neg (fun h => h g2), g2, bne_f]
  by_cases g3 : x.hds.length = 24
  · rw [if_pos g3, decide_eq_true (show (x.hds.length : Int) ≥ 24 by omega)]; rfl
  rw [if_neg g3, decide_eq_false (show ¬ (x.hds.length : Int) ≥ 24 by omega)]
  have d1 : x.hds.length + 1 ≤ 140737488355328 := by omega
  have d2 : (x.hds.length + 1) * 80 ≤ 140737488355328 := by omega
  simp only [Int.ofNat_lt, decide_true, decide_false, cond_true, cond_false, inB_nat, inB_zero, must_true, Int.toNat_natCast, asInt_int, asBool_bool, asSl_sl, asOsl_osl, asStr_str, orcE_R, orcE_W, orcE_L, orcE_X, need_some', asTup_tup, List.getElem?_cons_zero, List.getElem?_cons_succ, Bool.not_true, Bool.not_false, Bool.true_and, Bool.and_true, Bool.false_or, ble_dec, beq_dec, List.length_cons, List.length_nil, Nat.mul_one, Nat.zero_add, Nat.add_zero, Nat.sub_zero, both_self', bytesV_length, bytesV_flat, bytesV_isU8, c113 y h1, d1, d2, hdsO_snoc]
  simp
theorem c77 (x : Cl) (y : Hd) (h : hdsfit x.hds) (h1 : hdfit y) : runE C 77 [.agg [.sl x.hds.length (hdsS x.hds), .int .i64 x.dep], .agg [.sl y.par.length (bytesV y.par), .int .i64 y.hgt, .int .i64 y.tim, .int .i64 y.zer, .sl y.root.length (bytesV y.root), .int .i64 y.non]] = some (.tup [.int .i64 (addC x y).1, .osl (addC x y).2.1.length (hdsO (addC x y).2.1), .int .i64 (addC x y).2.2]) := by
  refine E77 _ _ _ _ _ _ _ _ _ _ _ ?_
  unfold T77
  have k0 := c127 x.hds x.dep h.1
  by_cases g0 : clFault x.hds x.dep = 0
  case neg =>
    simp only [Int.ofNat_lt, decide_true, decide_false, cond_true, cond_false, inB_nat, inB_zero, must_true, Int.toNat_natCast, asInt_int, asBool_bool, asSl_sl, asOsl_osl, asStr_str, orcE_R, orcE_W, orcE_L, orcE_X, need_some', asTup_tup, List.getElem?_cons_zero, List.getElem?_cons_succ, Bool.not_true, Bool.not_false, Bool.true_and, Bool.and_true, Bool.false_or, ble_dec, beq_dec, List.length_cons, List.length_nil, Nat.mul_one, Nat.zero_add, Nat.add_zero, Nat.sub_zero, both_self', bytesV_length, bytesV_flat, bytesV_isU8, k0, bne_t g0]
    unfold addC; rw [if_pos g0]; rfl
  have ka := c158 x y g0 h1
  rw [g0] at k0
  by_cases ga : (addC x y).1 = 0
  case neg =>
    simp only [Int.ofNat_lt, decide_true, decide_false, cond_true, cond_false, inB_nat, inB_zero, must_true, Int.toNat_natCast, asInt_int, asBool_bool, asSl_sl, asOsl_osl, asStr_str, orcE_R, orcE_W, orcE_L, orcE_X, need_some', asTup_tup, List.getElem?_cons_zero, List.getElem?_cons_succ, Bool.not_true, Bool.not_false, Bool.true_and, Bool.and_true, Bool.false_or, ble_dec, beq_dec, List.length_cons, List.length_nil, Nat.mul_one, Nat.zero_add, Nat.add_zero, Nat.sub_zero, both_self', bytesV_length, bytesV_flat, bytesV_isU8, k0, bne_f, c157 x.hds x.dep h, ka, bne_t ga]
    unfold addC at ga ⊢
    rw [if_neg (fun h => h g0)] at ga ⊢
    by_cases g1 : hf y = 0
    case neg => rw [if_pos g1]; rfl
    rw [if_neg (fun h => h g1)] at ga ⊢
    by_cases g2 : jf x.hds y = 0
    case neg => rw [if_pos g2]; rfl
    rw [if_neg (fun h => h g2)] at ga ⊢
    by_cases g3 : x.hds.length = 24
    · rw [if_pos g3]; rfl
    · rw [if_neg g3] at ga; exact absurd rfl ga
  have e : addC x y = (0, x.hds ++ [y], x.dep) := by
    unfold addC at ga ⊢
    rw [if_neg (fun h => h g0)] at ga ⊢
    by_cases g1 : hf y = 0
    case neg => rw [if_pos g1] at ga; exact absurd ga g1
    rw [if_neg (fun h => h g1)] at ga ⊢
    by_cases g2 : jf x.hds y = 0
    case neg => rw [if_pos g2] at ga; exact absurd ga g2
    rw [if_neg (fun h => h g2)] at ga ⊢
    by_cases g3 : x.hds.length = 24
    · rw [if_pos g3] at ga; cases ga
    · rw [if_neg g3]
  rw [if_pos ga, ga] at ka
  simp only [Int.ofNat_lt, decide_true, decide_false, cond_true, cond_false, inB_nat, inB_zero, must_true, Int.toNat_natCast, asInt_int, asBool_bool, asSl_sl, asOsl_osl, asStr_str, orcE_R, orcE_W, orcE_L, orcE_X, need_some', asTup_tup, List.getElem?_cons_zero, List.getElem?_cons_succ, Bool.not_true, Bool.not_false, Bool.true_and, Bool.and_true, Bool.false_or, ble_dec, beq_dec, List.length_cons, List.length_nil, Nat.mul_one, Nat.zero_add, Nat.add_zero, Nat.sub_zero, both_self', bytesV_length, bytesV_flat, bytesV_isU8, k0, bne_f, c157 x.hds x.dep h, ka, e]
end Go.Proofs.Ytehpmolckdmibaa.Cli
