/-
  Proofs and signatures that are checked, both sides.
-/
import Derived.Test.YtodapaplfjfnlaaGreatPLVoteTQ
import Derived.Test.YtodapaplfjfnlaaGreatPMCheck
namespace Go.Proofs.YtodapaplfjfnlaaGreat.Vote
open Go Go.PI Go.PI.Sha Go.PI.Rel Go.PI.Nest Go.PI.Tru Go.PI.Set Go.PI.Tree Go.PI.Vote Go.Proofs.YtodapaplfjfnlaaGreat.Sha Go.Proofs.YtodapaplfjfnlaaGreat.By Go.Proofs.YtodapaplfjfnlaaGreat.Nest Go.Proofs.YtodapaplfjfnlaaGreat.Tru Go.Proofs.YtodapaplfjfnlaaGreat.Set Go.Proofs.YtodapaplfjfnlaaGreat.Tree EqQ
set_option maxHeartbeats 1000000
set_option linter.unusedVariables false
set_option linter.unusedSimpArgs false
theorem natBeq (a b : Nat) : ((a : Int) == (b : Int)) = decide (a = b) := by rw [Bool.eq_iff_iff]; simp; omega
theorem natBne (a b : Nat) : ((a : Int) != (b : Int)) = !decide (a = b) := by rw [Bool.eq_iff_iff]; simp; omega
theorem intBeq (a b : Int) : (a == b) = decide (a = b) := by rw [Bool.eq_iff_iff]; simp
theorem bsN_snoc (d : List Bool) (b : Bool) : bsV (d.map (!·)) ++ [V.bool (!b)] = bsV ((d ++ [b]).map (!·)) := by simp [bsV]
theorem bsN_t (d : List Bool) : bsV (d.map (!·)) ++ [V.bool true] = bsV ((d ++ [false]).map (!·)) := bsN_snoc d false
theorem bsN_f (d : List Bool) : bsV (d.map (!·)) ++ [V.bool false] = bsV ((d ++ [true]).map (!·)) := bsN_snoc d true
theorem any32 {q : List (List UInt8)} (h : q.any no32 = false) : ∀ w ∈ q, w.length = 32 := fun w hw => by
  by_cases e : w.length = 32
  · exact e
  · have : q.any no32 = true := List.any_eq_true.2 ⟨w, hw, by unfold no32; rw [decide_eq_false e]; rfl⟩
    rw [h] at this; cases this
theorem word_at {i : Nat} {d : List (List UInt8)} (hi : i = d.length) (v : List UInt8) (r : List (List UInt8)) : (psS (d ++ v :: r))[i]? = some (.sl v.length (bytesV v)) := by subst hi; exact psS_at d v r
theorem c198 : ∀ (n k : Nat), 0 < n → k < n → n ≤ 1000000 → runE C 198 [.int .i64 (n : Int), .int .i64 (k : Int)] = some (.tup [.osl (sides n k).length (bsV (sides n k))]) := by
  intro n
  induction n using Nat.strongRecOn with
  | ind n ih =>
    intro k h0 hk hq
    refine E198 _ _ ?_
    unfold T198
    rw [sides_eq k h0]
    by_cases c1 : n = 1
    · rw [if_pos c1]
      have t : ((n : Int) == 1) = true := by rw [c1]; rfl
      simp only [t, S0]
      rfl
    have t : ((n : Int) == 1) = false := beq_f (by omega)
    rw [if_neg c1]
    have hs := split_lt (n := n) (by omega)
    have hp := split_pos (n := n) (by omega)
    have k1 := c224 n (by omega)
    by_cases c2 : k < split n
    · rw [if_pos c2]
      have k2 := ih (split n) hs k hp c2 (by omega)
      have hl := sides_length (split n) k
      have d1 : (sides (split n) k).length + 1 ≤ 140737488355328 := by omega
      simp only [t, k1, S0, c2, k2, d1, bsV_snoc, bsV_flat]
      rw [List.length_append, List.length_singleton]
    · rw [if_neg c2]
      have w1 : IntKind.i64.wrap ((n : Int) - ((split n : Nat) : Int)) = ((n - split n : Nat) : Int) := by rw [w64 (by omega) (by omega)]; omega
      have w2 : IntKind.i64.wrap ((k : Int) - ((split n : Nat) : Int)) = ((k - split n : Nat) : Int) := by rw [w64 (by omega) (by omega)]; omega
      have k2 := ih (n - split n) (by omega) (k - split n) (by omega) (by omega) (by omega)
      have hl := sides_length (n - split n) (k - split n)
      have d1 : (sides (n - split n) (k - split n)).length + 1 ≤ 140737488355328 := by omega
      simp only [t, k1, S0, c2, w1, w2, k2, d1, bsV_snoc, bsV_flat]
      rw [List.length_append, List.length_singleton]
theorem c223 (cnt plc : Int) : runE C 223 [.int .i64 cnt, .int .i64 plc] = some (.tup (if (1 ≤ cnt ∧ cnt ≤ 16) ∧ (0 ≤ plc ∧ plc ≤ cnt - 1) then [.int .i64 0, .int .i64 ((sides cnt.toNat plc.toNat).length : Int)] else [.int .i64 3, .int .i64 0])) := by
  refine E223 _ _ ?_
  unfold T223
  by_cases c1 : 1 ≤ cnt ∧ cnt ≤ 16
  case neg =>
    rw [if_neg (fun h => c1 h.1)]
    simp only [S0, c51, decide_eq_false c1]
  have w : IntKind.i64.wrap (cnt - 1) = cnt - 1 := w64 (by omega) (by omega)
  by_cases c2 : 0 ≤ plc ∧ plc ≤ cnt - 1
  case neg =>
    rw [if_neg (fun h => c2 h.2)]
    simp only [S0, c51, decide_eq_true c1, w, decide_eq_false c2]
  rw [if_pos ⟨c1, c2⟩]
  obtain ⟨n, rfl⟩ : ∃ n : Nat, cnt = (n : Int) := ⟨cnt.toNat, by omega⟩
  obtain ⟨k, rfl⟩ : ∃ k : Nat, plc = (k : Int) := ⟨plc.toNat, by omega⟩
  simp only [S0, c51, decide_eq_true c1, w, decide_eq_true c2, c198 n k (by omega) (by omega) (by omega)]
theorem c196 (plc cnt : Int) (path : List (List UInt8)) (h : path.length < 1000000000) : runE C 196 [.agg [.int .i64 plc, .int .i64 cnt, .sl path.length (psS path)]] = some (.tup [.bool (isPr plc cnt path)]) := by
  have k := c223 cnt plc
  have ka := c128 path h
  refine E196 _ _ _ _ ?_
  unfold T196 isPr
  by_cases c1 : 1 ≤ cnt ∧ cnt ≤ 16
  case neg =>
    rw [if_neg (fun h => c1 h.1)] at k
    simp only [S0, k, decide_eq_false c1, Bool.false_and]
    rfl
  by_cases c2 : 0 ≤ plc ∧ plc ≤ cnt - 1
  case neg =>
    rw [if_neg (fun h => c2 h.2)] at k
    simp only [S0, k, decide_eq_false c2, Bool.false_and, Bool.and_false]
    rfl
  rw [if_pos ⟨c1, c2⟩] at k
  simp only [S0, k, decide_eq_true c1, decide_eq_true c2, natBeq, beq_self_eq_true, ka]
  by_cases c3 : (sides cnt.toNat plc.toNat).length = path.length
  · simp only [decide_eq_true c3, S0]; rfl
  · simp only [decide_eq_false c3, S0, Bool.false_and]
theorem l162 (root : List UInt8) (plc cnt : Int) (path : List (List UInt8)) (n : Nat) (hn : n ≤ 1000000) : ∀ (r : List Bool) (q : List (List UInt8)) (d : List Bool) (dq : List (List UInt8)) (i : Nat) (own : List UInt8), r.length = q.length → i = d.length → i = dq.length → n = d.length + r.length → path = dq ++ q → own.length = 32 → (∀ w ∈ q, w.length = 32) →
    loopE C 162 0 [true, true, true, false, true] [] [(0, V.sl root.length (bytesV root)), (5, V.ptr 0 0), (7, V.ref 1), (19, V.ref 2), (20, V.int .i64 (n : Int)), (21, V.int .i64 (i : Int))] [Ob.box 66 [V.int .i64 plc, V.int .i64 cnt, V.sl path.length (psS path)] false, Ob.row 5 32 (bytesV own) false, Ob.row 4 n (bsV (d ++ r)) false] = some (.tup [.bool (decide (up own r q = root))])
  | [], q, d, dq, i, own, hr, hi, hj, hN, hp, ho, hw => by
    refine E162l1 _ _ _ _ _ _ _ _ _ _ _ _ ?_
    unfold T162l1
    have : ¬ i < n := by simp at hN; omega
    have k := c76 own root
    rw [ho] at k
    have eu : up own [] q = own := by cases q <;> rfl
    simp only [S0, this, k, eu]
  | x :: r, [], d, dq, i, own, hr, hi, hj, hN, hp, ho, hw => by simp at hr
  | x :: r, p :: q, d, dq, i, own, hr, hi, hj, hN, hp, ho, hw => by
    simp only [List.length_cons] at hr hN
    have hlt : i < n := by omega
    have hww := w64_succ (n := i) (by omega)
    have hpl : path.length = dq.length + (q.length + 1) := by rw [hp]; simp
    have hlp : i < path.length := by omega
    have hps : (psS path).length = path.length := psS_length path
    have hg : (psS path)[i]? = some (.sl p.length (bytesV p)) := by rw [hp]; exact word_at hj p q
    have h32 := hw p (by simp)
    have hx : (bsV (d ++ x :: r))[i]? = some (.bool x) := by exact bsV_at hi x r
    have k1 := c199 p own (by rw [h32, ho]; decide)
    have k2 := c199 own p (by rw [h32, ho]; decide)
    rw [ho] at k1 k2
    have ih := fun o h => l162 root plc cnt path n hn r q (d ++ [x]) (dq ++ [p]) (i + 1) o (by omega) (by simp; omega) (by simp; omega) (by simp; omega) (by rw [hp]; simp) h (fun w hw' => hw w (by simp [hw']))
    refine E162l1 _ _ _ _ _ _ _ _ _ _ _ _ ?_
    unfold T162l1
    cases x with
    | true =>
      have ih := ih (dg nodeTag (p ++ own)) (dg_length _ _)
      simp only [List.append_assoc, List.singleton_append] at ih
      rw [show up own (true :: r) (p :: q) = up (dg nodeTag (p ++ own)) r q from rfl]
      simp only [S0, hlt, hx, hlp, hps, hg, k1, hww, ih]
    | false =>
      have ih := ih (dg nodeTag (own ++ p)) (dg_length _ _)
      simp only [List.append_assoc, List.singleton_append] at ih
      rw [show up own (false :: r) (p :: q) = up (dg nodeTag (own ++ p)) r q from rfl]
      simp only [S0, hlt, hx, hlp, hps, hg, k2, hww, ih]
theorem c162 (root data : List UInt8) (plc cnt : Int) (path : List (List UInt8)) (hd : data.length ≤ 1000000) (h : path.length < 1000000000) : runE C 162 [.sl root.length (bytesV root), .sl data.length (bytesV data), .agg [.int .i64 plc, .int .i64 cnt, .sl path.length (psS path)]] = some (.tup [.bool (ckProof root data plc cnt path)]) := by
  have k := c196 plc cnt path h
  refine E162 _ _ _ _ _ _ _ _ ?_
  unfold T162 ckProof
  by_cases c : isPr plc cnt path = true
  case neg =>
    have c : isPr plc cnt path = false := by simpa using c
    rw [c] at k ⊢
    simp only [S0, k, Bool.false_and]
  rw [c] at k ⊢
  unfold isPr at c
  simp only [Bool.and_eq_true, decide_eq_true_eq, Bool.not_eq_true'] at c
  obtain ⟨c1, c2, c3, c4⟩ := c
  obtain ⟨n, rfl⟩ : ∃ n : Nat, cnt = (n : Int) := ⟨cnt.toNat, by omega⟩
  obtain ⟨k', rfl⟩ : ∃ k : Nat, plc = (k : Int) := ⟨plc.toNat, by omega⟩
  rw [Int.toNat_natCast, Int.toNat_natCast] at c3 ⊢
  have hl := sides_length n k'
  have ks := c198 n k' (by omega) (by omega) (by omega)
  have kk := l162 root (k' : Int) (n : Int) path (sides n k').length (by omega) (sides n k') path [] [] 0 (dg leafTag data) c3 rfl rfl (by simp) rfl (dg_length _ _) (any32 c4)
  rw [List.nil_append] at kk
  have kk : loopE C 162 0 [true, true, true, false, true] [] [(0, V.sl root.length (bytesV root)), (5, V.ptr 0 0), (7, V.ref 1), (19, V.ref 2), (20, V.int .i64 ((sides n k').length : Int)), (21, V.int .i64 0)] [Ob.box 66 [V.int .i64 (k' : Int), V.int .i64 (n : Int), V.sl path.length (psS path)] false, Ob.row 5 32 (bytesV (dg leafTag data)) false, Ob.row 4 (sides n k').length (bsV (sides n k')) false] = _ := kk
  simp only [S0, k, c197 data hd, ks, kk]
theorem c219 (n : Int) : runE C 219 [.int .i64 n] = some (.tup [.bool (decide (0 ≤ n ∧ n ≤ 3))]) := by
  refine E219 _ ?_
  unfold T219
  simp only [S0, c51]
theorem c191 (v : Vt) : runE C 191 [.agg [.int .i64 v.leaf, .sl v.parts.length (psS v.parts), .int .i64 v.spl, .int .i64 v.cnt, .sl v.path.length (psS v.path)]] = some (.tup [.bool (placed v)]) := by
  refine E191 _ _ _ _ _ _ _ ?_
  unfold T191 placed
  have e19 : ((v.parts.length : Int) == 19) = decide (v.parts.length = 19) := natBeq v.parts.length 19
  simp only [S0, c219, e19, intBeq]
  by_cases c1 : 0 ≤ v.leaf ∧ v.leaf ≤ 3 <;> by_cases c2 : v.parts.length = 19 <;> by_cases c3 : v.spl = v.leaf <;> simp [c1, c2, c3]
theorem l146 (root : List UInt8) (v : Vt) (hvp : v.parts.length = 19) (hpath : v.path.length < 1000000000) : ∀ (r : List Nat) (q : List (List UInt8)) (d : List Nat) (dq : List (List UInt8)) (i : Nat) (e : List UInt8), r.length = q.length → i = d.length → i = dq.length → 19 = d.length + r.length → v.parts = dq ++ q → e.length = 32 * i → (∀ x ∈ r, x < 4) → (∀ w ∈ q, w.length = 32) →
    loopE C 146 0 [true, true, true, false, true] [] [(0, V.sl root.length (bytesV root)), (5, V.ptr 0 0), (7, V.ref 1), (21, V.ref 2), (22, V.int .i64 19), (23, V.int .i64 (i : Int))] [Ob.box 167 [V.int .i64 v.leaf, V.sl v.parts.length (psS v.parts), V.int .i64 v.spl, V.int .i64 v.cnt, V.sl v.path.length (psS v.path)] false, Ob.row 5 (e).length (bytesV (e)) false, Ob.row 2 19 (gV (d ++ r)) false] = some (.tup [.bool (ckProof root (e ++ endsP r q) v.spl v.cnt v.path)])
  | [], q, d, dq, i, e, hr, hi, hj, hN, hp, he, hx, hw => by
    refine E146l1 _ _ _ _ _ _ _ _ _ _ _ _ _ _ _ ?_
    unfold T146l1
    have : ¬ ((i : Int) < 19) := by simp at hN; omega
    have k := c162 root e v.spl v.cnt v.path (by simp at hN; omega) hpath
    have hq : q = [] := List.length_eq_zero_iff.1 (by simpa using hr.symm)
    subst hq
    have eu : endsP [] ([] : List (List UInt8)) = [] := rfl
    simp only [decide_eq_false this, S0, k, eu, List.append_nil]
  | x :: r, [], d, dq, i, e, hr, hi, hj, hN, hp, he, hx, hw => by simp at hr
  | x :: r, p :: q, d, dq, i, e, hr, hi, hj, hN, hp, he, hx, hw => by
    simp only [List.length_cons] at hr hN
    have hlt : (i : Int) < 19 := by omega
    have hlt' : i < 19 := by omega
    have hww := w64_succ (n := i) (by omega)
    have hps : (psS v.parts).length = v.parts.length := psS_length v.parts
    have hlp : i < v.parts.length := by omega
    have hg : (psS v.parts)[i]? = some (.sl p.length (bytesV p)) := by rw [hp]; exact word_at hj p q
    have hx4 := hx x (by simp)
    have hd := gV_at hi x r
    have w3 : IntKind.i64.wrap (3 - (x : Int)) = ((3 - x : Nat) : Int) := by rw [w64 (by omega) (by omega)]; omega
    have h32 := hw p (by simp)
    have k1 := c193 p (3 - x) (by omega) (by rw [h32]; decide)
    have cl : (climb p (3 - x)).length = 32 := climb_length h32 _
    have cb : (bytesV (climb p (3 - x))).length = 32 := by rw [bytesV_length, cl]
    rw [cl] at k1
    have d1 : e.length + 32 ≤ 140737488355328 := by omega
    have ih := l146 root v hvp hpath r q (d ++ [x]) (dq ++ [p]) (i + 1) (e ++ climb p (3 - x)) (by omega) (by simp; omega) (by simp; omega) (by simp; omega) (by rw [hp]; simp) (by rw [List.length_append, cl, he]; omega) (fun y hy => hx y (by simp [hy])) (fun w hw' => hw w (by simp [hw']))
    rw [List.length_append, cl, bytesV_append, List.append_assoc] at ih
    simp only [List.append_assoc, List.singleton_append] at ih
    refine E146l1 _ _ _ _ _ _ _ _ _ _ _ _ _ _ _ ?_
    unfold T146l1
    simp only [decide_eq_true hlt, S0, hlt', hd, hlp, hps, hg, w3, k1, bytesV_length, cl, d1, hww, ih, endsP]
theorem c146 (root m : List UInt8) (v : Vt) (hm : m.length ≤ 1000000) (hv : vtfit v) : runE C 146 [.sl root.length (bytesV root), .sl m.length (bytesV m), .agg [.int .i64 v.leaf, .sl v.parts.length (psS v.parts), .int .i64 v.spl, .int .i64 v.cnt, .sl v.path.length (psS v.path)]] = some (.tup [.bool (ckSign root m v)]) := by
  have hn := hv.2
  unfold vtN at hn
  have k0 := c191 v
  have ka := c128 v.parts (by omega)
  have e0 : v.parts.any notD = v.parts.any no32 := rfl
  rw [e0] at ka
  refine E146 _ _ _ _ _ _ _ _ _ _ _ ?_
  unfold T146 ckSign
  by_cases c1 : placed v = true
  case neg =>
    have c1 : placed v = false := by simpa using c1
    rw [c1] at k0 ⊢
    simp only [S0, k0, Bool.false_and]
  rw [c1] at k0 ⊢
  by_cases c2 : v.parts.any no32 = true
  · rw [c2] at ka ⊢
    simp only [S0, k0, ka, Bool.false_and]
  have c2 : v.parts.any no32 = false := by simpa using c2
  rw [c2] at ka ⊢
  unfold placed at c1
  simp only [Bool.and_eq_true, decide_eq_true_eq] at c1
  have kk := l146 root v c1.2.1 (by omega) (digits m) v.parts [] [] 0 [] (by rw [digits_length]; exact c1.2.1.symm) rfl rfl (by rw [digits_length]; rfl) rfl rfl (digits_lt m) (any32 c2)
  rw [List.nil_append, List.nil_append] at kk
  simp only [S0, k0, ka, c192 m hm]
  exact kk
theorem c222 : ∀ (n k : Nat), 0 < n → k < n → n ≤ 1000000 → runE C 222 [.int .i64 (n : Int), .int .i64 (k : Int)] = some (.tup [.osl ((sides n k).map (!·)).length (bsV ((sides n k).map (!·)))]) := by
  intro n
  induction n using Nat.strongRecOn with
  | ind n ih =>
    intro k h0 hk hq
    refine E222 _ _ ?_
    unfold T222
    rw [sides_eq k h0]
    by_cases c1 : n = 1
    · rw [if_pos c1]
      have t : decide ((n : Int) ≤ 1) = true := by rw [c1]; rfl
      simp only [t, S0]
      rfl
    have t : decide ((n : Int) ≤ 1) = false := decide_eq_false (by omega)
    rw [if_neg c1]
    have hs := split_lt (n := n) (by omega)
    have hp := split_pos (n := n) (by omega)
    have k1 := c140 n (by omega)
    by_cases c2 : k < split n
    · rw [if_pos c2]
      have k2 := ih (split n) hs k hp c2 (by omega)
      have hl := sides_length (split n) k
      have d1 : ((sides (split n) k).map (!·)).length + 1 ≤ 140737488355328 := by rw [List.length_map]; omega
      simp only [t, k1, S0, c2, k2, d1, bsN_t, bsV_flat]
      simp only [List.length_map, List.length_append, List.length_singleton]
    · rw [if_neg c2]
      have w1 : IntKind.i64.wrap ((n : Int) - ((split n : Nat) : Int)) = ((n - split n : Nat) : Int) := by rw [w64 (by omega) (by omega)]; omega
      have w2 : IntKind.i64.wrap ((k : Int) - ((split n : Nat) : Int)) = ((k - split n : Nat) : Int) := by rw [w64 (by omega) (by omega)]; omega
      have k2 := ih (n - split n) (by omega) (k - split n) (by omega) (by omega) (by omega)
      have hl := sides_length (n - split n) (k - split n)
      have d1 : ((sides (n - split n) (k - split n)).map (!·)).length + 1 ≤ 140737488355328 := by rw [List.length_map]; omega
      simp only [t, k1, S0, c2, w1, w2, k2, d1, bsN_f, bsV_flat]
      simp only [List.length_map, List.length_append, List.length_singleton]
theorem c230 (cnt plc : Int) : runE C 230 [.int .i64 cnt, .int .i64 plc] = some (.tup (if (1 ≤ cnt ∧ cnt ≤ 16) ∧ (0 ≤ plc ∧ plc ≤ cnt - 1) then [.int .i64 0, .int .i64 ((sides cnt.toNat plc.toNat).length : Int)] else [.int .i64 3, .int .i64 0])) := by
  refine E230 _ _ ?_
  unfold T230
  by_cases c1 : 1 ≤ cnt ∧ cnt ≤ 16
  case neg =>
    rw [if_neg (fun h => c1 h.1)]
    simp only [S0, c98, decide_eq_false c1]
  have w : IntKind.i64.wrap (cnt - 1) = cnt - 1 := w64 (by omega) (by omega)
  by_cases c2 : 0 ≤ plc ∧ plc ≤ cnt - 1
  case neg =>
    rw [if_neg (fun h => c2 h.2)]
    simp only [S0, c98, decide_eq_true c1, w, decide_eq_false c2]
  rw [if_pos ⟨c1, c2⟩]
  obtain ⟨n, rfl⟩ : ∃ n : Nat, cnt = (n : Int) := ⟨cnt.toNat, by omega⟩
  obtain ⟨k, rfl⟩ : ∃ k : Nat, plc = (k : Int) := ⟨plc.toNat, by omega⟩
  simp only [S0, c98, decide_eq_true c1, w, decide_eq_true c2, c222 n k (by omega) (by omega) (by omega), List.length_map]
theorem l221 (plc cnt : Int) (path : List (List UInt8)) (h : path.length < 1000000000) : ∀ (r d : List (List UInt8)) (i : Nat), path = d ++ r → i = d.length →
    loopE C 221 0 [true, true, true, false, true] [] [(1, V.ptr 0 0), (4, V.int .i64 (i : Int))] [Ob.box 66 [V.int .i64 plc, V.int .i64 cnt, V.sl path.length (psS path)] false] = some (.tup [.bool (!r.any no32)])
  | [], d, i, hp, hi => by
    refine E221l1 _ _ _ _ _ ?_
    unfold T221l1
    have : ¬ i < path.length := by rw [hp]; simp; omega
    simp [this]
  | b :: r, d, i, hp, hi => by
    have hl : path.length = d.length + (r.length + 1) := by rw [hp]; simp
    have hlt : i < path.length := by omega
    have hw := w64_succ (n := i) (by omega)
    have hps : (psS path).length = path.length := psS_length path
    have hg : (psS path)[i]? = some (.sl b.length (bytesV b)) := by rw [hp]; exact word_at hi b r
    have ih := l221 plc cnt path h r (d ++ [b]) (i + 1) (by rw [hp]; simp) (by simp; omega)
    refine E221l1 _ _ _ _ _ ?_
    unfold T221l1
    have e32 : ((b.length : Int) != 32) = !decide (b.length = 32) := natBne b.length 32
    simp only [S0, hlt, hps, hg, e32, hw, ih, List.any_cons, no32]
    by_cases e : b.length = 32 <;> simp [e, no32]
theorem c221 (plc cnt : Int) (path : List (List UInt8)) (h : path.length < 1000000000) : runE C 221 [.agg [.int .i64 plc, .int .i64 cnt, .sl path.length (psS path)]] = some (.tup [.bool (isPr plc cnt path)]) := by
  have k := c230 cnt plc
  have ka := l221 plc cnt path h path [] 0 rfl rfl
  refine E221 _ _ _ _ ?_
  unfold T221 isPr
  by_cases c1 : 1 ≤ cnt ∧ cnt ≤ 16
  case neg =>
    rw [if_neg (fun h => c1 h.1)] at k
    simp only [S0, k, decide_eq_false c1, Bool.false_and]
    rfl
  by_cases c2 : 0 ≤ plc ∧ plc ≤ cnt - 1
  case neg =>
    rw [if_neg (fun h => c2 h.2)] at k
    simp only [S0, k, decide_eq_false c2, Bool.false_and, Bool.and_false]
    rfl
  rw [if_pos ⟨c1, c2⟩] at k
  have ka : loopE C 221 0 [true, true, true, false, true] [] [(1, V.ptr 0 0), (4, V.int .i64 0)] [Ob.box 66 [V.int .i64 plc, V.int .i64 cnt, V.sl path.length (psS path)] false] = _ := ka
  simp only [S0, k, decide_eq_true c1, decide_eq_true c2, natBne, bne_f, ka]
  by_cases c3 : (sides cnt.toNat plc.toNat).length = path.length
  · simp only [decide_eq_true c3.symm, decide_eq_true c3, S0]
  · have c3' : ¬ path.length = (sides cnt.toNat plc.toNat).length := fun h => c3 h.symm
    simp only [decide_eq_false c3', decide_eq_false c3, S0, Bool.false_and]
theorem l195 (root : List UInt8) (plc cnt : Int) (path : List (List UInt8)) (n : Nat) (hn : n ≤ 1000000) : ∀ (r : List Bool) (q : List (List UInt8)) (d : List Bool) (dq : List (List UInt8)) (i : Nat) (own : List UInt8), r.length = q.length → i = d.length → i = dq.length → n = d.length + r.length → path = dq ++ q → own.length = 32 → (∀ w ∈ q, w.length = 32) →
    loopE C 195 0 [true, true, true, true, false, true] [] [(0, V.sl root.length (bytesV root)), (5, V.ptr 0 0), (7, V.ref 1), (8, V.ref 2), (9, V.int .i64 (i : Int))] [Ob.box 66 [V.int .i64 plc, V.int .i64 cnt, V.sl path.length (psS path)] false, Ob.row 5 32 (bytesV own) false, Ob.row 4 n (bsV ((d ++ r).map (!·))) false] = some (.tup [.bool (decide (up own r q = root))])
  | [], q, d, dq, i, own, hr, hi, hj, hN, hp, ho, hw => by
    refine E195l1 _ _ _ _ _ _ _ _ _ _ _ ?_
    unfold T195l1
    have : ¬ i < n := by simp at hN; omega
    have k := c82 own root (by rw [ho]; decide)
    rw [ho] at k
    have eu : up own [] q = own := by cases q <;> rfl
    simp only [S0, this, k, eu]
  | x :: r, [], d, dq, i, own, hr, hi, hj, hN, hp, ho, hw => by simp at hr
  | x :: r, p :: q, d, dq, i, own, hr, hi, hj, hN, hp, ho, hw => by
    simp only [List.length_cons] at hr hN
    have hlt : i < n := by omega
    have hww := w64_succ (n := i) (by omega)
    have hpl : path.length = dq.length + (q.length + 1) := by rw [hp]; simp
    have hlp : i < path.length := by omega
    have hps : (psS path).length = path.length := psS_length path
    have hg : (psS path)[i]? = some (.sl p.length (bytesV p)) := by rw [hp]; exact word_at hj p q
    have h32 := hw p (by simp)
    have hx : (bsV ((d ++ x :: r).map (!·)))[i]? = some (.bool (!x)) := by rw [List.map_append, List.map_cons]; exact bsV_at (by rw [List.length_map]; exact hi) (!x) _
    have k1 := c141 p own (by rw [h32, ho]; decide)
    have k2 := c141 own p (by rw [h32, ho]; decide)
    rw [ho] at k1 k2
    have ih := fun o h => l195 root plc cnt path n hn r q (d ++ [x]) (dq ++ [p]) (i + 1) o (by omega) (by simp; omega) (by simp; omega) (by simp; omega) (by rw [hp]; simp) h (fun w hw' => hw w (by simp [hw']))
    refine E195l1 _ _ _ _ _ _ _ _ _ _ _ ?_
    unfold T195l1
    cases x with
    | true =>
      have ih := ih (dg nodeTag (p ++ own)) (dg_length _ _)
      simp only [List.append_assoc, List.singleton_append] at ih
      rw [show up own (true :: r) (p :: q) = up (dg nodeTag (p ++ own)) r q from rfl]
      simp only [S0, hlt, hx, hlp, hps, hg, k1, hww, ih]
    | false =>
      have ih := ih (dg nodeTag (own ++ p)) (dg_length _ _)
      simp only [List.append_assoc, List.singleton_append] at ih
      rw [show up own (false :: r) (p :: q) = up (dg nodeTag (own ++ p)) r q from rfl]
      simp only [S0, hlt, hx, hlp, hps, hg, k2, hww, ih]
theorem c195 (root data : List UInt8) (plc cnt : Int) (path : List (List UInt8)) (hd : data.length ≤ 1000000) (h : path.length < 1000000000) : runE C 195 [.sl root.length (bytesV root), .sl data.length (bytesV data), .agg [.int .i64 plc, .int .i64 cnt, .sl path.length (psS path)]] = some (.tup [.bool (ckProof root data plc cnt path)]) := by
  have k := c221 plc cnt path h
  refine E195 _ _ _ _ _ _ _ _ ?_
  unfold T195 ckProof
  by_cases c : isPr plc cnt path = true
  case neg =>
    have c : isPr plc cnt path = false := by simpa using c
    rw [c] at k ⊢
    simp only [S0, k, Bool.false_and]
  rw [c] at k ⊢
  unfold isPr at c
  simp only [Bool.and_eq_true, decide_eq_true_eq, Bool.not_eq_true'] at c
  obtain ⟨c1, c2, c3, c4⟩ := c
  obtain ⟨n, rfl⟩ : ∃ n : Nat, cnt = (n : Int) := ⟨cnt.toNat, by omega⟩
  obtain ⟨k', rfl⟩ : ∃ k : Nat, plc = (k : Int) := ⟨plc.toNat, by omega⟩
  rw [Int.toNat_natCast, Int.toNat_natCast] at c3 ⊢
  have hl := sides_length n k'
  have ks := c222 n k' (by omega) (by omega) (by omega)
  have kk := l195 root (k' : Int) (n : Int) path (sides n k').length (by omega) (sides n k') path [] [] 0 (dg leafTag data) c3 rfl rfl (by simp) rfl (dg_length _ _) (any32 c4)
  rw [List.nil_append] at kk
  have kk : loopE C 195 0 [true, true, true, true, false, true] [] [(0, V.sl root.length (bytesV root)), (5, V.ptr 0 0), (7, V.ref 1), (8, V.ref 2), (9, V.int .i64 0)] [Ob.box 66 [V.int .i64 (k' : Int), V.int .i64 (n : Int), V.sl path.length (psS path)] false, Ob.row 5 32 (bytesV (dg leafTag data)) false, Ob.row 4 (sides n k').length (bsV ((sides n k').map (!·))) false] = _ := kk
  simp only [S0, k, c139 data hd, ks, List.length_map, kk]
theorem c194 (v : Vt) (h : v.path.length < 1000000000) : runE C 194 [.agg [.int .i64 v.leaf, .sl v.parts.length (psS v.parts), .int .i64 v.spl, .int .i64 v.cnt, .sl v.path.length (psS v.path)]] = some (.tup [.bool (placed v && isPr v.spl v.cnt v.path)]) := by
  refine E194 _ _ _ _ _ _ _ ?_
  unfold T194 placed
  have e19 : ((v.parts.length : Int) != 19) = !decide (v.parts.length = 19) := natBne v.parts.length 19
  simp only [S0, c98, e19, c221 v.spl v.cnt v.path h, intBeq]
  generalize isPr v.spl v.cnt v.path = b
  by_cases c1 : 0 ≤ v.leaf ∧ v.leaf ≤ 3 <;> by_cases c2 : v.parts.length = 19 <;> by_cases c3 : v.spl = v.leaf <;> cases b <;> simp [c1, c2, c3]
theorem l153 (root : List UInt8) (v : Vt) (hvp : v.parts.length = 19) (hpath : v.path.length < 1000000000) : ∀ (r : List Nat) (q : List (List UInt8)) (d : List Nat) (dq : List (List UInt8)) (i : Nat) (e : List UInt8), r.length = q.length → i = d.length → i = dq.length → 19 = d.length + r.length → v.parts = dq ++ q → e.length = 32 * i → (∀ x ∈ r, x < 4) →
    loopE C 153 0 [true, true, true, true, false, true] [] [(0, V.sl root.length (bytesV root)), (5, V.ptr 0 0), (7, V.ref 1), (8, V.ref 2), (9, V.int .i64 (i : Int))] [Ob.box 167 [V.int .i64 v.leaf, V.sl v.parts.length (psS v.parts), V.int .i64 v.spl, V.int .i64 v.cnt, V.sl v.path.length (psS v.path)] false, Ob.row 2 19 (gV (d ++ r)) false, Ob.row 5 (e).length (bytesV (e)) false] = some (.tup [.bool (!q.any no32 && ckProof root (e ++ endsP r q) v.spl v.cnt v.path)])
  | [], q, d, dq, i, e, hr, hi, hj, hN, hp, he, hx => by
    refine E153l1 _ _ _ _ _ _ _ _ _ _ _ _ _ _ ?_
    unfold T153l1
    have : ¬ ((i : Int) < 19) := by simp at hN; omega
    have k := c195 root e v.spl v.cnt v.path (by simp at hN; omega) hpath
    have hq : q = [] := List.length_eq_zero_iff.1 (by simpa using hr.symm)
    subst hq
    have eu : endsP [] ([] : List (List UInt8)) = [] := rfl
    simp only [decide_eq_false this, S0, k, eu, List.append_nil, List.any_nil]
  | x :: r, [], d, dq, i, e, hr, hi, hj, hN, hp, he, hx => by simp at hr
  | x :: r, p :: q, d, dq, i, e, hr, hi, hj, hN, hp, he, hx => by
    simp only [List.length_cons] at hr hN
    have hlt : (i : Int) < 19 := by omega
    have hlt' : i < 19 := by omega
    have hww := w64_succ (n := i) (by omega)
    have hps : (psS v.parts).length = v.parts.length := psS_length v.parts
    have hlp : i < v.parts.length := by omega
    have hg : (psS v.parts)[i]? = some (.sl p.length (bytesV p)) := by rw [hp]; exact word_at hj p q
    have hx4 := hx x (by simp)
    have hd := gV_at hi x r
    have w3 : IntKind.i64.wrap (3 - (x : Int)) = ((3 - x : Nat) : Int) := by rw [w64 (by omega) (by omega)]; omega
    have e32 : ((p.length : Int) != 32) = !decide (p.length = 32) := natBne p.length 32
    refine E153l1 _ _ _ _ _ _ _ _ _ _ _ _ _ _ ?_
    unfold T153l1
    rw [List.any_cons]
    by_cases h32 : p.length = 32
    case neg =>
      have en : no32 p = true := by unfold no32; rw [decide_eq_false h32]; rfl
      simp only [decide_eq_true hlt, S0, hlp, hps, hg, e32, decide_eq_false h32, en, Bool.true_or, Bool.false_and]
    have en : no32 p = false := by unfold no32; rw [decide_eq_true h32]; rfl
    have k1 := c189 p (3 - x) (by omega) (by rw [h32]; decide)
    have cl : (climb p (3 - x)).length = 32 := climb_length h32 _
    have cb : (bytesV (climb p (3 - x))).length = 32 := by rw [bytesV_length, cl]
    rw [cl] at k1
    have d1 : e.length + 32 ≤ 140737488355328 := by omega
    have ih := l153 root v hvp hpath r q (d ++ [x]) (dq ++ [p]) (i + 1) (e ++ climb p (3 - x)) (by omega) (by simp; omega) (by simp; omega) (by simp; omega) (by rw [hp]; simp) (by rw [List.length_append, cl, he]; omega) (fun y hy => hx y (by simp [hy]))
    rw [List.length_append, cl, bytesV_append, List.append_assoc] at ih
    simp only [List.append_assoc, List.singleton_append] at ih
    simp only [decide_eq_true hlt, S0, hlt', hd, hlp, hps, hg, e32, decide_eq_true h32, en, w3, k1, bytesV_length, cl, d1, hww, ih, endsP]
theorem c153 (root m : List UInt8) (v : Vt) (hm : m.length ≤ 1000000) (hv : vtfit v) : runE C 153 [.sl root.length (bytesV root), .sl m.length (bytesV m), .agg [.int .i64 v.leaf, .sl v.parts.length (psS v.parts), .int .i64 v.spl, .int .i64 v.cnt, .sl v.path.length (psS v.path)]] = some (.tup [.bool (ckSign root m v)]) := by
  have hn := hv.2
  unfold vtN at hn
  have k0 := c194 v (by omega)
  refine E153 _ _ _ _ _ _ _ _ _ _ _ ?_
  unfold T153 ckSign
  by_cases c1 : (placed v && isPr v.spl v.cnt v.path) = true
  case neg =>
    have c1 : (placed v && isPr v.spl v.cnt v.path) = false := by simpa using c1
    have e : (placed v && (!v.parts.any no32 && ckProof root (endsP (digits m) v.parts) v.spl v.cnt v.path)) = false := by
      unfold ckProof
      cases hp : placed v
      · rfl
      · rw [hp, Bool.true_and] at c1
        rw [c1]; simp
    rw [c1] at k0
    rw [e]
    simp only [S0, k0]
  rw [c1] at k0
  simp only [Bool.and_eq_true] at c1
  obtain ⟨c1, c2⟩ := c1
  rw [c1]
  unfold placed at c1
  simp only [Bool.and_eq_true, decide_eq_true_eq] at c1
  have kk := l153 root v c1.2.1 (by omega) (digits m) v.parts [] [] 0 [] (by rw [digits_length]; exact c1.2.1.symm) rfl rfl (by rw [digits_length]; rfl) rfl rfl (digits_lt m)
  rw [List.nil_append, List.nil_append] at kk
  simp only [S0, k0, c188 m hm]
  exact kk
end Go.Proofs.YtodapaplfjfnlaaGreat.Vote
