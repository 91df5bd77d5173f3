/-
  One-time signatures: digits and signatures, both sides.
-/
import Derived.Test.YtodapaplfjfnlaaGreatPLOtsTQ
namespace Go.Proofs.YtodapaplfjfnlaaGreat.Tree
open Go Go.PI Go.PI.Sha Go.PI.Rel Go.PI.Nest Go.PI.Tru Go.PI.Set Go.PI.Tree Go.Proofs.YtodapaplfjfnlaaGreat.Sha Go.Proofs.YtodapaplfjfnlaaGreat.By Go.Proofs.YtodapaplfjfnlaaGreat.Nest Go.Proofs.YtodapaplfjfnlaaGreat.Set EqQ
set_option maxHeartbeats 1000000
set_option linter.unusedVariables false
set_option linter.unusedSimpArgs false
def fin3 (ds : List Nat) : List Nat := ds ++ [digsum ds / 16, digsum ds / 4 % 4, digsum ds % 4]
theorem fin_cells (ds : List Nat) (h : ds.length ≤ 1000) : gV ds ++ [V.int .i64 (IntKind.i64.wrap ((digsum ds : Int).tdiv 16)), V.int .i64 ((IntKind.i64.wrap ((digsum ds : Int).tdiv 4)).tmod 4), V.int .i64 ((digsum ds : Int).tmod 4)] = gV (fin3 ds) := by
  have hs := digsum_le ds
  have e1 : IntKind.i64.wrap ((digsum ds : Int).tdiv 16) = ((digsum ds / 16 : Nat) : Int) := by
    rw [Int.tdiv_eq_ediv_of_nonneg (by omega), w64 (by omega) (by omega)]; omega
  have e2 : (IntKind.i64.wrap ((digsum ds : Int).tdiv 4)).tmod 4 = ((digsum ds / 4 % 4 : Nat) : Int) := by
    rw [Int.tdiv_eq_ediv_of_nonneg (by omega), w64 (by omega) (by omega), Int.tmod_eq_emod_of_nonneg (by omega)]; omega
  have e3 : ((digsum ds : Int)).tmod 4 = ((digsum ds % 4 : Nat) : Int) := by
    rw [Int.tmod_eq_emod_of_nonneg (by omega)]; omega
  rw [e1, e2, e3, fin3, gV_append]; rfl
theorem fin_length (ds : List Nat) : (fin3 ds).length = ds.length + 3 := by simp [fin3]
theorem gV_snoc (d : List Nat) (v : Nat) : gV d ++ [V.int .i64 (v : Int)] = gV (d ++ [v]) := by rw [gV_append]; rfl
theorem dig_add (b : UInt8) (j c : Nat) (hc : c ≤ 1000) : IntKind.i64.wrap (IntKind.i64.wrap ((c : Int) + 3) - (dig b j : Int)) = ((c + (3 - dig b j) : Nat) : Int) := by
  have := dig_lt b j
  rw [w64 (n := (c : Int) + 3) (by omega) (by omega), w64 (by omega) (by omega)]; omega
theorem byte_at {i : Nat} {d : List UInt8} (hi : i = d.length) (v : UInt8) (r : List UInt8) : (bytesV (d ++ v :: r))[i]? = some (.int .u8 (v.toNat : Int)) := by
  subst hi
  rw [bytesV_append, List.getElem?_append_right (by rw [bytesV_length]; exact Nat.le_refl _), bytesV_length, Nat.sub_self]; rfl
theorem s192 (b : UInt8) (i : Nat) (L : List V) (j c : Nat) (ds : List Nat) (hj : j < 4) (hc : c ≤ 1000) (hd : ds.length ≤ 1000) {v : V}
    (next : loopE C 192 2 [true, true, false, true, false, true, true, false, false, true, true] [0] [(3, V.ref 0), (4, V.int .i64 ((c + (3 - dig b (2 * j)) : Nat) : Int)), (6, V.int .u8 (b.toNat : Int)), (7, V.int .i64 (IntKind.i64.wrap (((2 * j : Nat) : Int) - 2))), (13, V.sl 4 L), (14, V.int .i64 4), (15, V.int .i64 (i : Int))] [Ob.row 2 (ds ++ [dig b (2 * j)]).length (gV (ds ++ [dig b (2 * j)])) false] = some v) :
    loopE C 192 2 [true, true, false, true, false, true, true, false, false, true, true] [0] [(3, V.ref 0), (4, V.int .i64 (c : Int)), (6, V.int .u8 (b.toNat : Int)), (7, V.int .i64 ((2 * j : Nat) : Int)), (13, V.sl 4 L), (14, V.int .i64 4), (15, V.int .i64 (i : Int))] [Ob.row 2 (ds).length (gV (ds)) false] = some v := by
  refine E192l2 _ _ _ _ _ _ _ _ _ ?_
  unfold T192l2
  have h0 : ((2 * j : Nat) : Int) ≥ 0 := by omega
  have h1 : 0 ≤ ((2 * j : Nat) : Int) := by omega
  have d1 : ds.length + 1 ≤ 140737488355328 := by omega
  have d2 : (ds.length + 1) * 8 ≤ 140737488355328 := by omega
  rw [List.length_append, List.length_singleton] at next
  simp only [decide_eq_true h0, decide_eq_true h1, S0, d1, d2, dig_bits b j hj, dig_add b (2 * j) c hc, gV_snoc, next]
theorem i192 (b : UInt8) (i : Nat) (L : List V) (c : Nat) (ds : List Nat) (hc : c ≤ 900) (hd : ds.length ≤ 900) {v : V}
    (next : loopE C 192 0 [true, true, false, true] [] [(3, V.ref 0), (4, V.int .i64 ((c + digsum (dig4 b) : Nat) : Int)), (13, V.sl 4 L), (14, V.int .i64 4), (15, V.int .i64 (IntKind.i64.wrap ((i : Int) + 1)))] [Ob.row 2 (ds ++ dig4 b).length (gV (ds ++ dig4 b)) false] = some v) :
    loopE C 192 2 [true, true, false, true, false, true, true, false, false, true, true] [0] [(3, V.ref 0), (4, V.int .i64 (c : Int)), (6, V.int .u8 (b.toNat : Int)), (7, V.int .i64 6), (13, V.sl 4 L), (14, V.int .i64 4), (15, V.int .i64 (i : Int))] [Ob.row 2 (ds).length (gV (ds)) false] = some v := by
  have l0 := dig_lt b 0
  have l2 := dig_lt b 2
  have l4 := dig_lt b 4
  have l6 := dig_lt b 6
  refine s192 b i L 3 c ds (by decide) (by omega) (by omega) ?_
  refine s192 b i L 2 _ _ (by decide) (by omega) (by simp; omega) ?_
  refine s192 b i L 1 _ _ (by decide) (by omega) (by simp; omega) ?_
  refine s192 b i L 0 _ _ (by decide) (by omega) (by simp; omega) ?_
  refine E192l2 _ _ _ _ _ _ _ _ _ ?_
  unfold T192l2
  have t0 : decide (IntKind.i64.wrap (((2 * 0 : Nat) : Int) - 2) ≥ 0) = false := rfl
  have es : c + (3 - dig b (2 * 3)) + (3 - dig b (2 * 2)) + (3 - dig b (2 * 1)) + (3 - dig b (2 * 0)) = c + digsum (dig4 b) := by simp only [dig4, digsum, Nat.reduceMul]; omega
  have ed : ds ++ [dig b (2 * 3)] ++ [dig b (2 * 2)] ++ [dig b (2 * 1)] ++ [dig b (2 * 0)] = ds ++ dig4 b := by simp [dig4]
  rw [es, ed]
  simp only [t0, S0, next]
theorem l192 : ∀ (r d : List UInt8) (i : Nat) (ds : List Nat), d.length + r.length = 4 → i = d.length → ds.length = 4 * i →
    loopE C 192 0 [true, true, false, true] [] [(3, V.ref 0), (4, V.int .i64 (digsum ds : Int)), (13, V.sl 4 (bytesV (d ++ r))), (14, V.int .i64 4), (15, V.int .i64 (i : Int))] [Ob.row 2 (ds).length (gV (ds)) false] = some (.tup [.osl (fin3 (ds ++ r.flatMap dig4)).length (gV (fin3 (ds ++ r.flatMap dig4)))])
  | [], d, i, ds, hd, hi, hs => by
    refine E192l1 _ _ _ _ _ _ _ ?_
    unfold T192l1
    have : ¬ ((i : Int) < 4) := by simp at hd; omega
    have d1 : ds.length + 3 ≤ 140737488355328 := by simp at hd; omega
    have d2 : (ds.length + 3) * 8 ≤ 140737488355328 := by simp at hd; omega
    simp only [decide_eq_false this, S0, d1, d2, fin_cells ds (by simp at hd; omega), gV_flat, List.flatMap_nil, List.append_nil, fin_length]
  | b :: r, d, i, ds, hd, hi, hs => by
    simp only [List.length_cons] at hd
    have hlt : ((i : Int) < 4) := by omega
    have hlt' : i < 4 := by omega
    have hw := w64_succ (n := i) (by omega)
    have hb := byte_at hi b r
    have hm := digsum_le ds
    have ih := l192 r (d ++ [b]) (i + 1) (ds ++ dig4 b) (by simp; omega) (by simp; omega) (by simp [dig4]; omega)
    rw [digsum_append] at ih
    simp only [List.append_assoc, List.singleton_append] at ih
    refine E192l1 _ _ _ _ _ _ _ ?_
    unfold T192l1
    simp only [decide_eq_true hlt, S0, hlt', hb]
    refine i192 b i _ _ _ (by omega) (by omega) ?_
    rw [hw, ih, List.flatMap_cons]
theorem c192 (m : List UInt8) (h : m.length ≤ 1000000) : runE C 192 [.sl m.length (bytesV m)] = some (.tup [.osl 19 (gV (digits m))]) := by
  refine E192 _ _ ?_
  unfold T192
  have k := g147 msgTag [m] (by decide) (by simp) (by simp; omega)
  rw [show [m].flatten = m by simp] at k
  have k : runE C 147 [V.str { data := #[(109 : UInt8), (101 : UInt8), (115 : UInt8), (115 : UInt8), (97 : UInt8), (103 : UInt8), (101 : UInt8)] }, V.sl 1 [V.sl m.length (bytesV m)]] = some (.tup [.osl 32 (bytesV (dg msgTag (m)))]) := k
  have ll := l192 ((dg msgTag m).take 4) [] 0 [] (by rw [List.length_take, dg_length]; rfl) rfl rfl
  have e4 : (4 : Int) ≤ ((32 : Nat) : Int) := by decide
  have et : (bytesV (dg msgTag m)).take 4 = bytesV ((dg msgTag m).take 4) := by simp [bytesV]
  rw [List.nil_append, List.nil_append] at ll
  have ed : fin3 (((dg msgTag m).take 4).flatMap dig4) = digits m := rfl
  rw [ed, digits_length] at ll
  simp only [S0, k, decide_eq_true e4, List.drop_zero, et]
  exact ll
theorem s188 (b : UInt8) (d r : List UInt8) (i : Nat) (j c : Nat) (ds : List Nat) (hi : i = d.length) (hi4 : i < 32) (hj : j < 4) (hc : c ≤ 1000) (hd : ds.length ≤ 1000) {v : V}
    (next : loopE C 188 2 [true, true, true, true, false, true, false, true, false, false, true] [0] [(3, V.ref 0), (4, V.ref 1), (5, V.int .i64 ((c + (3 - dig b (2 * j)) : Nat) : Int)), (6, V.int .i64 (i : Int)), (7, V.int .i64 (IntKind.i64.wrap ((j : Int) - 1)))] [Ob.row 5 32 (bytesV (d ++ b :: r)) false, Ob.row 2 (ds ++ [dig b (2 * j)]).length (gV (ds ++ [dig b (2 * j)])) false] = some v) :
    loopE C 188 2 [true, true, true, true, false, true, false, true, false, false, true] [0] [(3, V.ref 0), (4, V.ref 1), (5, V.int .i64 (c : Int)), (6, V.int .i64 (i : Int)), (7, V.int .i64 (j : Int))] [Ob.row 5 32 (bytesV (d ++ b :: r)) false, Ob.row 2 (ds).length (gV (ds)) false] = some v := by
  refine E188l2 _ _ _ _ _ _ _ ?_
  unfold T188l2
  have h0 : (j : Int) ≥ 0 := by omega
  have w2 : IntKind.i64.wrap (2 * (j : Int)) = ((2 * j : Nat) : Int) := by rw [show 2 * (j : Int) = ((2 * j : Nat) : Int) by omega]; exact w64_nat (by omega)
  have w3 : IntKind.u64.wrap ((2 * j : Nat) : Int) = ((2 * j : Nat) : Int) := u64n (by omega)
  have h1 : 0 ≤ ((2 * j : Nat) : Int) := by omega
  have hb := byte_at hi b r
  have d1 : ds.length + 1 ≤ 140737488355328 := by omega
  have d2 : (ds.length + 1) * 8 ≤ 140737488355328 := by omega
  rw [List.length_append, List.length_singleton] at next
  simp only [decide_eq_true h0, S0, hi4, hb, w2, w3, decide_eq_true h1, d1, d2, dig_bits b j hj, dig_add b (2 * j) c hc, gV_snoc, next]
theorem i188 (b : UInt8) (d r : List UInt8) (i : Nat) (c : Nat) (ds : List Nat) (hi : i = d.length) (hi4 : i < 32) (hc : c ≤ 900) (hd : ds.length ≤ 900) {v : V}
    (next : loopE C 188 0 [true, true, true, true, false, true] [] [(3, V.ref 0), (4, V.ref 1), (5, V.int .i64 ((c + digsum (dig4 b) : Nat) : Int)), (6, V.int .i64 (IntKind.i64.wrap ((i : Int) + 1)))] [Ob.row 5 32 (bytesV (d ++ b :: r)) false, Ob.row 2 (ds ++ dig4 b).length (gV (ds ++ dig4 b)) false] = some v) :
    loopE C 188 2 [true, true, true, true, false, true, false, true, false, false, true] [0] [(3, V.ref 0), (4, V.ref 1), (5, V.int .i64 (c : Int)), (6, V.int .i64 (i : Int)), (7, V.int .i64 3)] [Ob.row 5 32 (bytesV (d ++ b :: r)) false, Ob.row 2 (ds).length (gV (ds)) false] = some v := by
  have l0 := dig_lt b 0
  have l2 := dig_lt b 2
  have l4 := dig_lt b 4
  have l6 := dig_lt b 6
  refine s188 b d r i 3 c ds hi hi4 (by decide) (by omega) (by omega) ?_
  refine s188 b d r i 2 _ _ hi hi4 (by decide) (by omega) (by simp; omega) ?_
  refine s188 b d r i 1 _ _ hi hi4 (by decide) (by omega) (by simp; omega) ?_
  refine s188 b d r i 0 _ _ hi hi4 (by decide) (by omega) (by simp; omega) ?_
  refine E188l2 _ _ _ _ _ _ _ ?_
  unfold T188l2
  have t0 : decide (IntKind.i64.wrap (((0 : Nat) : Int) - 1) ≥ 0) = false := rfl
  have es : c + (3 - dig b (2 * 3)) + (3 - dig b (2 * 2)) + (3 - dig b (2 * 1)) + (3 - dig b (2 * 0)) = c + digsum (dig4 b) := by simp only [dig4, digsum, Nat.reduceMul]; omega
  have ed : ds ++ [dig b (2 * 3)] ++ [dig b (2 * 2)] ++ [dig b (2 * 1)] ++ [dig b (2 * 0)] = ds ++ dig4 b := by simp [dig4]
  rw [es, ed]
  simp only [t0, S0, next]
theorem l188 (q : List UInt8) : ∀ (r d : List UInt8) (i : Nat) (ds : List Nat), d.length + r.length = 4 → i = d.length → ds.length = 4 * i →
    loopE C 188 0 [true, true, true, true, false, true] [] [(3, V.ref 0), (4, V.ref 1), (5, V.int .i64 (digsum ds : Int)), (6, V.int .i64 (i : Int))] [Ob.row 5 32 (bytesV (d ++ (r ++ q))) false, Ob.row 2 (ds).length (gV (ds)) false] = some (.tup [.osl (fin3 (ds ++ r.flatMap dig4)).length (gV (fin3 (ds ++ r.flatMap dig4)))])
  | [], d, i, ds, hd, hi, hs => by
    refine E188l1 _ _ _ _ _ _ ?_
    unfold T188l1
    have : ¬ ((i : Int) < 4) := by simp at hd; omega
    have d1 : ds.length + 3 ≤ 140737488355328 := by simp at hd; omega
    have d2 : (ds.length + 3) * 8 ≤ 140737488355328 := by simp at hd; omega
    simp only [decide_eq_false this, S0, d1, d2, fin_cells ds (by simp at hd; omega), gV_flat, List.flatMap_nil, List.append_nil, fin_length]
  | b :: r, d, i, ds, hd, hi, hs => by
    simp only [List.length_cons] at hd
    have hlt : ((i : Int) < 4) := by omega
    have hw := w64_succ (n := i) (by omega)
    have hm := digsum_le ds
    have ih := l188 q r (d ++ [b]) (i + 1) (ds ++ dig4 b) (by simp; omega) (by simp; omega) (by simp [dig4]; omega)
    rw [digsum_append] at ih
    simp only [List.append_assoc, List.singleton_append] at ih
    refine E188l1 _ _ _ _ _ _ ?_
    unfold T188l1
    simp only [decide_eq_true hlt, S0, List.cons_append]
    refine i188 b d (r ++ q) i _ _ hi (by omega) (by omega) (by omega) ?_
    rw [hw, ih, List.flatMap_cons]
theorem c188 (m : List UInt8) (h : m.length ≤ 1000000) : runE C 188 [.sl m.length (bytesV m)] = some (.tup [.osl 19 (gV (digits m))]) := by
  refine E188 _ _ ?_
  unfold T188
  have k := c138 msgTag (m) (by decide) (by (try simp); omega)
  have k : runE C 138 [V.str { data := #[(109 : UInt8), (101 : UInt8), (115 : UInt8), (115 : UInt8), (97 : UInt8), (103 : UInt8), (101 : UInt8)] }, V.sl (m).length (bytesV (m))] = some (.tup [.osl 32 (bytesV (dg msgTag (m)))]) := k
  have ll := l188 ((dg msgTag m).drop 4) ((dg msgTag m).take 4) [] 0 [] (by rw [List.length_take, dg_length]; rfl) rfl rfl
  rw [List.nil_append, List.nil_append, List.take_append_drop] at ll
  have ed : fin3 (((dg msgTag m).take 4).flatMap dig4) = digits m := rfl
  rw [ed, digits_length] at ll
  simp only [S0, k]
  exact ll
theorem l145 (seed : List UInt8) (leaf : Nat) (plc cnt : Int) (P : List (List UInt8)) (h : seed.length ≤ 1000) : ∀ (r d : List Nat) (c : Nat) (K : List (List UInt8)), d.length + r.length = 19 → c = d.length → K.length = c → (∀ x ∈ r, x < 4) →
    loopE C 145 0 [true, true, true, false, true] [] [(0, V.sl seed.length (bytesV seed)), (1, V.int .i64 (leaf : Int)), (6, V.ptr 0 0), (7, V.ptr 3 0), (8, V.ref 6), (9, V.int .i64 (c : Int))] [Ob.box 167 [V.int .i64 0, V.ref 1, V.int .i64 0, V.int .i64 0, V.ref 2] false, Ob.nrow [] 22 0 [], Ob.nrow [] 22 0 [], Ob.box 167 [V.int .i64 (leaf : Int), V.ref 4, V.int .i64 plc, V.int .i64 cnt, V.ref 5] false, Ob.nrow [] 22 K.length (psO K), Ob.nrow [] 22 P.length (psO P), Ob.row 2 19 (gV (d ++ r)) false] = some (.tup [.int .i64 (leaf : Int), .osl (K ++ partsF seed leaf r c).length (psO (K ++ partsF seed leaf r c)), .int .i64 plc, .int .i64 cnt, .osl P.length (psO P)])
  | [], d, c, K, hn, hc, hK, hr => by
    refine E145l1 _ _ _ _ _ _ _ _ _ _ _ _ _ _ _ _ _ _ _ _ ?_
    unfold T145l1
    have : ¬ ((c : Int) < 19) := by simp at hn; omega
    simp only [decide_eq_false this, S0, partsF, List.append_nil]
  | x :: r, d, c, K, hn, hc, hK, hr => by
    simp only [List.length_cons] at hn
    have hlt : ((c : Int) < 19) := by omega
    have hlt' : c < 19 := by omega
    have hw := w64_succ (n := c) (by omega)
    have hx := hr x (by simp)
    have hg := gV_at hc x r
    have k1 := c190 seed leaf c h
    have k2 := c189 (secr seed leaf c) x (by omega) (by rw [secr_length]; decide)
    rw [secr_length, climb_length (secr_length _ _ _)] at k2
    have ih := l145 seed leaf plc cnt P h r (d ++ [x]) (c + 1) (K ++ [climb (secr seed leaf c) x]) (by simp; omega) (by simp; omega) (by simp; omega) (fun y hy => hr y (by simp [hy]))
    rw [List.length_append, List.length_singleton] at ih
    simp only [List.append_assoc, List.singleton_append] at ih
    have d1 : K.length + 1 ≤ 140737488355328 := by omega
    have d2 : (K.length + 1) * 24 ≤ 140737488355328 := by omega
    have es := psO_snoc' K _ (climb_length (secr_length seed leaf c) x)
    refine E145l1 _ _ _ _ _ _ _ _ _ _ _ _ _ _ _ _ _ _ _ _ ?_
    unfold T145l1
    simp only [decide_eq_true hlt, S0, hlt', hg, k1, k2, d1, d2, es, hw, ih, partsF]
theorem c145 (seed : List UInt8) (leaf : Nat) (m : List UInt8) (h : seed.length ≤ 1000) (hl : leaf < 4) (hm : m.length ≤ 1000000) : runE C 145 [.sl seed.length (bytesV seed), .int .i64 (leaf : Int), .sl m.length (bytesV m)] =
    some (.tup [.int .i64 (leaf : Int), .osl (partsF seed leaf (digits m) 0).length (psO (partsF seed leaf (digits m) 0)), .int .i64 (leaf : Int), .int .i64 4, .osl (path (leaves seed) leaf).length (psO (path (leaves seed) leaf))]) := by
  refine E145 _ _ _ _ _ ?_
  unfold T145
  have k1 := c137 seed h
  have k2 := c187 (leaves seed) leaf (by rw [leaves_length]; exact hl) (by rw [leaves_length]; decide) (fun w hw => by have := leavesF_words seed 4 0 w hw; omega)
  rw [leaves_length] at k2
  have k2 : runE C 187 [.sl 4 (psS (leaves seed)), .int .i64 (leaf : Int)] = some (.tup [.int .i64 (leaf : Int), .int .i64 4, .osl (path (leaves seed) leaf).length (psO (path (leaves seed) leaf))]) := k2
  have k3 := c188 m hm
  have kk := l145 seed leaf (leaf : Int) 4 (path (leaves seed) leaf) h (digits m) [] 0 [] (by rw [digits_length]; rfl) rfl rfl (digits_lt m)
  rw [List.nil_append, List.nil_append] at kk
  simp only [S0, k1, ps_bare, k2, k3]
  exact kk
end Go.Proofs.YtodapaplfjfnlaaGreat.Tree
