/-
  PI: words for plain laws: bytes, numbers, rows of structs, as lists of cells.
-/
import Derived.Test.YtodapaplfjfnlaaGreatPIPlain
import Derived.IntWalk
namespace Go.PI
open Go
set_option linter.unusedVariables false
set_option linter.unusedSimpArgs false
section
variable {α β : Type}
@[simp] theorem need_some' (x : β) (K : β → Option α) : need (some x) K = K x := rfl
@[simp] theorem asTup_tup (cs : List V) (K : List V → Option α) : asTup (some (.tup cs)) K = K cs := rfl
@[simp] theorem asInt_int (k : IntKind) (n : Int) (K : Int → Option α) : asInt k (some (.int k n)) K = K n := by cases k <;> rfl
@[simp] theorem asBool_bool (b : Bool) (K : Bool → Option α) : asBool (some (.bool b)) K = K b := rfl
@[simp] theorem asStr_str (s : ByteArray) (K : ByteArray → Option α) : asStr (some (.str s)) K = K s := rfl
@[simp] theorem asSl_sl (n : Nat) (cs : List V) (K : Nat → List V → Option α) : asSl (some (.sl n cs)) K = K n cs := rfl
@[simp] theorem asOsl_osl (n : Nat) (cs : List V) (K : Nat → List V → Option α) : asOsl (some (.osl n cs)) K = K n cs := rfl
@[simp] theorem asAgg_agg (cs : List V) (K : List V → Option α) : asAgg (some (.agg cs)) K = K cs := rfl
@[simp] theorem must_true (K : Option α) : must true K = K := rfl
@[simp] theorem must_false (K : Option α) : must false K = none := rfl
@[simp] theorem both_self' (x : Option α) : both x x = x := both_self x
variable {C : Cfg}
@[simp] theorem orcE_R (j f : Nat) (xs : List V) : (orcE C).R j f xs = runE C f xs := rfl
@[simp] theorem orcE_W (j f : Nat) (D : List Nat) (xs : List V) (obs : Obs) : (orcE C).W j f D xs obs = runWE C f D xs obs := rfl
@[simp] theorem orcE_L (j f id : Nat) (p : List Bool) (fs : List Nat) (n : Nat) (e : Env) (obs : Obs) : (orcE C).L j f id p fs n e obs = loopE C f id p fs e obs := rfl
@[simp] theorem orcE_X (j f : Nat) (D : List Nat) (h : Obs) (id : Nat) (p : List Bool) (fs : List Nat) (n : Nat) (e : Env) (obs : Obs) : (orcE C).X j f D h id p fs n e obs = loopWE C f D h id p fs e obs := rfl
end
section
variable {α β : Type} {C : Cfg}
theorem ndR {f : Nat} {xs : List V} {v : V} (h : runE C f xs = some v) (j : Nat) (K : V → Option α) : need ((orcE C).R j f xs) K = K v := by
  rw [orcE_R, h]; rfl
theorem ndW {f : Nat} {D : List Nat} {xs : List V} {obs : Obs} {v : V} (h : runWE C f D xs obs = some v) (j : Nat) (K : V → Option α) : need ((orcE C).W j f D xs obs) K = K v := by
  rw [orcE_W, h]; rfl
theorem cd1 {p : Prop} [Decidable p] (h : p) (a b : Option α) : (bif decide p then a else b) = a := by simp [h]
theorem cd0 {p : Prop} [Decidable p] (h : ¬ p) (a b : Option α) : (bif decide p then a else b) = b := by simp [h]
theorem cnt (a b : Option α) : (bif !true then a else b) = b := rfl
@[simp] theorem asOwn_own (ne : Bool) (t z n : Nat) (cs : List V) (K : Nat → List V → Option α) : asOwn ne t z (some (.own ne t z n cs)) K = K n cs := by
  simp only [asOwn, beq_self_eq_true, Nat.beq_refl, Bool.and_self]
  rfl
end
section
variable {α β : Type} {C : Cfg} {r : Option α}
theorem s1 {p : Prop} [Decidable p] {a b : Option α} (h : p) (k : a = r) : (bif decide p then a else b) = r := (cd1 h a b).trans k
theorem s0 {p : Prop} [Decidable p] {a b : Option α} (h : ¬ p) (k : b = r) : (bif decide p then a else b) = r := (cd0 h a b).trans k
end
def Ex (P : V → Prop) (x : Option V) : Prop := ∃ r, x = some r ∧ P r
section
variable {C : Cfg} {P Q : V → Prop}
theorem Ex.run {t x : Option V} (h : ∀ {r : V}, t = some r → x = some r) (k : Ex P t) : Ex P x := by
  obtain ⟨r, h1, h2⟩ := k
  exact ⟨r, h h1, h2⟩
theorem Ex.mono {x : Option V} (h : Ex Q x) (k : ∀ v, Q v → P v) : Ex P x := by
  obtain ⟨r, h1, h2⟩ := h
  exact ⟨r, h1, k r h2⟩
theorem xW {f : Nat} {D : List Nat} {xs : List V} {obs : Obs} {j : Nat} {K : V → Option V} (h : Ex Q (runWE C f D xs obs)) (k : ∀ v, Q v → Ex P (K v)) : Ex P (need ((orcE C).W j f D xs obs) K) := by
  obtain ⟨r, h1, h2⟩ := h
  rw [ndW h1]; exact k r h2
theorem xN {f : Nat} {xs : List V} {v : V} {j : Nat} {K : V → Option V} (h : runE C f xs = some v) (k : Ex P (K v)) : Ex P (need ((orcE C).R j f xs) K) := by rw [ndR h]; exact k
theorem xT {cs : List V} {K : List V → Option V} (k : Ex P (K cs)) : Ex P (asTup (some (.tup cs)) K) := k
theorem xIg {i : IntKind} {n : Int} {o : Option V} {K : Int → Option V} (h : o = some (.int i n)) (k : Ex P (K n)) : Ex P (asInt i o K) := by rw [h, asInt_int]; exact k
theorem xBg {n : Bool} {o : Option V} {K : Bool → Option V} (h : o = some (.bool n)) (k : Ex P (K n)) : Ex P (asBool o K) := by rw [h]; exact k
theorem xSg {n : ByteArray} {o : Option V} {K : ByteArray → Option V} (h : o = some (.str n)) (k : Ex P (K n)) : Ex P (asStr o K) := by rw [h]; exact k
theorem xLg {n : Nat} {cs : List V} {o : Option V} {K : Nat → List V → Option V} (h : o = some (.sl n cs)) (k : Ex P (K n cs)) : Ex P (asSl o K) := by rw [h]; exact k
theorem xOg {n : Nat} {cs : List V} {o : Option V} {K : Nat → List V → Option V} (h : o = some (.osl n cs)) (k : Ex P (K n cs)) : Ex P (asOsl o K) := by rw [h]; exact k
theorem xM {b : Bool} {x : Option V} (h : b = true) (k : Ex P x) : Ex P (must b x) := by rw [h]; exact k
theorem xD {p : Prop} [Decidable p] {x y : Option V} (h : p → Ex P x) (k : ¬ p → Ex P y) : Ex P (bif decide p then x else y) := by
  by_cases q : p
  · rw [decide_eq_true q]; exact h q
  · rw [decide_eq_false q]; exact k q
theorem xQ {a b : Int} {x y : Option V} (h : a = b → Ex P x) (k : a ≠ b → Ex P y) : Ex P (bif a == b then x else y) := by
  by_cases q : a = b
  · rw [show (a == b) = true by simp [q]]; exact h q
  · rw [show (a == b) = false by simp [q]]; exact k q
end
theorem ble_iff {a b : Nat} : Nat.ble a b = true ↔ a ≤ b := ⟨Nat.le_of_ble_eq_true, Nat.ble_eq_true_of_le⟩
@[simp] theorem ble_dec (a b : Nat) : Nat.ble a b = decide (a ≤ b) := by rw [Bool.eq_iff_iff, ble_iff]; simp
@[simp] theorem beq_dec (a b : Nat) : Nat.beq a b = decide (a = b) := by rw [Bool.eq_iff_iff]; simp [Nat.beq_eq]
@[simp] theorem inB_nat (i n : Nat) : inB (i : Int) n = decide (i < n) := by
  unfold inB; rw [Bool.eq_iff_iff]; simp
@[simp] theorem inB_zero (n : Nat) : inB 0 n = decide (0 < n) := inB_nat 0 n
theorem w64 {n : Int} (h : -9223372036854775808 ≤ n) (h' : n ≤ 9223372036854775807) : IntKind.i64.wrap n = n := IntWalk.i64_in n ⟨h, h'⟩
theorem w64_nat {n : Nat} (h : n < 9223372036854775808) : IntKind.i64.wrap (n : Int) = (n : Int) := w64 (by omega) (by omega)
theorem w64_succ {n : Nat} (h : n + 1 < 9223372036854775808) : IntKind.i64.wrap ((n : Int) + 1) = ((n + 1 : Nat) : Int) := by rw [w64 (by omega) (by omega)]; rfl
theorem bytesV_nil : bytesV [] = [] := rfl
theorem bytesV_cons (b : UInt8) (l : List UInt8) : bytesV (b :: l) = .int .u8 (b.toNat : Int) :: bytesV l := rfl
@[simp] theorem bytesV_length (l : List UInt8) : (bytesV l).length = l.length := by simp [bytesV]
theorem bytesV_append (a b : List UInt8) : bytesV (a ++ b) = bytesV a ++ bytesV b := by simp [bytesV]
theorem bytesV_take (n : Nat) (l : List UInt8) : (bytesV l).take n = bytesV (l.take n) := by simp [bytesV, List.map_take]
theorem bytesV_drop (n : Nat) (l : List UInt8) : (bytesV l).drop n = bytesV (l.drop n) := by simp [bytesV, List.map_drop]
theorem bytesV_get {l : List UInt8} {i : Nat} (h : i < l.length) : (bytesV l)[i]? = some (.int .u8 (l[i].toNat : Int)) := by simp [bytesV, h]
@[simp] theorem bytesV_flat (l : List UInt8) : (bytesV l).all flatV = true := by simp [bytesV, flatV]
@[simp] theorem bytesV_isU8 (l : List UInt8) : (bytesV l).all isU8 = true := by simp [bytesV, isU8]
theorem u8Of_int (b : UInt8) : u8Of (.int .u8 (b.toNat : Int)) = b := by simp [u8Of]
@[simp] theorem packB_bytesV (l : List UInt8) : packB (bytesV l) = ⟨l.toArray⟩ := by
  unfold packB bytesV
  have : (l.map fun b => V.int .u8 (b.toNat : Int)).map u8Of = l := by
    rw [List.map_map]
    exact (List.map_congr_left fun b _ => u8Of_int b).trans (List.map_id l)
  rw [this]
theorem toList_mk (l : List UInt8) : (ByteArray.mk l.toArray).toList = l := by
  have h : ∀ (n i : Nat) (r : List UInt8), l.length - i = n → ByteArray.toList.loop ⟨l.toArray⟩ i r = r.reverse ++ l.drop i := by
    intro n
    induction n with
    | zero =>
      intro i r h
      unfold ByteArray.toList.loop
      rw [if_neg (by simp [ByteArray.size]; omega), List.drop_eq_nil_of_le (by omega)]; simp
    | succ n ih =>
      intro i r h
      unfold ByteArray.toList.loop
      have hi : i < l.length := by omega
      rw [if_pos (by simpa [ByteArray.size] using hi), ih (i + 1) _ (by omega)]
      rw [List.drop_eq_getElem_cons hi]
      simp [ByteArray.get!, hi, List.getElem?_eq_getElem]
  unfold ByteArray.toList
  rw [h l.length 0 [] (by simp)]; simp
@[simp] theorem strEq_mk (a b : List UInt8) : strEq ⟨a.toArray⟩ ⟨b.toArray⟩ = decide (a = b) := by
  unfold strEq; rw [toList_mk, toList_mk, Bool.eq_iff_iff]; simp
def b8 (n : Int) : UInt8 := UInt8.ofNat (n % 256).toNat
theorem wrap_b8 (n : Int) : IntKind.u8.wrap n = ((b8 n).toNat : Int) := by
  rw [IntKind.wrap_u8]
  unfold b8
  have h1 : 0 ≤ n % 256 := Int.emod_nonneg _ (by decide)
  have h2 : n % 256 < 256 := Int.emod_lt_of_pos _ (by decide)
  simp only [UInt8.toNat_ofNat']
  omega
theorem w64_b (b : UInt8) : IntKind.i64.wrap (b.toNat : Int) = (b.toNat : Int) := w64_nat (by have := b.toNat_lt; omega)
theorem splice_bytes {l : List UInt8} {i : Nat} (h : i < l.length) (b : UInt8) : splice (bytesV l) i [.int .u8 (b.toNat : Int)] = bytesV (l.set i b) := by
  unfold splice
  rw [List.set_eq_take_append_cons_drop, if_pos h, bytesV_append, bytesV_cons, bytesV_take, bytesV_drop]
  simp
theorem reps_one (n : Nat) (z : V) : reps n [z] = List.replicate n z := by
  induction n with
  | zero => rfl
  | succ n ih => simp [reps, ih, List.replicate_succ]
section
variable {α : Type} (enc : α → List V)
theorem rows_length {sz : Nat} (h : ∀ x, (enc x).length = sz) : ∀ l : List α, (l.flatMap enc).length = l.length * sz
  | [] => by simp
  | x :: l => by simp only [List.flatMap_cons, List.length_append, h, rows_length h l, List.length_cons, Nat.succ_mul]; omega
theorem rows_drop {sz : Nat} (h : ∀ x, (enc x).length = sz) : ∀ (i : Nat) (l : List α), (l.flatMap enc).drop (i * sz) = (l.drop i).flatMap enc
  | 0, l => by simp
  | i + 1, [] => by simp
  | i + 1, x :: l => by
    rw [List.flatMap_cons, Nat.succ_mul, Nat.add_comm, ← List.drop_drop, List.drop_left' (h x), rows_drop h i l, List.drop_succ_cons]
theorem rows_take {sz : Nat} (h : ∀ x, (enc x).length = sz) : ∀ (i : Nat) (l : List α), (l.flatMap enc).take (i * sz) = (l.take i).flatMap enc
  | 0, l => by simp
  | i + 1, [] => by simp
  | i + 1, x :: l => by
    rw [List.flatMap_cons, Nat.succ_mul, List.take_append, h x, List.take_of_length_le (by rw [h x]; omega), Nat.add_sub_cancel, rows_take h i l, List.take_succ_cons, List.flatMap_cons]
theorem rows_get {sz : Nat} (h : ∀ x, (enc x).length = sz) {l : List α} {i j : Nat} (hi : i < l.length) (hj : j < sz) : (l.flatMap enc)[i * sz + j]? = (enc l[i])[j]? := by
  rw [← List.getElem?_drop, rows_drop enc h, List.drop_eq_getElem_cons hi, List.flatMap_cons, List.getElem?_append_left (by rw [h]; exact hj)]
theorem splice_mid (P M Q : List V) (j : Nat) (hj : j < M.length) (v : V) : splice (P ++ (M ++ Q)) (P.length + j) [v] = P ++ (M.set j v ++ Q) := by
  unfold splice
  rw [List.take_length_add_append, List.length_singleton, Nat.add_assoc, List.drop_length_add_append, List.take_append_of_le_length (by omega), List.drop_append_of_le_length (by omega),
    List.set_eq_take_append_cons_drop, if_pos hj]
  simp
theorem rows_mid {l : List α} {i : Nat} (hi : i < l.length) : l.flatMap enc = (l.take i).flatMap enc ++ (enc l[i] ++ (l.drop (i + 1)).flatMap enc) := by
  rw [← List.flatMap_cons, ← List.drop_eq_getElem_cons hi, ← List.flatMap_append, List.take_append_drop]
theorem rows_set1 {sz : Nat} (h : ∀ x, (enc x).length = sz) {l : List α} {i j : Nat} (hi : i < l.length) (hj : j < sz) (v : V) (y : α) (hy : enc y = (enc l[i]).set j v) : splice (l.flatMap enc) (i * sz + j) [v] = (l.set i y).flatMap enc := by
  have ht : ((l.take i).flatMap enc).length = i * sz := by rw [rows_length enc h, List.length_take]; congr 1; omega
  rw [rows_mid enc hi, ← ht, splice_mid _ _ _ _ (by rw [h]; exact hj), ← hy, List.set_eq_take_append_cons_drop (l := l), if_pos hi]
  simp
theorem rows_flat (h : ∀ x, (enc x).all flatV = true) (l : List α) : (l.flatMap enc).all flatV = true := by
  rw [List.all_flatMap]
  simp only [h]
  simp
end
end Go.PI
namespace Go.PI
theorem take_drop_set {α : Type} {a b : List α} (hl : a.length = b.length) {i : Nat} (hi : i < a.length) : (a.take i ++ b.drop i).set i a[i] = a.take (i + 1) ++ b.drop (i + 1) := by
  have hb : i < b.length := by omega
  rw [List.set_append_right _ _ (by rw [List.length_take]; omega), List.length_take, Nat.min_eq_left (by omega), Nat.sub_self, List.drop_eq_getElem_cons hb, List.set_cons_zero, List.take_succ_eq_append_getElem hi, List.append_assoc]
  rfl
theorem drop_eq_cons {α : Type} {l : List α} {i : Nat} (h : i < l.length) : l.drop i = l[i] :: l.drop (i + 1) := List.drop_eq_getElem_cons h
theorem bne_t {x y : Int} (h : ¬ x = y) : (x != y) = true := by simp [h]
theorem beq_f {x y : Int} (h : ¬ x = y) : (x == y) = false := by simp [h]
theorem bne_f (x : Int) : (x != x) = false := by simp
def numOf (l : List UInt8) : Int := l.foldl (fun n b => n * 256 + (b.toNat : Int)) 0
theorem numOf_snoc (l : List UInt8) (b : UInt8) : numOf (l ++ [b]) = numOf l * 256 + (b.toNat : Int) := by simp [numOf]
theorem numOf_take {l : List UInt8} {i : Nat} (h : i < l.length) : numOf (l.take (i + 1)) = numOf (l.take i) * 256 + (l[i].toNat : Int) := by
  rw [List.take_succ_eq_append_getElem h, numOf_snoc]
theorem numOf_lt : ∀ (l : List UInt8), 0 ≤ numOf l ∧ numOf l < 256 ^ l.length := by
  have key : ∀ (n : Nat) (l : List UInt8), l.length = n → 0 ≤ numOf l ∧ numOf l < 256 ^ n := by
    intro n
    induction n with
    | zero => intro l h; rw [List.eq_nil_of_length_eq_zero h]; simp [numOf]
    | succ n ih =>
      intro l h
      have e : l = l.take n ++ [l[n]'(by omega)] := by
        conv => lhs; rw [← List.take_length (l := l), h, List.take_succ_eq_append_getElem (by omega)]
      obtain ⟨h1, h2⟩ := ih (l.take n) (by rw [List.length_take]; omega)
      rw [e, numOf_snoc]
      have := (l[n]'(by omega)).toNat_lt
      rw [Int.pow_succ]
      omega
  exact fun l => key l.length l rfl
theorem pow256 {n : Nat} (h : n ≤ 6) : (256 : Int) ^ n ≤ 281474976710656 := by
  match n, h with
  | 0, _ => decide
  | 1, _ => decide
  | 2, _ => decide
  | 3, _ => decide
  | 4, _ => decide
  | 5, _ => decide
  | 6, _ => decide
def putT (n : Int) : Nat → List UInt8
  | 0 => []
  | k + 1 => b8 (n.fdiv (2 ^ (8 * k))) :: putT n k
@[simp] theorem putT_length (n : Int) : ∀ k, (putT n k).length = k
  | 0 => rfl
  | k + 1 => by simp [putT, putT_length n k]
theorem putT_snoc (n : Int) : ∀ k, putT n (k + 1) = putT (n.fdiv 256) k ++ [b8 n]
  | 0 => by simp [putT]
  | k + 1 => by
    rw [putT, putT_snoc n k, putT, List.cons_append]
    congr 2
    have p1 : (0 : Int) ≤ 2 ^ (8 * (k + 1)) := Int.le_of_lt (Int.pow_pos (by decide))
    have p2 : (0 : Int) ≤ 2 ^ (8 * k) := Int.le_of_lt (Int.pow_pos (by decide))
    rw [Int.fdiv_eq_ediv_of_nonneg n p1, Int.fdiv_eq_ediv_of_nonneg n (b := 256) (by decide), Int.fdiv_eq_ediv_of_nonneg _ p2, Int.ediv_ediv, if_neg (by omega), Int.sub_zero,
      show 8 * (k + 1) = 8 + 8 * k by omega, Int.pow_add]
    rfl
set_option linter.defProp false
def S0 := And.intro @Int.ofNat_lt <| And.intro decide_true <| And.intro decide_false <| And.intro @cond_true.{1} <| And.intro @cond_false.{1} <| And.intro inB_nat <| And.intro inB_zero <| And.intro (@must_true) <| And.intro Int.toNat_natCast <|
  And.intro (@asInt_int) <| And.intro (@asBool_bool) <| And.intro (@asSl_sl) <| And.intro (@asOsl_osl) <| And.intro (@asStr_str) <| And.intro (@orcE_R) <| And.intro (@orcE_W) <| And.intro (@orcE_L) <| And.intro (@orcE_X) <| And.intro (@need_some') <|
  And.intro (@asTup_tup) <| And.intro (@List.getElem?_cons_zero.{0}) <| And.intro (@List.getElem?_cons_succ.{0}) <| And.intro Bool.not_true <| And.intro Bool.not_false <| And.intro Bool.true_and <| And.intro Bool.and_true <| And.intro Bool.false_or <|
  And.intro ble_dec <| And.intro beq_dec <| And.intro (@List.length_cons.{0}) <| And.intro (@List.length_nil.{0}) <| And.intro Nat.mul_one <| And.intro Nat.zero_add <| And.intro Nat.add_zero <| And.intro Nat.sub_zero <| And.intro (@both_self') <|
  And.intro bytesV_length <| And.intro bytesV_flat bytesV_isU8
end Go.PI
