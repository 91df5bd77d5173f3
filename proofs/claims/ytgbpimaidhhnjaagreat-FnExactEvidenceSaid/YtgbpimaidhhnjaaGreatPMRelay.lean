/-
  The relayer, told over lists and numbers: what both forms of it come to.
-/
import Derived.Test.YtgbpimaidhhnjaaGreatPIWords
namespace Go.PI.Rel
open Go Go.PI

structure Itm where
  a : Int
  b : Int
  c : Int
  deriving DecidableEq
def enc (x : Itm) : List V := [.int .i64 x.a, .int .i64 x.b, .int .i64 x.c]
theorem enc3 : ∀ x, (enc x).length = 3 := fun _ => rfl
def its (l : List Itm) : List V := l.flatMap enc
@[simp] theorem its_length (l : List Itm) : (its l).length = l.length * 3 := rows_length enc enc3 l
@[simp] theorem its_flat (l : List Itm) : (its l).all flatV = true := rows_flat enc (fun _ => rfl) l
theorem its_nil : its [] = [] := rfl
theorem its_append (a b : List Itm) : its (a ++ b) = its a ++ its b := by simp [its]
theorem its_one (x : Itm) : its [x] = [.int .i64 x.a, .int .i64 x.b, .int .i64 x.c] := rfl
theorem its_take (i : Nat) (l : List Itm) : (its l).take (i * 3) = its (l.take i) := rows_take enc enc3 i l
theorem its_drop (i : Nat) (l : List Itm) : (its l).drop (i * 3) = its (l.drop i) := rows_drop enc enc3 i l
theorem its_0 {l : List Itm} {i : Nat} (h : i < l.length) : (its l)[i * 3]? = some (.int .i64 l[i].a) := rows_get enc enc3 h (j := 0) (by decide)
theorem its_0' {l : List Itm} {i : Nat} (h : i < l.length) : (its l)[i * 3 + 0]? = some (.int .i64 l[i].a) := its_0 h
theorem its_1 {l : List Itm} {i : Nat} (h : i < l.length) : (its l)[i * 3 + 1]? = some (.int .i64 l[i].b) := rows_get enc enc3 h (j := 1) (by decide)
theorem its_2 {l : List Itm} {i : Nat} (h : i < l.length) : (its l)[i * 3 + 2]? = some (.int .i64 l[i].c) := rows_get enc enc3 h (j := 2) (by decide)
theorem its_2' {l : List Itm} {i : Nat} (h : i < l.length) : (its l)[i * 3 + 1 + 1]? = some (.int .i64 l[i].c) := its_2 h
theorem its_set {l : List Itm} {i : Nat} (h : i < l.length) (x : Itm) : splice (its l) (i * 3) [.int .i64 x.a, .int .i64 x.b, .int .i64 x.c] = its (l.set i x) := rows_set enc enc3 h x
theorem its_set0 {l : List Itm} {i : Nat} (h : i < l.length) (n : Int) : splice (its l) (i * 3) [.int .i64 n] = its (l.set i ⟨n, l[i].b, l[i].c⟩) := rows_set1 enc enc3 h (j := 0) (by decide) _ ⟨n, l[i].b, l[i].c⟩ rfl
theorem its_set1 {l : List Itm} {i : Nat} (h : i < l.length) (n : Int) : splice (its l) (i * 3 + 1) [.int .i64 n] = its (l.set i ⟨l[i].a, n, l[i].c⟩) := rows_set1 enc enc3 h (j := 1) (by decide) _ ⟨l[i].a, n, l[i].c⟩ rfl
theorem its_set2 {l : List Itm} {i : Nat} (h : i < l.length) (n : Int) : splice (its l) (i * 3 + 2) [.int .i64 n] = its (l.set i ⟨l[i].a, l[i].b, n⟩) := rows_set1 enc enc3 h (j := 2) (by decide) _ ⟨l[i].a, l[i].b, n⟩ rfl
theorem its_reps (n : Nat) : reps n [.int .i64 0, .int .i64 0, .int .i64 0] = its (List.replicate n ⟨0, 0, 0⟩) := by
  induction n with
  | zero => rfl
  | succ n ih => rw [reps, ih]; rfl

def lowP : Option Int → Int → Bool
  | some a, n => decide (n ≤ a)
  | none, _ => false
@[simp] theorem lowP_some (a n : Int) : lowP (some a) n = decide (n ≤ a) := rfl
@[simp] theorem lowP_none (n : Int) : lowP none n = false := rfl
/-- The fault of the items from one on; 'p': the nonce ahead. -/
def rf (c : Int) : Option Int → List Itm → Int
  | _, [] => 0
  | p, x :: r => if ¬ (1 ≤ x.a ∧ x.a ≤ c) then 3 else if ¬ (0 ≤ x.b ∧ x.b ≤ 8) then 3 else if ¬ (0 ≤ x.c ∧ x.c ≤ 2199023255552) then 3 else
    if lowP p x.a = true then 1 else rf c (some x.a) r
def prevA (q : List Itm) : Nat → Option Int
  | 0 => none
  | i + 1 => q[i]?.map (·.a)
def fault (c : Int) (q : List Itm) : Int := if ¬ (0 ≤ c ∧ c ≤ 1000000) then 3 else if 12 < q.length then 2 else rf c none q

/-- Items that are marked, from a number on. -/
def mkI : Int → List Itm → List Itm
  | _, [] => []
  | k, _ :: r => ⟨k, k + 1, k + 2⟩ :: mkI (k + 3) r
@[simp] theorem mkI_length : ∀ (k : Int) (l : List Itm), (mkI k l).length = l.length
  | _, [] => rfl
  | k, _ :: r => by simp [mkI, mkI_length (k + 3) r]
theorem mkI_get : ∀ (k : Int) (l : List Itm) (i : Nat) (h : i < (mkI k l).length), (mkI k l)[i] = ⟨k + 3 * i, k + 3 * i + 1, k + 3 * i + 2⟩
  | k, [], i, h => by simp at h
  | k, x :: r, 0, h => by simp [mkI]
  | k, x :: r, i + 1, h => by
    simp only [mkI, List.getElem_cons_succ, mkI_get (k + 3) r i]
    simp only [Itm.mk.injEq]
    push_cast
    refine ⟨by omega, by omega, by omega⟩

/-- The seven bytes of a number. -/
def num7 (n : Int) : List UInt8 := putT n 7
@[simp] theorem num7_length (n : Int) : (num7 n).length = 7 := putT_length n 7
def recBytes (k n w : Int) : List UInt8 := b8 k :: (num7 n ++ if k = 2 then num7 w else [])
def recOf (k n w : Int) : Int × List UInt8 :=
  if ¬ (1 ≤ k ∧ k ≤ 3) then (1, []) else if ¬ (1 ≤ n ∧ n ≤ 1000000) then (3, []) else if ¬ (0 ≤ w ∧ w ≤ 1099511627776) then (3, []) else if k ≠ 2 ∧ w ≠ 0 then (1, []) else (0, recBytes k n w)
def rIdx (n : Int) : List Itm → Nat → Option Nat
  | [], _ => none
  | x :: r, i => if x.a = n then some i else rIdx n r (i + 1)
def posOf : Option Nat → Int
  | some i => i
  | none => -1
def at' (n : Int) (q : List Itm) : Int := posOf (rIdx n q 0)
theorem rIdx_lt : ∀ (n : Int) (q : List Itm) (i j : Nat), rIdx n q i = some j → i ≤ j ∧ j < i + q.length
  | n, [], i, j, h => by simp [rIdx] at h
  | n, x :: r, i, j, h => by
    unfold rIdx at h
    split at h
    · cases h; simp
    · have := rIdx_lt n r (i + 1) j h; simp only [List.length_cons]; omega
/-- A scan, a try, a settling: the code, the cursor, the queue. -/
def rScan (c : Int) (q : List Itm) (n : Int) : Int × Int × List Itm :=
  if n ≠ IntKind.i64.wrap (c + 1) then (1, c, q) else if 1000000 < n then (3, c, q) else if 12 ≤ q.length then (8, c, q) else (0, n, q ++ [⟨n, 0, 0⟩])
def tries (b : Int) : Int := if 8 < b + 1 then 8 else b + 1
def try' (c : Int) (q : List Itm) (n w : Int) : Int × Int × List Itm :=
  if ¬ (0 ≤ w ∧ w ≤ 1099511627776) then (3, c, q) else match rIdx n q 0 with
    | none => (4, c, q)
    | some i => match q[i]? with
      | some x => (0, c, q.set i ⟨x.a, tries x.b, w + 2 ^ (tries x.b).toNat⟩)
      | none => (4, c, q)
def rSettle (c : Int) (q : List Itm) (n : Int) : Int × Int × List Itm :=
  match rIdx n q 0 with
  | none => (4, c, q)
  | some i => (0, c, q.take i ++ q.drop (i + 1))
def rApply (c : Int) (q : List Itm) (rec : List UInt8) : Int × Int × List Itm :=
  if rec.length ≠ 8 ∧ rec.length ≠ 15 then (5, c, q) else
    let k : Int := ((rec.headD 0).toNat : Int)
    let n := numOf ((rec.drop 1).take 7)
    let w := numOf (rec.drop 8)
    if (recOf k n w).1 ≠ 0 then (5, c, q) else if (recOf k n w).2 ≠ rec then (5, c, q) else
    if k = 1 then rScan c q n else if k = 2 then try' c q n w else rSettle c q n
/-- What both forms come to. -/
def applied (c : Int) (q : List Itm) (rec : List UInt8) : Int × Int × List Itm :=
  if fault c q ≠ 0 then (fault c q, 0, []) else if (rApply c q rec).1 ≠ 0 then ((rApply c q rec).1, 0, []) else rApply c q rec
theorem recOf_len (k n w : Int) : (recOf k n w).2.length ≤ 15 := by
  unfold recOf recBytes
  repeat' split
  all_goals simp
theorem rf_ok : ∀ (c : Int) (p : Option Int) (q : List Itm), rf c p q = 0 → ∀ x ∈ q, 0 ≤ x.b ∧ x.b ≤ 8
  | c, p, [], _, x, hx => by simp at hx
  | c, p, y :: r, h, x, hx => by
    unfold rf at h
    by_cases h1 : ¬ (1 ≤ y.a ∧ y.a ≤ c)
    · rw [if_pos h1] at h; exact absurd h (by decide)
    rw [if_neg h1] at h
    by_cases h2 : ¬ (0 ≤ y.b ∧ y.b ≤ 8)
    · rw [if_pos h2] at h; exact absurd h (by decide)
    rw [if_neg h2] at h
    by_cases h3 : ¬ (0 ≤ y.c ∧ y.c ≤ 2199023255552)
    · rw [if_pos h3] at h; exact absurd h (by decide)
    rw [if_neg h3] at h
    by_cases h4 : lowP p y.a = true
    · rw [if_pos h4] at h; exact absurd h (by decide)
    rw [if_neg h4] at h
    rcases List.mem_cons.1 hx with rfl | hx
    · exact Decidable.not_not.1 h2
    · exact rf_ok c _ r h x hx
theorem fault_ok {c : Int} {q : List Itm} (h : fault c q = 0) : q.length ≤ 12 ∧ ∀ x ∈ q, 0 ≤ x.b ∧ x.b ≤ 8 := by
  unfold fault at h
  split at h
  · cases h
  · split at h
    · cases h
    · exact ⟨by omega, rf_ok c none q h⟩
end Go.PI.Rel
