/-
  Rows of rows, told over lists: cells at a place, rows that own what lies in them, marks.
-/
import Derived.Test.YtodapaplfjfnlaaGreatPIWords
import Derived.Test.YtodapaplfjfnlaaGreatPMSha
namespace Go.PI.Rel
open Go Go.PI
structure Itm where
  a : Int
  b : Int
  c : Int
  deriving DecidableEq
def enc (x : Itm) : List V := [.int .i64 x.a, .int .i64 x.b, .int .i64 x.c]
theorem enc3 : ∀ x, (enc x).length = 3 := fun _ => rfl
def its (l : List Itm) : List V := l.flatMap enc
@[simp] theorem its_length (l : List Itm) : (its l).length = l.length * 3 := rows_length enc enc3 l
@[simp] theorem its_flat (l : List Itm) : (its l).all flatV = true := rows_flat enc (fun _ => rfl) l
def lowP : Option Int → Int → Bool
  | some a, n => decide (n ≤ a)
  | none, _ => false
@[simp] theorem lowP_some (a n : Int) : lowP (some a) n = decide (n ≤ a) := rfl
@[simp] theorem lowP_none (n : Int) : lowP none n = false := rfl
def mkI : Int → List Itm → List Itm
  | _, [] => []
  | k, _ :: r => ⟨k, k + 1, k + 2⟩ :: mkI (k + 3) r
@[simp] theorem mkI_length : ∀ (k : Int) (l : List Itm), (mkI k l).length = l.length
  | _, [] => rfl
  | k, _ :: r => by simp [mkI, mkI_length (k + 3) r]
def num7 (n : Int) : List UInt8 := putT n 7
@[simp] theorem num7_length (n : Int) : (num7 n).length = 7 := putT_length n 7
end Go.PI.Rel
namespace Go.PI.Nest
open Go Go.PI Go.PI.Sha Go.PI.Rel
set_option linter.unusedVariables false
section
variable {α : Type} (enc : α → List V) {sz : Nat}
theorem at_get (h : ∀ x, (enc x).length = sz) (d : List α) (v : α) (r : List α) {j : Nat} (hj : j < sz) : ((d ++ v :: r).flatMap enc)[d.length * sz + j]? = (enc v)[j]? := by
  have := rows_get enc h (l := d ++ v :: r) (i := d.length) (j := j) (by simp) hj
  simpa using this
theorem at_splice1 (h : ∀ x, (enc x).length = sz) (d : List α) (v : α) (r : List α) (y : α) {j : Nat} (hj : j < sz) {x : V} (hy : enc y = (enc v).set j x) : splice ((d ++ v :: r).flatMap enc) (d.length * sz + j) [x] = (d ++ y :: r).flatMap enc := by
  rw [rows_set1 enc h (l := d ++ v :: r) (i := d.length) (by simp) hj x y (by simpa using hy)]
  simp
theorem reps_length {z : List V} (hz : z.length = sz) : ∀ n, (reps n z).length = n * sz
  | 0 => by simp [reps]
  | n + 1 => by simp only [reps, List.length_append, reps_length hz n, hz, Nat.succ_mul]; omega
end
theorem bareL_append : ∀ (a b : List V), bareL (a ++ b) = bareL a ++ bareL b
  | [], b => by simp [bareL]
  | x :: a, b => by simp only [List.cons_append, bareL, bareL_append a b]
theorem bareL_rows {α : Type} (o s : α → List V) (h : ∀ x, bareL (o x) = s x) : ∀ l : List α, bareL (l.flatMap o) = l.flatMap s
  | [] => rfl
  | x :: l => by rw [List.flatMap_cons, List.flatMap_cons, bareL_append, h, bareL_rows o s h l]
theorem bareL_bytes : ∀ l : List UInt8, bareL (bytesV l) = bytesV l
  | [] => rfl
  | b :: l => by rw [bytesV_cons]; simp only [bareL, bareV, bareL_bytes l]
def bS (b : List UInt8) : V := .sl b.length (bytesV b)
def bO (b : List UInt8) : V := .own false 5 1 b.length (bytesV b)
theorem bare_bO (b : List UInt8) : bareV (bO b) = bS b := by simp only [bO, bareV, bareL_bytes, bS]
def mkB : Int → Nat → List UInt8
  | _, 0 => []
  | k, n + 1 => b8 k :: mkB (k + 1) n
@[simp] theorem mkB_length : ∀ (n : Nat) (k : Int), (mkB k n).length = n
  | 0, k => rfl
  | n + 1, k => by simp [mkB, mkB_length n]
def tot {α : Type} (f : α → Nat) : List α → Nat
  | [] => 0
  | x :: l => f x + tot f l
theorem tot_append {α : Type} (f : α → Nat) : ∀ a b : List α, tot f (a ++ b) = tot f a + tot f b
  | [], b => by simp [tot]
  | x :: a, b => by simp only [List.cons_append, tot, tot_append f a b]; omega
theorem le_tot {α : Type} (f : α → Nat) {x : α} : ∀ {l : List α}, x ∈ l → f x ≤ tot f l
  | y :: l, h => by
    rcases List.mem_cons.1 h with rfl | h
    · simp only [tot]; omega
    · have := le_tot f h; simp only [tot]; omega
def psS (l : List (List UInt8)) : List V := l.flatMap fun b => [bS b]
def psO (l : List (List UInt8)) : List V := l.flatMap fun b => [bO b]
theorem ps_bare (l : List (List UInt8)) : bareL (psO l) = psS l := bareL_rows _ _ (fun b => by simp only [bareL, bare_bO]) l
theorem psS_length (l : List (List UInt8)) : (psS l).length = l.length := by rw [psS, rows_length _ (sz := 1) (fun _ => rfl), Nat.mul_one]
theorem psS_at (d : List (List UInt8)) (v : List UInt8) (r : List (List UInt8)) : (psS (d ++ v :: r))[d.length]? = some (bS v) := by
  have := at_get (fun b => [bS b]) (sz := 1) (fun _ => rfl) d v r (j := 0) (by decide)
  simpa [psS] using this
theorem psO_snoc (d : List (List UInt8)) (v : List UInt8) : psO d ++ [bO v] = psO (d ++ [v]) := by simp [psO]
end Go.PI.Nest
