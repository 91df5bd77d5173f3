/-
  Trees of digests: splits, roots, paths, sides; one-time signatures; told over lists.
-/
import Derived.Test.YtgbpimaidhhnjaaGreatPMSet
namespace Go.PI.Tree
open Go Go.PI Go.PI.Sha Go.PI.Rel Go.PI.Nest Go.PI.Tru Go.PI.Set
set_option linter.unusedVariables false
def noneTag : List UInt8 := [110, 111, 110, 101]
def leafTag : List UInt8 := [108, 101, 97, 102]
def nodeTag : List UInt8 := [110, 111, 100, 101]
def keyTag : List UInt8 := [107, 101, 121]
def stepTag : List UInt8 := [115, 116, 101, 112]
def msgTag : List UInt8 := [109, 101, 115, 115, 97, 103, 101]
def dg (t d : List UInt8) : List UInt8 := sha (tagW t d)
theorem dg_length (t d : List UInt8) : (dg t d).length = 32 := sha_length _
def spl : Nat → Nat → Nat → Nat
  | 0, m, n => m
  | f + 1, m, n => if 2 * m < n then spl f (2 * m) n else m
def split (n : Nat) : Nat := spl n 1 n
theorem spl_bounds : ∀ (f m n : Nat), 0 < m → m < n → 0 < spl f m n ∧ spl f m n < n
  | 0, m, n, h0, h => ⟨h0, h⟩
  | f + 1, m, n, h0, h => by
    unfold spl
    split
    · exact spl_bounds f (2 * m) n (by omega) (by omega)
    · exact ⟨h0, h⟩
theorem split_pos {n : Nat} (h : 2 ≤ n) : 0 < split n := (spl_bounds n 1 n (by omega) (by omega)).1
theorem split_lt {n : Nat} (h : 2 ≤ n) : split n < n := (spl_bounds n 1 n (by omega) (by omega)).2
def rootF : Nat → List (List UInt8) → List UInt8
  | 0, _ => []
  | f + 1, l => if l.length = 0 then dg noneTag [] else if l.length = 1 then dg leafTag (l.getD 0 []) else dg nodeTag (rootF f (l.take (split l.length)) ++ rootF f (l.drop (split l.length)))
def root (l : List (List UInt8)) : List UInt8 := rootF (l.length + 1) l
def pathF : Nat → List (List UInt8) → Nat → List (List UInt8)
  | 0, _, _ => []
  | f + 1, l, k => if l.length = 1 then [] else if k < split l.length then pathF f (l.take (split l.length)) k ++ [root (l.drop (split l.length))] else pathF f (l.drop (split l.length)) (k - split l.length) ++ [root (l.take (split l.length))]
def path (l : List (List UInt8)) (k : Nat) : List (List UInt8) := pathF l.length l k
def climb (x : List UInt8) : Nat → List UInt8
  | 0 => x
  | n + 1 => climb (dg stepTag x) n
theorem climb_length {x : List UInt8} (h : x.length = 32) : ∀ n, (climb x n).length = 32
  | 0 => h
  | n + 1 => climb_length (dg_length _ _) n
def secr (seed : List UInt8) (leaf chain : Nat) : List UInt8 := dg keyTag (seed ++ [b8 (leaf : Int), b8 (chain : Int)])
def endsF (seed : List UInt8) (leaf : Nat) : Nat → Nat → List UInt8
  | 0, _ => []
  | n + 1, c => climb (secr seed leaf c) 3 ++ endsF seed leaf n (c + 1)
def pubLeaf (seed : List UInt8) (leaf : Nat) : List UInt8 := endsF seed leaf 19 0
def leavesF (seed : List UInt8) : Nat → Nat → List (List UInt8)
  | 0, _ => []
  | n + 1, c => pubLeaf seed c :: leavesF seed n (c + 1)
def leaves (seed : List UInt8) : List (List UInt8) := leavesF seed 4 0
def dig (b : UInt8) (s : Nat) : Nat := b.toNat / 2 ^ s % 4
theorem dig_lt (b : UInt8) (s : Nat) : dig b s < 4 := Nat.mod_lt _ (by decide)
theorem dig_ball : ∀ n : Nat, n < 256 → ∀ j : Nat, j < 4 → IntKind.i64.wrap (PI.bits IntKind.u8 (fun x1 x2 => x1 &&& x2) ((n : Int).fdiv (2 ^ min (2 * j) 8)) 3) = ((n / 2 ^ (2 * j) % 4 : Nat) : Int) := by decide +kernel
theorem dig_bits (b : UInt8) (j : Nat) (h : j < 4) : IntKind.i64.wrap (PI.bits IntKind.u8 (fun x1 x2 => x1 &&& x2) ((b.toNat : Int).fdiv (2 ^ min (2 * j) 8)) 3) = (dig b (2 * j) : Int) := dig_ball b.toNat b.toNat_lt j h
def dig4 (b : UInt8) : List Nat := [dig b 6, dig b 4, dig b 2, dig b 0]
def digsum : List Nat → Nat
  | [] => 0
  | d :: r => 3 - d + digsum r
theorem digsum_append : ∀ (a b : List Nat), digsum (a ++ b) = digsum a + digsum b
  | [], b => by simp [digsum]
  | x :: a, b => by simp only [List.cons_append, digsum, digsum_append a b]; omega
theorem digsum_le : ∀ (l : List Nat), digsum l ≤ 3 * l.length
  | [] => by simp [digsum]
  | d :: r => by have := digsum_le r; simp only [digsum, List.length_cons]; omega
def topDigits (m : List UInt8) : List Nat := ((dg msgTag m).take 4).flatMap dig4
theorem dig4s_length : ∀ l : List UInt8, (l.flatMap dig4).length = 4 * l.length
  | [] => rfl
  | b :: l => by rw [List.flatMap_cons, List.length_append, dig4s_length l, List.length_cons]; simp [dig4]; omega
theorem topDigits_length (m : List UInt8) : (topDigits m).length = 16 := by
  unfold topDigits
  rw [dig4s_length, List.length_take, dg_length]; rfl
def digits (m : List UInt8) : List Nat := topDigits m ++ [digsum (topDigits m) / 16, digsum (topDigits m) / 4 % 4, digsum (topDigits m) % 4]
theorem digits_length (m : List UInt8) : (digits m).length = 19 := by simp [digits, topDigits_length]
theorem dig4s_lt : ∀ l : List UInt8, ∀ d ∈ l.flatMap dig4, d < 4
  | [], d, h => by simp at h
  | b :: l, d, h => by
    rw [List.flatMap_cons] at h
    rcases List.mem_append.1 h with h | h
    · simp only [dig4, List.mem_cons, List.not_mem_nil, or_false] at h
      rcases h with h | h | h | h <;> (rw [h]; exact dig_lt _ _)
    · exact dig4s_lt l d h
theorem digits_lt (m : List UInt8) : ∀ d ∈ digits m, d < 4 := fun d h => by
  have hs := digsum_le (topDigits m)
  rw [topDigits_length] at hs
  unfold digits at h
  rcases List.mem_append.1 h with h | h
  · exact dig4s_lt _ d h
  · simp only [List.mem_cons, List.not_mem_nil, or_false] at h
    rcases h with h | h | h <;> omega
def gE (n : Nat) : List V := [.int .i64 (n : Int)]
def gV (l : List Nat) : List V := l.flatMap gE
theorem gV_at {i : Nat} {d : List Nat} (hi : i = d.length) (v : Nat) (r : List Nat) : (gV (d ++ v :: r))[i]? = some (.int .i64 (v : Int)) := by
  subst hi
  have := at_get gE (sz := 1) (fun _ => rfl) d v r (j := 0) (by decide)
  simpa [gV, gE] using this
theorem gV_flat (l : List Nat) : (gV l).all flatV = true := by
  induction l with
  | nil => rfl
  | cons a l ih => unfold gV at ih ⊢; rw [List.flatMap_cons, List.all_append, ih]; rfl
theorem gV_append (a b : List Nat) : gV (a ++ b) = gV a ++ gV b := by simp [gV]
end Go.PI.Tree
