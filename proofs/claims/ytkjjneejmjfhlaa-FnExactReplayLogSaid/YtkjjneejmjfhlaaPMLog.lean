/-
  The log, told over lists: frames, records, what a replay comes to.
-/
import Derived.Test.YtkjjneejmjfhlaaPMSha
import Derived.Test.YtkjjneejmjfhlaaPMRelay
namespace Go.PI.Log
open Go Go.PI Go.PI.Sha Go.PI.Rel
set_option linter.unusedVariables false
/-- "record" -/
def recTag : List UInt8 := [114, 101, 99, 111, 114, 100]
def tagB (p : List UInt8) : List UInt8 := 6 :: (recTag ++ p)
def frameB (p : List UInt8) : List UInt8 := b8 (p.length : Int) :: (p ++ (sha (tagB p)).take 4)
theorem frameB_length (p : List UInt8) : (frameB p).length = p.length + 5 := by
  simp [frameB, sha_length]
/-- The payload of a good frame at a place. -/
def goodAt (d : List UInt8) (i : Nat) : Option (List UInt8) :=
  let n := (d.getD i 0).toNat
  if n = 0 ∨ 60 < n ∨ d.length < i + n + 5 then none
  else if frameB ((d.drop (i + 1)).take n) = (d.drop i).take (n + 5) then some ((d.drop (i + 1)).take n) else none
theorem goodAt_length {d : List UInt8} {i : Nat} {p : List UInt8} (h : goodAt d i = some p) : p.length = (d.getD i 0).toNat ∧ 1 ≤ p.length ∧ p.length ≤ 60 ∧ i + p.length + 5 ≤ d.length := by
  unfold goodAt at h
  dsimp only at h
  split at h
  · cases h
  · split at h
    · have h := Option.some.inj h
      have : p.length = (d.getD i 0).toNat := by
        rw [← h, List.length_take, List.length_drop]; omega
      omega
    · cases h
/-- The records from a place on, and where they end. -/
def readR : Nat → Nat → List UInt8 → List (List UInt8) → List (List UInt8) × Nat
  | 0, i, _, o => (o, i)
  | f + 1, i, d, o => if i < d.length then match goodAt d i with
      | none => (o, i)
      | some p => readR f (i + p.length + 5) d (o ++ [p])
    else (o, i)
def recordsB (d : List UInt8) : List (List UInt8) × Nat := readR d.length 0 d []
/-- Records, one after another, on a relayer. -/
def replayR : Int → List Itm → List (List UInt8) → Int × Int × List Itm
  | c, q, [] => (0, c, q)
  | c, q, r :: rs => if (rApply c q r).1 ≠ 0 then ((rApply c q r).1, 0, []) else replayR (rApply c q r).2.1 (rApply c q r).2.2 rs
end Go.PI.Log
