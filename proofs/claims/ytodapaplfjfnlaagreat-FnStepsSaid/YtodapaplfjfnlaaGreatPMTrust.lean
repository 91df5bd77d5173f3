/-
  Validators, heads that validators sign, trusts: told over lists.
-/
import Derived.Test.YtodapaplfjfnlaaGreatPMNest
namespace Go.PI.Tru
open Go Go.PI Go.PI.Sha Go.PI.Rel Go.PI.Nest
set_option linter.unusedVariables false
structure Vd where
  key : List UInt8
  pow : Int
  deriving DecidableEq
structure HB where
  hgt : Int
  tim : Int
  root : List UInt8
  set : List UInt8
  nxt : List UInt8
  deriving DecidableEq
structure Tr where
  hd : HB
  nx : List Vd
  per : Int
  pau : Bool
  roots : List (List UInt8)
  frm : Int
  deriving DecidableEq
def vdS (v : Vd) : List V := [bS v.key, .int .i64 v.pow]
def vdO (v : Vd) : List V := [bO v.key, .int .i64 v.pow]
theorem vdS2 : ∀ v, (vdS v).length = 2 := fun _ => rfl
def vsS (l : List Vd) : List V := l.flatMap vdS
def vsO (l : List Vd) : List V := l.flatMap vdO
theorem vs_bare (l : List Vd) : bareL (vsO l) = vsS l := bareL_rows _ _ (fun v => by simp only [vdO, vdS, bareL, bare_bO]; rfl) l
theorem vsS_length (l : List Vd) : (vsS l).length = l.length * 2 := rows_length vdS vdS2 l
theorem vsS_at0 {i : Nat} {d : List Vd} (hi : i = d.length) (v : Vd) (r : List Vd) : (vsS (d ++ v :: r))[i * 2]? = some (.sl v.key.length (bytesV v.key)) := by subst hi; exact at_get vdS vdS2 d v r (j := 0) (by decide)
theorem vsS_at1 {i : Nat} {d : List Vd} (hi : i = d.length) (v : Vd) (r : List Vd) : (vsS (d ++ v :: r))[i * 2 + 1]? = some (.int .i64 v.pow) := by subst hi; exact at_get vdS vdS2 d v r (j := 1) (by decide)
theorem vsS_snoc (d : List Vd) (v : Vd) : vsS d ++ [.sl v.key.length (bytesV v.key), .int .i64 v.pow] = vsS (d ++ [v]) := by simp [vsS, vdS, bS]
theorem vsO_snoc (d : List Vd) (v : Vd) : vsO d ++ [.own false 5 1 v.key.length (bytesV v.key), .int .i64 v.pow] = vsO (d ++ [v]) := by simp [vsO, vdO, bO]
def kl (v : Vd) : Nat := v.key.length
def szH (x : HB) : Nat := x.root.length + x.set.length + x.nxt.length
def fitH (x : HB) : Prop := szH x ≤ 100000000
def fitV (l : List Vd) : Prop := l.length ≤ 100000000 ∧ tot kl l ≤ 100000000
def fitP (l : List (List UInt8)) : Prop := l.length ≤ 100000000 ∧ tot List.length l ≤ 100000000
def noH : HB := ⟨0, 0, [], [], []⟩
def noT : Tr := ⟨noH, [], 0, false, [], 0⟩
end Go.PI.Tru
