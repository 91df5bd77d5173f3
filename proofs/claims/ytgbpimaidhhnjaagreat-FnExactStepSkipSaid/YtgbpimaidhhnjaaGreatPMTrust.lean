/-
  Validators, heads that validators sign, trusts: told over lists.
-/
import Derived.Test.YtgbpimaidhhnjaaGreatPMNest
namespace Go.PI.Tru
open Go Go.PI Go.PI.Sha Go.PI.Rel Go.PI.Nest
set_option linter.unusedVariables false
structure Vd where
  key : List UInt8
  pow : Int
  deriving DecidableEq
structure HB where
  hgt : Int
  tim : Int
  root : List UInt8
  set : List UInt8
  nxt : List UInt8
  deriving DecidableEq
structure Tr where
  hd : HB
  nx : List Vd
  per : Int
  pau : Bool
  roots : List (List UInt8)
  frm : Int
  deriving DecidableEq
def vdS (v : Vd) : List V := [bS v.key, .int .i64 v.pow]
def vdO (v : Vd) : List V := [bO v.key, .int .i64 v.pow]
theorem vdS2 : ∀ v, (vdS v).length = 2 := fun _ => rfl
theorem vdO2 : ∀ v, (vdO v).length = 2 := fun _ => rfl
def vsS (l : List Vd) : List V := l.flatMap vdS
def vsO (l : List Vd) : List V := l.flatMap vdO
theorem vs_bare (l : List Vd) : bareL (vsO l) = vsS l := bareL_rows _ _ (fun v => by simp only [vdO, vdS, bareL, bare_bO]; rfl) l
theorem vsS_length (l : List Vd) : (vsS l).length = l.length * 2 := rows_length vdS vdS2 l
theorem vsO_length (l : List Vd) : (vsO l).length = l.length * 2 := rows_length vdO vdO2 l
theorem vsS_at0 {i : Nat} {d : List Vd} (hi : i = d.length) (v : Vd) (r : List Vd) : (vsS (d ++ v :: r))[i * 2]? = some (.sl v.key.length (bytesV v.key)) := by subst hi; exact at_get vdS vdS2 d v r (j := 0) (by decide)
theorem vsS_at1 {i : Nat} {d : List Vd} (hi : i = d.length) (v : Vd) (r : List Vd) : (vsS (d ++ v :: r))[i * 2 + 1]? = some (.int .i64 v.pow) := by subst hi; exact at_get vdS vdS2 d v r (j := 1) (by decide)
theorem vsO_at0 {i : Nat} {d : List Vd} (hi : i = d.length) (v : Vd) (r : List Vd) : (vsO (d ++ v :: r))[i * 2]? = some (.own false 5 1 v.key.length (bytesV v.key)) := by subst hi; exact at_get vdO vdO2 d v r (j := 0) (by decide)
theorem vsO_set0 (d : List Vd) (v : Vd) (r : List Vd) (b : List UInt8) : (vsO (d ++ v :: r)).set (d.length * 2) (.own false 5 1 b.length (bytesV b)) = vsO (d ++ ⟨b, v.pow⟩ :: r) := at_set vdO vdO2 d v r ⟨b, v.pow⟩ (j := 0) (by decide) rfl
theorem vsO_set1 (d : List Vd) (v : Vd) (r : List Vd) (n : Int) : splice (vsO (d ++ v :: r)) (d.length * 2 + 1) [.int .i64 n] = vsO (d ++ ⟨v.key, n⟩ :: r) := at_splice1 vdO vdO2 d v r ⟨v.key, n⟩ (j := 1) (by decide) rfl
theorem vsO_len (d : List Vd) (v : Vd) (r : List Vd) : (vsO (d ++ v :: r)).length = (d.length + (r.length + 1)) * 2 := by rw [vsO_length]; simp
theorem vsS_snoc (d : List Vd) (v : Vd) : vsS d ++ [.sl v.key.length (bytesV v.key), .int .i64 v.pow] = vsS (d ++ [v]) := by simp [vsS, vdS, bS]
theorem vsO_snoc (d : List Vd) (v : Vd) : vsO d ++ [.own false 5 1 v.key.length (bytesV v.key), .int .i64 v.pow] = vsO (d ++ [v]) := by simp [vsO, vdO, bO]
def zV : List V := [.nilsl, .int .i64 0]
theorem vs_part (d : List Vd) (v : Vd) (r : Nat) : splice (prt vdO zV d (r + 1)) (d.length * 2) [.own false 5 1 v.key.length (bytesV v.key), .int .i64 v.pow] = prt vdO zV (d ++ [v]) r := prt_step vdO vdO2 (z := zV) rfl d v r
def kl (v : Vd) : Nat := v.key.length
def mkVs : Int → List Vd → List Vd
  | _, [] => []
  | k, v :: l => ⟨mkB k v.key.length, k + v.key.length⟩ :: mkVs (k + v.key.length + 1) l
theorem mkVs_length : ∀ (l : List Vd) (k : Int), (mkVs k l).length = l.length
  | [], k => rfl
  | v :: l, k => by simp [mkVs, mkVs_length l]
def cV (l : List Vd) : Nat := tot (fun v => v.key.length + 1) l
theorem cV_le (l : List Vd) : cV l = tot kl l + l.length := by
  induction l with
  | nil => rfl
  | cons v l ih => unfold cV at ih ⊢; simp only [tot, ih, kl, List.length_cons]; omega
def less (left : Int) (n : Nat) : Int := if left < (n : Int) then -1 else left - n
theorem less_lt {left : Int} {n : Nat} (h : left < (n : Int)) : less left n = -1 := if_pos h
theorem less_ge {left : Int} {n : Nat} (h : ¬ left < (n : Int)) : less left n = left - n := if_neg h
theorem less_less {left : Int} {a b : Nat} (h : ¬ left < (a : Int)) : less (left - a) b = less left (a + b) := by
  unfold less
  by_cases h1 : left - (a : Int) < b
  · rw [if_pos h1, if_pos (by omega)]
  · rw [if_neg h1, if_neg (by omega)]; omega
def szH (x : HB) : Nat := x.root.length + x.set.length + x.nxt.length
def mkH (k : Int) (x : HB) : HB := ⟨x.hgt, x.tim, mkB k x.root.length, mkB (k + x.root.length) x.set.length, mkB (k + x.root.length + x.set.length) x.nxt.length⟩
def mkT (k : Int) (t : Tr) : Tr := ⟨mkH k t.hd, mkVs (k + szH t.hd) t.nx, t.per, t.pau, mkPs (k + szH t.hd + cV t.nx) t.roots, t.frm⟩
def szT (t : Tr) : Nat := szH t.hd + cV t.nx + tot List.length t.roots
def fitH (x : HB) : Prop := szH x ≤ 100000000
def fitV (l : List Vd) : Prop := l.length ≤ 100000000 ∧ tot kl l ≤ 100000000
def fitP (l : List (List UInt8)) : Prop := l.length ≤ 100000000 ∧ tot List.length l ≤ 100000000
def noH : HB := ⟨0, 0, [], [], []⟩
def noT : Tr := ⟨noH, [], 0, false, [], 0⟩
end Go.PI.Tru
