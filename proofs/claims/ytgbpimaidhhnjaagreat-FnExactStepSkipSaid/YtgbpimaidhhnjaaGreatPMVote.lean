/-
  Votes and signed heads, told over lists; what SignHead answers.
-/
import Derived.Test.YtgbpimaidhhnjaaGreatPMTree
namespace Go.PI.Vote
open Go Go.PI Go.PI.Sha Go.PI.Rel Go.PI.Nest Go.PI.Tru Go.PI.Set Go.PI.Tree
set_option linter.unusedVariables false
def ints (l : List Int) : List V := l.map (V.int .i64)
@[simp] theorem ints_length (l : List Int) : (ints l).length = l.length := by simp [ints]
@[simp] theorem ints_flat (l : List Int) : (ints l).all flatV = true := by simp [ints, flatV]
def mkN (k : Int) (l : List Int) : List Int := (List.range l.length).map fun (i : Nat) => k + (i : Int)
@[simp] theorem mkN_length (k : Int) (l : List Int) : (mkN k l).length = l.length := by simp [mkN]
structure Vt where
  plc : Int
  leaf : Int
  parts : List (List UInt8)
  spl : Int
  cnt : Int
  path : List (List UInt8)
  deriving DecidableEq
def vtS (v : Vt) : List V := [.int .i64 v.plc, .int .i64 v.leaf, .sl v.parts.length (psS v.parts), .int .i64 v.spl, .int .i64 v.cnt, .sl v.path.length (psS v.path)]
def vtO (v : Vt) : List V := [.int .i64 v.plc, .int .i64 v.leaf, .own true 22 1 v.parts.length (psO v.parts), .int .i64 v.spl, .int .i64 v.cnt, .own true 22 1 v.path.length (psO v.path)]
theorem vtS6 : ∀ v, (vtS v).length = 6 := fun _ => rfl
theorem vtO6 : ∀ v, (vtO v).length = 6 := fun _ => rfl
def vtsS (l : List Vt) : List V := l.flatMap vtS
def vtsO (l : List Vt) : List V := l.flatMap vtO
theorem vts_bare (l : List Vt) : bareL (vtsO l) = vtsS l := bareL_rows _ _ (fun v => by simp only [vtO, vtS, bareL, bareV, ps_bare]) l
theorem vtsO_length (l : List Vt) : (vtsO l).length = l.length * 6 := rows_length vtO vtO6 l
theorem vtsS_at0 {i : Nat} {d : List Vt} (hi : i = d.length) (v : Vt) (r : List Vt) : (vtsS (d ++ v :: r))[i * 6 + 0]? = some (.int .i64 v.plc) := by subst hi; exact at_get vtS vtS6 d v r (j := 0) (by decide)
theorem vtsO_set0 {i : Nat} {d : List Vt} (hi : i = d.length) (v : Vt) (r : List Vt) (n : Int) : splice (vtsO (d ++ v :: r)) (i * 6 + 0) [.int .i64 n] = vtsO (d ++ ⟨n, v.leaf, v.parts, v.spl, v.cnt, v.path⟩ :: r) := by subst hi; exact at_splice1 vtO vtO6 d v r ⟨n, v.leaf, v.parts, v.spl, v.cnt, v.path⟩ (j := 0) (by decide) rfl
theorem vtsS_at1 {i : Nat} {d : List Vt} (hi : i = d.length) (v : Vt) (r : List Vt) : (vtsS (d ++ v :: r))[i * 6 + 1]? = some (.int .i64 v.leaf) := by subst hi; exact at_get vtS vtS6 d v r (j := 1) (by decide)
theorem vtsO_set1 {i : Nat} {d : List Vt} (hi : i = d.length) (v : Vt) (r : List Vt) (n : Int) : splice (vtsO (d ++ v :: r)) (i * 6 + 1) [.int .i64 n] = vtsO (d ++ ⟨v.plc, n, v.parts, v.spl, v.cnt, v.path⟩ :: r) := by subst hi; exact at_splice1 vtO vtO6 d v r ⟨v.plc, n, v.parts, v.spl, v.cnt, v.path⟩ (j := 1) (by decide) rfl
theorem vtsS_at2 {i : Nat} {d : List Vt} (hi : i = d.length) (v : Vt) (r : List Vt) : (vtsS (d ++ v :: r))[i * 6 + 2]? = some (.sl v.parts.length (psS v.parts)) := by subst hi; exact at_get vtS vtS6 d v r (j := 2) (by decide)
theorem vtsO_at2 {i : Nat} {d : List Vt} (hi : i = d.length) (v : Vt) (r : List Vt) : (vtsO (d ++ v :: r))[i * 6 + 2]? = some (.own true 22 1 v.parts.length (psO v.parts)) := by subst hi; exact at_get vtO vtO6 d v r (j := 2) (by decide)
theorem vtsO_set2 {i : Nat} {d : List Vt} (hi : i = d.length) (v : Vt) (r : List Vt) {m : Nat} (b : List (List UInt8)) (hm : m = b.length) : (vtsO (d ++ v :: r)).set (i * 6 + 2) (.own true 22 1 m (psO b)) = vtsO (d ++ ⟨v.plc, v.leaf, b, v.spl, v.cnt, v.path⟩ :: r) := by subst hi; subst hm; exact at_set vtO vtO6 d v r ⟨v.plc, v.leaf, b, v.spl, v.cnt, v.path⟩ (j := 2) (by decide) rfl
theorem vtsS_at3 {i : Nat} {d : List Vt} (hi : i = d.length) (v : Vt) (r : List Vt) : (vtsS (d ++ v :: r))[i * 6 + 3]? = some (.int .i64 v.spl) := by subst hi; exact at_get vtS vtS6 d v r (j := 3) (by decide)
theorem vtsO_set3 {i : Nat} {d : List Vt} (hi : i = d.length) (v : Vt) (r : List Vt) (n : Int) : splice (vtsO (d ++ v :: r)) (i * 6 + 3) [.int .i64 n] = vtsO (d ++ ⟨v.plc, v.leaf, v.parts, n, v.cnt, v.path⟩ :: r) := by subst hi; exact at_splice1 vtO vtO6 d v r ⟨v.plc, v.leaf, v.parts, n, v.cnt, v.path⟩ (j := 3) (by decide) rfl
theorem vtsS_at4 {i : Nat} {d : List Vt} (hi : i = d.length) (v : Vt) (r : List Vt) : (vtsS (d ++ v :: r))[i * 6 + 4]? = some (.int .i64 v.cnt) := by subst hi; exact at_get vtS vtS6 d v r (j := 4) (by decide)
theorem vtsO_set4 {i : Nat} {d : List Vt} (hi : i = d.length) (v : Vt) (r : List Vt) (n : Int) : splice (vtsO (d ++ v :: r)) (i * 6 + 4) [.int .i64 n] = vtsO (d ++ ⟨v.plc, v.leaf, v.parts, v.spl, n, v.path⟩ :: r) := by subst hi; exact at_splice1 vtO vtO6 d v r ⟨v.plc, v.leaf, v.parts, v.spl, n, v.path⟩ (j := 4) (by decide) rfl
theorem vtsS_at5 {i : Nat} {d : List Vt} (hi : i = d.length) (v : Vt) (r : List Vt) : (vtsS (d ++ v :: r))[i * 6 + 5]? = some (.sl v.path.length (psS v.path)) := by subst hi; exact at_get vtS vtS6 d v r (j := 5) (by decide)
theorem vtsO_at5 {i : Nat} {d : List Vt} (hi : i = d.length) (v : Vt) (r : List Vt) : (vtsO (d ++ v :: r))[i * 6 + 5]? = some (.own true 22 1 v.path.length (psO v.path)) := by subst hi; exact at_get vtO vtO6 d v r (j := 5) (by decide)
theorem vtsO_set5 {i : Nat} {d : List Vt} (hi : i = d.length) (v : Vt) (r : List Vt) {m : Nat} (b : List (List UInt8)) (hm : m = b.length) : (vtsO (d ++ v :: r)).set (i * 6 + 5) (.own true 22 1 m (psO b)) = vtsO (d ++ ⟨v.plc, v.leaf, v.parts, v.spl, v.cnt, b⟩ :: r) := by subst hi; subst hm; exact at_set vtO vtO6 d v r ⟨v.plc, v.leaf, v.parts, v.spl, v.cnt, b⟩ (j := 5) (by decide) rfl
def vtZ (v : Vt) : Nat := tot List.length v.parts + tot List.length v.path
def vtN (v : Vt) : Nat := v.parts.length + v.path.length
def vtfit (v : Vt) : Prop := vtZ v ≤ 100000000 ∧ vtN v ≤ 100000000
def vtsfit (l : List Vt) : Prop := l.length ≤ 100000000 ∧ tot vtZ l ≤ 100000000 ∧ tot vtN l ≤ 100000000
def vtR (k : Int) (v : Vt) : Vt := ⟨k, k + 1, mkPs (k + 2) v.parts, k + 2 + tot List.length v.parts, k + 3 + tot List.length v.parts, mkPs (k + 4 + tot List.length v.parts) v.path⟩
def vtC (v : Vt) : Nat := vtZ v + 4
def vtsM : Int → List Vt → List Vt
  | _, [] => []
  | k, v :: l => vtR k v :: vtsM (k + vtC v) l
def vtsC (l : List Vt) : Nat := tot vtC l
theorem vtsC_le (l : List Vt) : vtsC l = tot vtZ l + l.length * 4 := by
  induction l with
  | nil => rfl
  | cons v l ih => unfold vtsC at ih ⊢; simp only [tot, ih, vtC, List.length_cons]; omega
theorem vtsC_bound {l : List Vt} (h : vtsfit l) : vtsC l ≤ 500000000 := by rw [vtsC_le]; have := h.1; have := h.2.1; omega
theorem vtsfit_of {l : List Vt} (h : vtsfit l) {v : Vt} (hv : v ∈ l) : vtfit v := by
  have := le_tot vtZ hv; have := le_tot vtN hv; have := h.2; unfold vtfit; omega
def bftTag : List UInt8 := [98, 102, 116]
def hbW (x : HB) : List (List UInt8) := [num7 x.hgt, num7 x.tim, x.root, x.set, x.nxt]
def hbDig (x : HB) : List UInt8 := sha (tagW bftTag (packW (hbW x)))
theorem hbDig_length (x : HB) : (hbDig x).length = 32 := sha_length _
theorem hbFault_ok {x : HB} (h : hbFault x = 0) : x.root.length = 32 ∧ x.set.length = 32 ∧ x.nxt.length = 32 := by
  unfold hbFault at h
  by_cases g : x.root.length = 32 ∧ x.set.length = 32 ∧ x.nxt.length = 32
  · exact g
  · rw [if_pos g] at h; cases h
theorem hbW_small {x : HB} (h : hbFault x = 0) : small (hbW x) := by
  obtain ⟨h1, h2, h3⟩ := hbFault_ok h
  refine ⟨by simp [hbW], fun w hw => ?_, by simp only [hbW, tot, num7_length, List.length_cons, List.length_nil]; omega⟩
  simp only [hbW, List.mem_cons, List.not_mem_nil, or_false] at hw
  rcases hw with h | h | h | h | h <;> (rw [h]; first | omega | (rw [num7_length]; omega))
theorem hbOk_fit {x : HB} (h : hbFault x = 0) : fitH x := by
  have := hbFault_ok h
  unfold fitH szH; omega
end Go.PI.Vote
