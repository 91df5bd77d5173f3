/-
  Heads behind heads: parents, ways, chains, the zeros that are asked, clients; told over lists.
-/
import Derived.Test.YtehpmolckdmibaaGreatPMClient
namespace Go.PI.Cli
open Go Go.PI Go.PI.Sha Go.PI.Rel Go.PI.Nest Go.PI.Tru Go.PI.Set
set_option linter.unusedVariables false
/-- Where a digest stands. -/
def dAt (k : List UInt8) : List (List UInt8) → Int → Int
  | [], _ => -1
  | d :: r, i => if d = k then i else dAt k r (i + 1)
theorem dAt_lt (k : List UInt8) : ∀ (l : List (List UInt8)) (i : Int), 0 ≤ i → -1 ≤ dAt k l i ∧ dAt k l i < i + l.length ∧ (0 ≤ dAt k l i → i ≤ dAt k l i)
  | [], i, h => by simp only [dAt, List.length_nil]; omega
  | d :: r, i, h => by
    simp only [dAt]
    by_cases e : d = k
    · rw [if_pos e]; simp only [List.length_cons]; omega
    · rw [if_neg e]
      have := dAt_lt k r (i + 1) (by omega)
      simp only [List.length_cons]; omega
def digs (hs : List Hd) : List (List UInt8) := hs.map hdDig
theorem digs_length (hs : List Hd) : (digs hs).length = hs.length := by simp [digs]
/-- The digest of a head that has no fault, else nothing. -/
def hdg (x : Hd) : List UInt8 := if hdFault x = 0 then hdDig x else []
theorem hdg_le (x : Hd) : (hdg x).length ≤ 32 := by unfold hdg; split <;> simp [hdDig_length]
theorem hdg_ok {x : Hd} (h : hdFault x = 0) : hdg x = hdDig x := if_pos h
theorem map_hdg {hs : List Hd} (h : ∀ v ∈ hs, hdFault v = 0) : hs.map hdg = digs hs := List.map_congr_left fun v hv => hdg_ok (h v hv)
/-- The place of a head's parent. -/
def par (hs : List Hd) (a : Nat) : Int := dAt (hs.getD a noHd).par (digs (hs.take a)) 0
theorem par_lt {hs : List Hd} {a : Nat} (h : a ≤ hs.length) : par hs a < a := by
  have := (dAt_lt (hs.getD a noHd).par (digs (hs.take a)) 0 (by omega)).2.1
  rw [digs_length, List.length_take] at this
  unfold par; omega
/-- The places before one, on the way to it. -/
def pre (hs : List Hd) : Nat → Nat → List Nat
  | 0, _ => []
  | f + 1, a => if a = 0 then [] else if par hs a < 0 then [] else pre hs f (par hs a).toNat ++ [(par hs a).toNat]
theorem pre_succ (hs : List Hd) (f a : Nat) : pre hs (f + 1) a = if a = 0 then [] else if par hs a < 0 then [] else pre hs f (par hs a).toNat ++ [(par hs a).toNat] := rfl
theorem pre_zero (hs : List Hd) : ∀ f, pre hs f 0 = []
  | 0 => rfl
  | f + 1 => if_pos rfl
theorem pre_lt {hs : List Hd} : ∀ (f a : Nat), a < hs.length → ∀ j ∈ pre hs f a, j < hs.length
  | 0, a, h, j, hj => by simp [pre] at hj
  | f + 1, a, h, j, hj => by
    unfold pre at hj
    split at hj
    · simp at hj
    · split at hj
      · simp at hj
      · have hp := par_lt (hs := hs) (a := a) (by omega)
        rcases List.mem_append.1 hj with hj | hj
        · exact pre_lt f _ (by omega) j hj
        · simp at hj; omega
theorem pre_length {hs : List Hd} : ∀ (f a : Nat), (pre hs f a).length ≤ f
  | 0, a => by simp [pre]
  | f + 1, a => by
    unfold pre
    split
    · simp
    · split
      · simp
      · have := pre_length (hs := hs) f (par hs a).toNat
        simp; omega
def way (hs : List Hd) (a : Nat) : List Nat := pre hs a a ++ [a]
theorem way_lt {hs : List Hd} {a : Nat} (h : a < hs.length) : ∀ j ∈ way hs a, j < hs.length := fun j hj => by
  rcases List.mem_append.1 hj with hj | hj
  · exact pre_lt _ _ h j hj
  · simp at hj; omega
theorem way_length {hs : List Hd} {a : Nat} (h : a < hs.length) : (way hs a).length ≤ hs.length := by
  have := pre_length (hs := hs) a a
  simp [way]; omega
def atH (hs : List Hd) (j : Nat) : Hd := hs.getD j noHd
theorem atH_mem {hs : List Hd} {j : Nat} (h : j < hs.length) : atH hs j ∈ hs := by unfold atH; rw [List.getD_eq_getElem?_getD, List.getElem?_eq_getElem h]; exact List.getElem_mem h
def chain (hs : List Hd) (a : Nat) : List Hd := (way hs a).map (atH hs)
/-- The zeros that are asked behind a chain. -/
def nz (c : List Hd) : Int :=
  if c.length ≤ 4 then (atH c (c.length - 1)).zer else if (atH c (c.length - 1)).hgt.tmod 4 ≠ 0 then (atH c (c.length - 1)).zer else
  if (atH c (c.length - 1)).tim - (atH c (c.length - 5)).tim < 20 then (if 40 < (atH c (c.length - 1)).zer + 1 then 40 else (atH c (c.length - 1)).zer + 1) else
  if (atH c (c.length - 1)).tim - (atH c (c.length - 5)).tim > 80 then (if 0 > (atH c (c.length - 1)).zer - 1 then 0 else (atH c (c.length - 1)).zer - 1) else (atH c (c.length - 1)).zer
/-- The fault of a head behind others. -/
def jf (hs : List Hd) (x : Hd) : Int :=
  if 0 ≤ dAt (hdDig x) (digs hs) 0 then 7 else if dAt x.par (digs hs) 0 < 0 then 4 else
  if x.hgt ≠ (atH hs (dAt x.par (digs hs) 0).toNat).hgt + 1 then 1 else if x.tim ≤ (atH hs (dAt x.par (digs hs) 0).toNat).tim then 1 else
  if x.zer ≠ nz (chain hs (dAt x.par (digs hs) 0).toNat) then 1 else 0
def okH (hs : List Hd) : Prop := ∀ v ∈ hs, hdFault v = 0
def wf (hs : List Hd) : Prop := ∀ j, 0 < j → j < hs.length → 0 ≤ par hs j
theorem okH_snoc {d : List Hd} {x : Hd} (h : okH d) (hx : hf x = 0) : okH (d ++ [x]) := fun v hv => by
  rcases List.mem_append.1 hv with hv | hv
  · exact h v hv
  · rw [List.mem_singleton.1 hv]; exact hf_ok hx
theorem wf_one (x : Hd) : wf [x] := fun j h1 h2 => by simp at h2; omega
theorem wf_snoc {d : List Hd} {x : Hd} (h : wf d) (hx : jf d x = 0) : wf (d ++ [x]) := fun j h1 h2 => by
  simp only [List.length_append, List.length_cons, List.length_nil] at h2
  by_cases hj : j < d.length
  · have := h j h1 hj
    unfold par at this ⊢
    rw [List.getD_eq_getElem?_getD, List.getElem?_append_left hj, ← List.getD_eq_getElem?_getD, List.take_append_of_le_length (by omega)]
    exact this
  · have e : j = d.length := by omega
    subst e
    unfold par
    have e1 : (d ++ [x]).getD d.length noHd = x := by rw [List.getD_eq_getElem?_getD]; simp
    rw [e1, List.take_append_of_le_length (by omega), List.take_length]
    unfold jf at hx
    split at hx
    · cases hx
    · split at hx
      · cases hx
      · omega
def cf : List Hd → List Hd → Int
  | d, [] => 0
  | d, x :: r => if hf x ≠ 0 then hf x else if d.length = 0 then (if first x = true then cf (d ++ [x]) r else 1) else if jf d x ≠ 0 then jf d x else cf (d ++ [x]) r
/-- The fault of a client. -/
def clFault (hs : List Hd) (dep : Int) : Int := if ¬ (1 ≤ dep ∧ dep ≤ 6) then 3 else if hs.length = 0 then 4 else if 24 < hs.length then 2 else cf [] hs
theorem cf_ok : ∀ (r d : List Hd), cf d r = 0 → ∀ v ∈ r, hdFault v = 0
  | [], d, h, v, hv => by simp at hv
  | x :: r, d, h, v, hv => by
    unfold cf at h
    by_cases g : hf x = 0
    · rw [if_neg (by simp [g])] at h
      have hr : cf (d ++ [x]) r = 0 := by
        split at h
        · split at h
          · exact h
          · cases h
        · split at h
          · rename_i h1; exact absurd h h1
          · exact h
      rcases List.mem_cons.1 hv with rfl | hv
      · exact hf_ok g
      · exact cf_ok r _ hr v hv
    · rw [if_pos g] at h; exact absurd h g
/-- What NewClient answers. -/
def newCl (x : Hd) (dep : Int) : Int × List Hd × Int := if clFault [x] dep ≠ 0 then (clFault [x] dep, [], 0) else (0, [x], dep)
/-! places -/
def nE (n : Nat) : List V := [.int .i64 (n : Int)]
def nV (l : List Nat) : List V := l.flatMap nE
theorem nV_length (l : List Nat) : (nV l).length = l.length := by rw [nV, rows_length nE (sz := 1) (fun _ => rfl), Nat.mul_one]
theorem nV_at {i : Nat} {d : List Nat} (hi : i = d.length) (v : Nat) (r : List Nat) : (nV (d ++ v :: r))[i]? = some (.int .i64 (v : Int)) := by
  subst hi
  have := at_get nE (sz := 1) (fun _ => rfl) d v r (j := 0) (by decide)
  simpa [nV, nE] using this
theorem nV_set {i : Nat} {d : List Nat} (hi : i = d.length) (v y : Nat) (r : List Nat) : splice (nV (d ++ v :: r)) i [.int .i64 (y : Int)] = nV (d ++ y :: r) := by
  subst hi
  have := at_splice nE (sz := 1) (fun _ => rfl) d v r y
  simpa [nV, nE] using this
theorem nV_flat (l : List Nat) : (nV l).all flatV = true := by
  induction l with
  | nil => rfl
  | cons a l ih => unfold nV at ih ⊢; rw [List.flatMap_cons, List.all_append, ih]; rfl
theorem nV_snoc (l : List Nat) (a : Nat) : nV l ++ [.int .i64 (a : Int)] = nV (l ++ [a]) := by simp [nV, nE]
theorem nV_cons (l : List Nat) (a : Nat) : V.int .i64 (a : Int) :: nV l = nV (a :: l) := by simp [nV, nE]
end Go.PI.Cli
