/-
  Packed words, tagged digests, the faults of sets, heads and trusts: told over lists.
-/
import Derived.Test.YtodapaplfjfnlaaGreatPMTrust
namespace Go.PI.Set
open Go Go.PI Go.PI.Sha Go.PI.Rel Go.PI.Nest Go.PI.Tru
set_option linter.unusedVariables false
def packW (ws : List (List UInt8)) : List UInt8 := ws.flatMap fun w => b8 w.length :: w
def tagW (t d : List UInt8) : List UInt8 := b8 t.length :: (t ++ d)
theorem packW_cons (w : List UInt8) (ws : List (List UInt8)) : packW (w :: ws) = b8 w.length :: (w ++ packW ws) := by simp [packW]
theorem packW_append (a b : List (List UInt8)) : packW (a ++ b) = packW a ++ packW b := by simp [packW]
theorem packW_length : ∀ ws, (packW ws).length = tot List.length ws + ws.length
  | [] => rfl
  | w :: ws => by rw [packW_cons]; simp only [List.length_cons, List.length_append, packW_length ws, tot]; omega
def small (ws : List (List UInt8)) : Prop := ws.length ≤ 60 ∧ (∀ w ∈ ws, w.length ≤ 200) ∧ tot List.length ws + ws.length ≤ 4000
def setTag : List UInt8 := [115, 101, 116]
def setW (l : List Vd) : List (List UInt8) := l.flatMap fun v => [v.key, num7 v.pow]
theorem setW_cons (v : Vd) (l : List Vd) : setW (v :: l) = v.key :: num7 v.pow :: setW l := by simp [setW]
theorem setW_snoc (d : List Vd) (v : Vd) : setW (d ++ [v]) = setW d ++ [v.key, num7 v.pow] := by simp [setW]
theorem setW_length : ∀ l, (setW l).length = 2 * l.length
  | [] => rfl
  | v :: l => by rw [setW_cons]; simp only [List.length_cons, setW_length l]; omega
theorem setW_tot : ∀ l, tot List.length (setW l) = tot kl l + 7 * l.length
  | [] => rfl
  | v :: l => by rw [setW_cons]; simp only [tot, setW_tot l, num7_length, kl, List.length_cons]; omega
def setDig (l : List Vd) : List UInt8 := sha (tagW setTag (packW (setW l)))
def hbFault (x : HB) : Int := if ¬ (x.root.length = 32 ∧ x.set.length = 32 ∧ x.nxt.length = 32) then 1 else if ¬ ((1 ≤ x.hgt ∧ x.hgt ≤ 1000000) ∧ 0 ≤ x.tim ∧ x.tim ≤ 1099511627776) then 3 else 0
def kAt (k : List UInt8) : List Vd → Int → Int
  | [], _ => -1
  | v :: r, i => if v.key = k then i else kAt k r (i + 1)
theorem kAt_iff (k : List UInt8) : ∀ (l : List Vd) (i : Int), 0 ≤ i → (0 ≤ kAt k l i ↔ ∃ u ∈ l, u.key = k)
  | [], i, h => by simp [kAt]
  | v :: r, i, h => by
    simp only [kAt]
    by_cases e : v.key = k
    · simp [e, h]
    · rw [if_neg e, kAt_iff k r (i + 1) (by omega)]
      simp [e]
def hasK (k : List UInt8) (l : List Vd) : Bool := l.any fun u => decide (u.key = k)
theorem hasK_iff (k : List UInt8) (l : List Vd) : hasK k l = true ↔ ∃ u ∈ l, u.key = k := by simp [hasK]
theorem kAt_has (k : List UInt8) (l : List Vd) : decide (kAt k l 0 ≥ 0) = hasK k l := by
  rw [Bool.eq_iff_iff, hasK_iff, ← kAt_iff k l 0 (by omega)]; simp
def sf : List Vd → List Vd → Int
  | d, [] => 0
  | d, v :: r => if v.key.length ≠ 32 then 1 else if ¬ (1 ≤ v.pow ∧ v.pow ≤ 1000) then 3 else if hasK v.key d = true then 7 else sf (d ++ [v]) r
def setFault (l : List Vd) : Int := if l.length = 0 then 4 else if 5 < l.length then 2 else sf [] l
theorem sf_ok : ∀ (r d : List Vd), sf d r = 0 → ∀ v ∈ r, v.key.length = 32 ∧ 1 ≤ v.pow ∧ v.pow ≤ 1000
  | [], d, h, v, hv => by simp at hv
  | u :: r, d, h, v, hv => by
    unfold sf at h
    split at h
    · cases h
    · split at h
      · cases h
      · split at h
        · cases h
        · rename_i h1 h2 _
          rcases List.mem_cons.1 hv with rfl | hv
          · omega
          · exact sf_ok r _ h v hv
theorem setFault_ok {l : List Vd} (h : setFault l = 0) : 0 < l.length ∧ l.length ≤ 5 ∧ ∀ v ∈ l, v.key.length = 32 ∧ 1 ≤ v.pow ∧ v.pow ≤ 1000 := by
  unfold setFault at h
  split at h
  · cases h
  · split at h
    · cases h
    · exact ⟨by omega, by omega, sf_ok _ _ h⟩
theorem tot_const {n : Nat} : ∀ {l : List Vd}, (∀ v ∈ l, v.key.length = n) → tot kl l = n * l.length
  | [], _ => rfl
  | v :: l, h => by simp only [tot, kl, h v (by simp), tot_const (l := l) fun u hu => h u (by simp [hu]), List.length_cons, Nat.mul_succ]; omega
theorem set_small {l : List Vd} (h : setFault l = 0) : small (setW l) := by
  obtain ⟨h1, h2, h3⟩ := setFault_ok h
  have ht := tot_const (n := 32) fun v hv => (h3 v hv).1
  refine ⟨by rw [setW_length]; omega, fun w hw => ?_, by rw [setW_tot, setW_length, ht]; omega⟩
  obtain ⟨v, hv, hw⟩ := List.mem_flatMap.1 hw
  simp only [List.mem_cons, List.not_mem_nil, or_false] at hw
  rcases hw with rfl | rfl
  · have := (h3 v hv).1; omega
  · rw [num7_length]; omega
def badR (b : List UInt8) : Bool := decide (b.length ≠ 32 ∧ b.length ≠ 0)
def rEnd (r : List (List UInt8)) (a b : List UInt8) : Int := bif r.any badR || !decide (a = b) then 1 else 0
def tFault (t : Tr) : Int :=
  if hbFault t.hd ≠ 0 then hbFault t.hd else if setFault t.nx ≠ 0 then setFault t.nx else if t.hd.nxt ≠ setDig t.nx then 1 else if ¬ (1 ≤ t.per ∧ t.per ≤ 1099511627776) then 3 else
  if 24 < t.roots.length then 2 else if t.roots.length = 0 ∨ t.frm < 1 ∨ t.frm + t.roots.length - 1 ≠ t.hd.hgt then 1 else rEnd t.roots (t.roots.getLastD []) t.hd.root
theorem hbFault_ok {x : HB} (h : hbFault x = 0) : x.root.length = 32 ∧ x.set.length = 32 ∧ x.nxt.length = 32 ∧ 1 ≤ x.hgt ∧ x.hgt ≤ 1000000 ∧ 0 ≤ x.tim ∧ x.tim ≤ 1099511627776 := by
  unfold hbFault at h
  split at h
  · cases h
  · split at h
    · cases h
    · omega
end Go.PI.Set
