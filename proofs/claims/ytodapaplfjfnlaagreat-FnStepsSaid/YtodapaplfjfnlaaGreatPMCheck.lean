/-
  Proofs and signatures that are checked, signed heads, votes' powers; told over lists.
-/
import Derived.Test.YtodapaplfjfnlaaGreatPMVote
namespace Go.PI.Vote
open Go Go.PI Go.PI.Sha Go.PI.Rel Go.PI.Nest Go.PI.Tru Go.PI.Set Go.PI.Tree
set_option linter.unusedVariables false
def sidesF : Nat → Nat → Nat → List Bool
  | 0, _, _ => []
  | f + 1, n, k => if n = 1 then [] else if k < split n then sidesF f (split n) k ++ [false] else sidesF f (n - split n) (k - split n) ++ [true]
def sides (n k : Nat) : List Bool := sidesF n n k
theorem sidesF_more : ∀ (f g n k : Nat), 0 < n → n ≤ f → n ≤ g → sidesF f n k = sidesF g n k
  | 0, _, _, _, h0, h, _ => by omega
  | _ + 1, 0, _, _, h0, _, h => by omega
  | f + 1, g + 1, n, k, h0, h1, h2 => by
    unfold sidesF
    by_cases c1 : n = 1
    · rw [if_pos c1, if_pos c1]
    have hs := split_lt (n := n) (by omega)
    have hp := split_pos (n := n) (by omega)
    rw [if_neg c1, if_neg c1]
    rw [sidesF_more f g (split n) k hp (by omega) (by omega), sidesF_more f g (n - split n) (k - split n) (by omega) (by omega) (by omega)]
theorem sides_eq {n : Nat} (k : Nat) (h : 0 < n) : sides n k = if n = 1 then [] else if k < split n then sides (split n) k ++ [false] else sides (n - split n) (k - split n) ++ [true] := by
  obtain ⟨m, rfl⟩ : ∃ m, n = m + 1 := ⟨n - 1, by omega⟩
  show sidesF (m + 1) (m + 1) k = _
  unfold sidesF
  by_cases c1 : m + 1 = 1
  · rw [if_pos c1, if_pos c1]
  have hs := split_lt (n := m + 1) (by omega)
  have hp := split_pos (n := m + 1) (by omega)
  rw [if_neg c1, if_neg c1]
  have e1 : sidesF m (split (m + 1)) k = sides (split (m + 1)) k := sidesF_more _ _ _ _ hp (by omega) (Nat.le_refl _)
  have e2 : sidesF m (m + 1 - split (m + 1)) (k - split (m + 1)) = sides (m + 1 - split (m + 1)) (k - split (m + 1)) := sidesF_more _ _ _ _ (by omega) (by omega) (Nat.le_refl _)
  rw [e1, e2]
theorem sidesF_length : ∀ (f n k : Nat), (sidesF f n k).length ≤ f
  | 0, _, _ => by simp [sidesF]
  | f + 1, n, k => by
    unfold sidesF
    split
    · simp
    · split
      · have := sidesF_length f (split n) k; simp; omega
      · have := sidesF_length f (n - split n) (k - split n); simp; omega
theorem sides_length (n k : Nat) : (sides n k).length ≤ n := sidesF_length n n k
def bsV (l : List Bool) : List V := l.map V.bool
theorem bsV_flat (l : List Bool) : (bsV l).all flatV = true := by
  induction l with
  | nil => rfl
  | cons a l ih => unfold bsV at ih ⊢; simp only [List.map_cons, List.all_cons, ih]; rfl
theorem bsV_snoc (d : List Bool) (b : Bool) : bsV d ++ [V.bool b] = bsV (d ++ [b]) := by simp [bsV]
theorem bsV_at {i : Nat} {d : List Bool} (hi : i = d.length) (v : Bool) (r : List Bool) : (bsV (d ++ v :: r))[i]? = some (.bool v) := by
  subst hi
  simp [bsV]
def up (own : List UInt8) : List Bool → List (List UInt8) → List UInt8
  | true :: s, p :: ps => up (dg nodeTag (p ++ own)) s ps
  | false :: s, p :: ps => up (dg nodeTag (own ++ p)) s ps
  | _, _ => own
def no32 (b : List UInt8) : Bool := !decide (b.length = 32)
def isPr (plc cnt : Int) (path : List (List UInt8)) : Bool := decide (1 ≤ cnt ∧ cnt ≤ 16) && (decide (0 ≤ plc ∧ plc ≤ cnt - 1) && (decide ((sides cnt.toNat plc.toNat).length = path.length) && !path.any no32))
def ckProof (root data : List UInt8) (plc cnt : Int) (path : List (List UInt8)) : Bool := isPr plc cnt path && decide (up (dg leafTag data) (sides cnt.toNat plc.toNat) path = root)
def endsP : List Nat → List (List UInt8) → List UInt8
  | d :: ds, p :: ps => climb p (3 - d) ++ endsP ds ps
  | _, _ => []
def placed (v : Vt) : Bool := decide (0 ≤ v.leaf ∧ v.leaf ≤ 3) && (decide (v.parts.length = 19) && (decide (v.spl = v.leaf) && decide (v.cnt = 4)))
def ckSign (root m : List UInt8) (v : Vt) : Bool := placed v && (!v.parts.any no32 && ckProof root (endsP (digits m) v.parts) v.spl v.cnt v.path)
def noVd : Vd := ⟨[], 0⟩
def vf (l : List Vd) (m : List UInt8) : List Vt → Int → Int
  | [], _ => 0
  | v :: r, last => if ¬ (last + 1 ≤ v.plc ∧ v.plc ≤ (l.length : Int) - 1) then 3 else if ckSign (l.getD v.plc.toNat noVd).key m v = true then vf l m r v.plc else 6
def sgFault (l : List Vd) (x : HB) (vs : List Vt) : Int := if setFault l ≠ 0 then setFault l else if hbFault x ≠ 0 then hbFault x else if x.set ≠ setDig l then 1 else if 5 < vs.length then 2 else vf l (hbDig x) vs (-1)
def inSet (l : List Vd) (vs : List Vt) : Prop := ∀ v ∈ vs, 0 ≤ v.plc ∧ v.plc ≤ (l.length : Int) - 1
theorem vf_in (l : List Vd) (m : List UInt8) : ∀ (vs : List Vt) (last : Int), -1 ≤ last → vf l m vs last = 0 → inSet l vs
  | [], last, h, h0 => fun v hv => by simp at hv
  | u :: r, last, h, h0 => by
    unfold vf at h0
    by_cases c1 : last + 1 ≤ u.plc ∧ u.plc ≤ (l.length : Int) - 1
    case neg => rw [if_pos c1] at h0; cases h0
    rw [if_neg (fun h => h c1)] at h0
    split at h0
    · intro v hv
      rcases List.mem_cons.1 hv with e | hv
      · rw [e]; omega
      · exact vf_in l m r u.plc (by omega) h0 v hv
    · cases h0
def votedP (l : List Vd) : List Vt → Int
  | [] => 0
  | v :: r => (l.getD v.plc.toNat noVd).pow + votedP l r
def totP : List Vd → Int
  | [] => 0
  | v :: r => v.pow + totP r
theorem getD_mem {l : List Vd} {i : Nat} (h : i < l.length) : l.getD i noVd ∈ l := by rw [List.getD_eq_getElem?_getD, List.getElem?_eq_getElem h]; exact List.getElem_mem h
theorem sgFault_ok {l : List Vd} {x : HB} {vs : List Vt} (h : sgFault l x vs = 0) : setFault l = 0 ∧ hbFault x = 0 ∧ vs.length ≤ 5 ∧ inSet l vs := by
  unfold sgFault at h
  by_cases g0 : setFault l = 0
  case neg => rw [if_pos g0] at h; exact absurd h g0
  rw [if_neg (fun h => h g0)] at h
  by_cases g1 : hbFault x = 0
  case neg => rw [if_pos g1] at h; exact absurd h g1
  rw [if_neg (fun h => h g1)] at h
  by_cases g2 : x.set = setDig l
  case neg => rw [if_pos g2] at h; cases h
  rw [if_neg (fun h => h g2)] at h
  by_cases g3 : 5 < vs.length
  · rw [if_pos g3] at h; cases h
  rw [if_neg g3] at h
  exact ⟨g0, g1, by omega, vf_in _ _ _ _ (by omega) h⟩
def keyPow (k : List UInt8) : List Vd → Int
  | [] => 0
  | v :: r => if v.key = k then v.pow else keyPow k r
def sharedP (l o : List Vd) : List Vt → Int
  | [] => 0
  | v :: r => keyPow (l.getD v.plc.toNat noVd).key o + sharedP l o r
end Go.PI.Vote
