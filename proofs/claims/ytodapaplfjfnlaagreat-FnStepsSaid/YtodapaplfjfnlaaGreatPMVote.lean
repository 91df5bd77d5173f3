/-
  Votes and signed heads, told over lists; what SignHead answers.
-/
import Derived.Test.YtodapaplfjfnlaaGreatPMTree
namespace Go.PI.Vote
open Go Go.PI Go.PI.Sha Go.PI.Rel Go.PI.Nest Go.PI.Tru Go.PI.Set Go.PI.Tree
set_option linter.unusedVariables false
def ints (l : List Int) : List V := l.map (V.int .i64)
@[simp] theorem ints_length (l : List Int) : (ints l).length = l.length := by simp [ints]
@[simp] theorem ints_flat (l : List Int) : (ints l).all flatV = true := by simp [ints, flatV]
theorem ints_append (a b : List Int) : ints (a ++ b) = ints a ++ ints b := by simp [ints]
theorem ints_get {l : List Int} {i : Nat} (h : i < l.length) : (ints l)[i]? = some (.int .i64 l[i]) := by simp [ints, h]
def mkN (k : Int) (l : List Int) : List Int := (List.range l.length).map fun (i : Nat) => k + (i : Int)
@[simp] theorem mkN_length (k : Int) (l : List Int) : (mkN k l).length = l.length := by simp [mkN]
structure Vt where
  plc : Int
  leaf : Int
  parts : List (List UInt8)
  spl : Int
  cnt : Int
  path : List (List UInt8)
  deriving DecidableEq
def vtS (v : Vt) : List V := [.int .i64 v.plc, .int .i64 v.leaf, .sl v.parts.length (psS v.parts), .int .i64 v.spl, .int .i64 v.cnt, .sl v.path.length (psS v.path)]
def vtO (v : Vt) : List V := [.int .i64 v.plc, .int .i64 v.leaf, .own true 22 1 v.parts.length (psO v.parts), .int .i64 v.spl, .int .i64 v.cnt, .own true 22 1 v.path.length (psO v.path)]
theorem vtS6 : ∀ v, (vtS v).length = 6 := fun _ => rfl
def vtsS (l : List Vt) : List V := l.flatMap vtS
def vtsO (l : List Vt) : List V := l.flatMap vtO
theorem vts_bare (l : List Vt) : bareL (vtsO l) = vtsS l := bareL_rows _ _ (fun v => by simp only [vtO, vtS, bareL, bareV, ps_bare]) l
theorem vtsO_snoc (d : List Vt) (v : Vt) : vtsO d ++ [.int .i64 v.plc, .int .i64 v.leaf, .own true 22 1 v.parts.length (psO v.parts), .int .i64 v.spl, .int .i64 v.cnt, .own true 22 1 v.path.length (psO v.path)] = vtsO (d ++ [v]) := by simp [vtsO, vtO]
theorem vtsS_at0 {i : Nat} {d : List Vt} (hi : i = d.length) (v : Vt) (r : List Vt) : (vtsS (d ++ v :: r))[i * 6 + 0]? = some (.int .i64 v.plc) := by subst hi; exact at_get vtS vtS6 d v r (j := 0) (by decide)
theorem vtsS_at1 {i : Nat} {d : List Vt} (hi : i = d.length) (v : Vt) (r : List Vt) : (vtsS (d ++ v :: r))[i * 6 + 1]? = some (.int .i64 v.leaf) := by subst hi; exact at_get vtS vtS6 d v r (j := 1) (by decide)
theorem vtsS_at2 {i : Nat} {d : List Vt} (hi : i = d.length) (v : Vt) (r : List Vt) : (vtsS (d ++ v :: r))[i * 6 + 2]? = some (.sl v.parts.length (psS v.parts)) := by subst hi; exact at_get vtS vtS6 d v r (j := 2) (by decide)
theorem vtsS_at3 {i : Nat} {d : List Vt} (hi : i = d.length) (v : Vt) (r : List Vt) : (vtsS (d ++ v :: r))[i * 6 + 3]? = some (.int .i64 v.spl) := by subst hi; exact at_get vtS vtS6 d v r (j := 3) (by decide)
theorem vtsS_at4 {i : Nat} {d : List Vt} (hi : i = d.length) (v : Vt) (r : List Vt) : (vtsS (d ++ v :: r))[i * 6 + 4]? = some (.int .i64 v.cnt) := by subst hi; exact at_get vtS vtS6 d v r (j := 4) (by decide)
theorem vtsS_at5 {i : Nat} {d : List Vt} (hi : i = d.length) (v : Vt) (r : List Vt) : (vtsS (d ++ v :: r))[i * 6 + 5]? = some (.sl v.path.length (psS v.path)) := by subst hi; exact at_get vtS vtS6 d v r (j := 5) (by decide)
def vtZ (v : Vt) : Nat := tot List.length v.parts + tot List.length v.path
def vtN (v : Vt) : Nat := v.parts.length + v.path.length
def vtfit (v : Vt) : Prop := vtZ v ≤ 100000000 ∧ vtN v ≤ 100000000
def vtsfit (l : List Vt) : Prop := l.length ≤ 100000000 ∧ tot vtZ l ≤ 100000000 ∧ tot vtN l ≤ 100000000
theorem vtsfit_of {l : List Vt} (h : vtsfit l) {v : Vt} (hv : v ∈ l) : vtfit v := by
  have := le_tot vtZ hv; have := le_tot vtN hv; have := h.2; unfold vtfit; omega
def bftTag : List UInt8 := [98, 102, 116]
def hbW (x : HB) : List (List UInt8) := [num7 x.hgt, num7 x.tim, x.root, x.set, x.nxt]
def hbDig (x : HB) : List UInt8 := sha (tagW bftTag (packW (hbW x)))
theorem hbDig_length (x : HB) : (hbDig x).length = 32 := sha_length _
theorem hbFault_ok {x : HB} (h : hbFault x = 0) : x.root.length = 32 ∧ x.set.length = 32 ∧ x.nxt.length = 32 := by
  unfold hbFault at h
  by_cases g : x.root.length = 32 ∧ x.set.length = 32 ∧ x.nxt.length = 32
  · exact g
  · rw [if_pos g] at h; cases h
theorem hbW_small {x : HB} (h : hbFault x = 0) : small (hbW x) := by
  obtain ⟨h1, h2, h3⟩ := hbFault_ok h
  refine ⟨by simp [hbW], fun w hw => ?_, by simp only [hbW, tot, num7_length, List.length_cons, List.length_nil]; omega⟩
  simp only [hbW, List.mem_cons, List.not_mem_nil, or_false] at hw
  rcases hw with h | h | h | h | h <;> (rw [h]; first | omega | (rw [num7_length]; omega))
theorem hbOk_fit {x : HB} (h : hbFault x = 0) : fitH x := by
  have := hbFault_ok h
  unfold fitH szH; omega
def long (b : List UInt8) : Bool := decide (200 < b.length)
def vote (seeds : List (List UInt8)) (leaf : Int) (m : List UInt8) (k : Int) : Vt :=
  ⟨k, leaf, partsF (seeds.getD k.toNat []) leaf.toNat (digits m) 0, leaf, 4, path (leaves (seeds.getD k.toNat [])) leaf.toNat⟩
theorem tot_words {n : Nat} : ∀ {l : List (List UInt8)}, (∀ w ∈ l, w.length = n) → tot List.length l = n * l.length
  | [], _ => rfl
  | w :: l, h => by simp only [tot, h w (by simp), tot_words (l := l) fun u hu => h u (by simp [hu]), List.length_cons, Nat.mul_succ]; omega
theorem vote_Z (seeds : List (List UInt8)) (leaf : Int) (m : List UInt8) (k : Int) : vtZ (vote seeds leaf m k) ≤ 736 ∧ vtN (vote seeds leaf m k) ≤ 23 := by
  have h1 := partsF_words (seeds.getD k.toNat []) leaf.toNat (digits m) 0
  have h2 := pathF_words (leaves (seeds.getD k.toNat [])).length (leaves (seeds.getD k.toNat [])) leaf.toNat
  have t1 := tot_words h1.2
  have t2 := tot_words h2.2
  have l2 := h2.1
  rw [leaves_length] at l2
  rw [h1.1, digits_length] at t1
  have h1 := h1.1
  rw [digits_length] at h1
  have l2 : (path (leaves (seeds.getD k.toNat [])) leaf.toNat).length ≤ 4 := by unfold path; rw [leaves_length]; exact l2
  have t2 : tot List.length (path (leaves (seeds.getD k.toNat [])) leaf.toNat) = 32 * (path (leaves (seeds.getD k.toNat [])) leaf.toNat).length := by
    unfold path; exact t2
  unfold vtZ vtN vote
  dsimp only
  omega
theorem votes_fit (seeds : List (List UInt8)) (leaf : Int) (m : List UInt8) : ∀ (l : List Int), tot vtZ (l.map (vote seeds leaf m)) ≤ 736 * l.length ∧ tot vtN (l.map (vote seeds leaf m)) ≤ 23 * l.length
  | [] => by simp [tot]
  | k :: l => by
    have h1 := votes_fit seeds leaf m l
    have h2 := vote_Z seeds leaf m k
    simp only [List.map_cons, tot, List.length_cons, Nat.mul_succ]; omega
end Go.PI.Vote
