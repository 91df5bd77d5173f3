/-
  Weights of chains, the heaviest, the main chain, what is confirmed, what a pruned client keeps; told over lists.
-/
import Derived.Test.YtehpmolckdmibaaGreatPMJoin
namespace Go.PI.Cli
open Go Go.PI Go.PI.Sha Go.PI.Rel Go.PI.Nest Go.PI.Tru Go.PI.Set
set_option linter.unusedVariables false
def wtL : List Hd → Nat
  | [] => 0
  | x :: r => 2 ^ x.zer.toNat + wtL r
theorem pow_le40 {x : Hd} (h : hdFault x = 0) : 2 ^ x.zer.toNat ≤ 1099511627776 := by
  have := hdFault_ok h
  have h1 : x.zer.toNat ≤ 40 := by omega
  have := Nat.pow_le_pow_right (show 0 < 2 by omega) h1
  simpa using this
theorem wtL_le : ∀ {l : List Hd}, okH l → wtL l ≤ l.length * 1099511627776
  | [], _ => by simp [wtL]
  | x :: r, h => by
    have h1 := pow_le40 (h x (by simp))
    have h2 := wtL_le (l := r) (fun v hv => h v (by simp [hv]))
    simp only [wtL, List.length_cons, Nat.succ_mul]; omega
theorem wtL_append : ∀ (a b : List Hd), wtL (a ++ b) = wtL a + wtL b
  | [], b => by simp [wtL]
  | x :: a, b => by simp only [List.cons_append, wtL, wtL_append a b]; omega
theorem shl_zer {x : Hd} (h : hdFault x = 0) : IntKind.i64.wrap (1 * 2 ^ min x.zer.toNat IntKind.i64.bits) = ((2 ^ x.zer.toNat : Nat) : Int) := by
  have h1 := pow_le40 h
  have := hdFault_ok h
  have e : min x.zer.toNat IntKind.i64.bits = x.zer.toNat := by
    have : IntKind.i64.bits = 64 := rfl
    omega
  rw [e, Int.one_mul]
  have e2 : (2 : Int) ^ x.zer.toNat = ((2 ^ x.zer.toNat : Nat) : Int) := by simp
  rw [e2, w64_nat (by omega)]
/-- The weight of the chain to a place. -/
def wt (hs : List Hd) (i : Nat) : Nat := wtL (chain hs i)
/-- The heaviest of the places from one on, behind the best so far. -/
def hvy (hs : List Hd) : Nat → Nat → Nat → Int → Nat
  | 0, i, at', most => at'
  | r + 1, i, at', most => if (wt hs i : Int) > most then hvy hs r (i + 1) i (wt hs i : Int) else hvy hs r (i + 1) at' most
theorem hvy_lt (hs : List Hd) : ∀ (r i a : Nat) (m : Int), i + r ≤ hs.length → a < hs.length → hvy hs r i a m < hs.length
  | 0, i, a, m, h, ha => ha
  | r + 1, i, a, m, h, ha => by
    unfold hvy
    split
    · exact hvy_lt hs r (i + 1) i _ (by omega) (by omega)
    · exact hvy_lt hs r (i + 1) a m (by omega) ha
def hvst (hs : List Hd) : Nat := hvy hs hs.length 0 0 (-1)
theorem hvst_lt {hs : List Hd} (h : 0 < hs.length) : hvst hs < hs.length := hvy_lt hs _ 0 0 _ (by omega) h
/-- The main chain. -/
def mn (hs : List Hd) : List Nat := way hs (hvst hs)
theorem mn_lt {hs : List Hd} (h : 0 < hs.length) : ∀ j ∈ mn hs, j < hs.length := way_lt (hvst_lt h)
theorem mn_length {hs : List Hd} (h : 0 < hs.length) : (mn hs).length ≤ hs.length := way_length (hvst_lt h)
theorem mn_last (hs : List Hd) : mn hs = pre hs (hvst hs) (hvst hs) ++ [hvst hs] := rfl
theorem mn_pos (hs : List Hd) : 0 < (mn hs).length := by rw [mn_last]; simp
/-- Deep enough? -/
def deep (hs : List Hd) (dep : Int) (j : Nat) : Bool := !decide ((atH hs j).hgt > (atH hs (hvst hs)).hgt - dep)
def cnf (hs : List Hd) (dep : Int) : List Nat := (mn hs).filter (deep hs dep)
theorem cnf_lt {hs : List Hd} (h : 0 < hs.length) {dep : Int} : ∀ j ∈ cnf hs dep, j < hs.length := fun j hj => mn_lt h j (List.mem_filter.1 hj).1
theorem cnf_length {hs : List Hd} (h : 0 < hs.length) (dep : Int) : (cnf hs dep).length ≤ hs.length := Nat.le_trans (List.length_filter_le _ _) (mn_length h)
/-- Where a way leaves the main chain. -/
def lst (m : List Nat) : List Nat → Nat → Nat
  | [], k => k
  | j :: r, k => lst m r (if j ∈ m then j else k)
theorem lst_lt {m : List Nat} {n : Nat} : ∀ (l : List Nat) (k : Nat), (∀ j ∈ l, j < n) → k < n → lst m l k < n
  | [], k, h, hk => hk
  | j :: r, k, h, hk => by
    unfold lst
    refine lst_lt r _ (fun j hj => h j (by simp [hj])) ?_
    split
    · exact h j (by simp)
    · exact hk
def keep (hs : List Hd) (dep : Int) (i : Nat) : Bool := decide (i ∈ mn hs) || !decide (lst (mn hs) (way hs i) 0 ∈ cnf hs dep)
def prn (hs : List Hd) (dep : Int) : List Hd → Nat → List Hd
  | [], i => []
  | x :: r, i => if keep hs dep i = true then x :: prn hs dep r (i + 1) else prn hs dep r (i + 1)
theorem prn_sub (hs : List Hd) (dep : Int) : ∀ (r : List Hd) (i : Nat), List.Sublist (prn hs dep r i) r
  | [], i => .slnil
  | x :: r, i => by
    unfold prn
    split
    · exact (prn_sub hs dep r (i + 1)).cons_cons x
    · exact (prn_sub hs dep r (i + 1)).cons x
/-- What PruneClient answers. -/
def prC (x : Cl) : Int × List Hd × Int := if clFault x.hds x.dep ≠ 0 then (clFault x.hds x.dep, [], 0) else (0, prn x.hds x.dep x.hds 0, x.dep)
end Go.PI.Cli
