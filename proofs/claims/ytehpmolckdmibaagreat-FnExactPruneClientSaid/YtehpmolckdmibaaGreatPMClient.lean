/-
  Heads of blocks, clients: told over lists.
-/
import Derived.Test.YtehpmolckdmibaaGreatPMSet
namespace Go.PI.Cli
open Go Go.PI Go.PI.Sha Go.PI.Rel Go.PI.Nest Go.PI.Tru Go.PI.Set
set_option linter.unusedVariables false
structure Hd where
  par : List UInt8
  hgt : Int
  tim : Int
  zer : Int
  root : List UInt8
  non : Int
  deriving DecidableEq
def hdS (v : Hd) : List V := [bS v.par, .int .i64 v.hgt, .int .i64 v.tim, .int .i64 v.zer, bS v.root, .int .i64 v.non]
def hdO (v : Hd) : List V := [bO v.par, .int .i64 v.hgt, .int .i64 v.tim, .int .i64 v.zer, bO v.root, .int .i64 v.non]
theorem hdS6 : ∀ v, (hdS v).length = 6 := fun _ => rfl
theorem hdO6 : ∀ v, (hdO v).length = 6 := fun _ => rfl
def hdsS (l : List Hd) : List V := l.flatMap hdS
def hdsO (l : List Hd) : List V := l.flatMap hdO
theorem hds_bare (l : List Hd) : bareL (hdsO l) = hdsS l := bareL_rows _ _ (fun v => by simp only [hdO, hdS, bareL, bare_bO]; rfl) l
theorem hdsS_length (l : List Hd) : (hdsS l).length = l.length * 6 := rows_length hdS hdS6 l
theorem hdsO_length (l : List Hd) : (hdsO l).length = l.length * 6 := rows_length hdO hdO6 l
theorem hdsS_len (d : List Hd) (v : Hd) (r : List Hd) : (hdsS (d ++ v :: r)).length = (d.length + (r.length + 1)) * 6 := by rw [hdsS_length]; simp
theorem hdsO_len (d : List Hd) (v : Hd) (r : List Hd) : (hdsO (d ++ v :: r)).length = (d.length + (r.length + 1)) * 6 := by rw [hdsO_length]; simp
theorem hdsS_take (d : List Hd) (v : Hd) (r : List Hd) : (hdsS (d ++ v :: r)).take (d.length * 6) = hdsS d := by
  have := rows_take hdS hdS6 d.length (d ++ v :: r)
  unfold hdsS
  rw [this]
  simp
theorem hdsS_snoc (d : List Hd) (v : Hd) : hdsS d ++ [.sl v.par.length (bytesV v.par), .int .i64 v.hgt, .int .i64 v.tim, .int .i64 v.zer, .sl v.root.length (bytesV v.root), .int .i64 v.non] = hdsS (d ++ [v]) := by simp [hdsS, hdS, bS]
theorem hdsO_snoc (d : List Hd) (v : Hd) : hdsO d ++ [.own false 5 1 v.par.length (bytesV v.par), .int .i64 v.hgt, .int .i64 v.tim, .int .i64 v.zer, .own false 5 1 v.root.length (bytesV v.root), .int .i64 v.non] = hdsO (d ++ [v]) := by simp [hdsO, hdO, bO]
def hdz : List V := [.nilsl, .int .i64 0, .int .i64 0, .int .i64 0, .nilsl, .int .i64 0]
theorem hds_part (d : List Hd) (v : Hd) (r : Nat) : splice (prt hdO hdz d (r + 1)) (d.length * 6) [.own false 5 1 v.par.length (bytesV v.par), .int .i64 v.hgt, .int .i64 v.tim, .int .i64 v.zer, .own false 5 1 v.root.length (bytesV v.root), .int .i64 v.non] = prt hdO hdz (d ++ [v]) r := prt_step hdO hdO6 (z := hdz) rfl d v r
theorem hdsS_at0 {i : Nat} {d : List Hd} (hi : i = d.length) (v : Hd) (r : List Hd) : (hdsS (d ++ v :: r))[i * 6]? = some (.sl v.par.length (bytesV v.par)) := by subst hi; exact at_get hdS hdS6 d v r (j := 0) (by decide)
theorem hdsO_at0 {i : Nat} {d : List Hd} (hi : i = d.length) (v : Hd) (r : List Hd) : (hdsO (d ++ v :: r))[i * 6]? = some (.own false 5 1 v.par.length (bytesV v.par)) := by subst hi; exact at_get hdO hdO6 d v r (j := 0) (by decide)
theorem hdsO_set0 {i : Nat} {d : List Hd} (hi : i = d.length) (v : Hd) (r : List Hd) {m : Nat} (b : List UInt8) (hm : m = b.length) : (hdsO (d ++ v :: r)).set (i * 6) (.own false 5 1 m (bytesV b)) = hdsO (d ++ ⟨b, v.hgt, v.tim, v.zer, v.root, v.non⟩ :: r) := by subst hi; subst hm; exact at_set hdO hdO6 d v r ⟨b, v.hgt, v.tim, v.zer, v.root, v.non⟩ (j := 0) (by decide) rfl
theorem hdsS_at1 {i : Nat} {d : List Hd} (hi : i = d.length) (v : Hd) (r : List Hd) : (hdsS (d ++ v :: r))[i * 6 + 1]? = some (.int .i64 v.hgt) := by subst hi; exact at_get hdS hdS6 d v r (j := 1) (by decide)
theorem hdsO_set1 {i : Nat} {d : List Hd} (hi : i = d.length) (v : Hd) (r : List Hd) (n : Int) : splice (hdsO (d ++ v :: r)) (i * 6 + 1) [.int .i64 n] = hdsO (d ++ ⟨v.par, n, v.tim, v.zer, v.root, v.non⟩ :: r) := by subst hi; exact at_splice1 hdO hdO6 d v r ⟨v.par, n, v.tim, v.zer, v.root, v.non⟩ (j := 1) (by decide) rfl
theorem hdsS_at2 {i : Nat} {d : List Hd} (hi : i = d.length) (v : Hd) (r : List Hd) : (hdsS (d ++ v :: r))[i * 6 + 1 + 1]? = some (.int .i64 v.tim) := by subst hi; exact at_get hdS hdS6 d v r (j := 2) (by decide)
theorem hdsS_at2n {i : Nat} {d : List Hd} (hi : i = d.length) (v : Hd) (r : List Hd) : (hdsS (d ++ v :: r))[i * 6 + 2]? = some (.int .i64 v.tim) := by subst hi; exact at_get hdS hdS6 d v r (j := 2) (by decide)
theorem hdsO_set2 {i : Nat} {d : List Hd} (hi : i = d.length) (v : Hd) (r : List Hd) (n : Int) : splice (hdsO (d ++ v :: r)) (i * 6 + 2) [.int .i64 n] = hdsO (d ++ ⟨v.par, v.hgt, n, v.zer, v.root, v.non⟩ :: r) := by subst hi; exact at_splice1 hdO hdO6 d v r ⟨v.par, v.hgt, n, v.zer, v.root, v.non⟩ (j := 2) (by decide) rfl
theorem hdsS_at3 {i : Nat} {d : List Hd} (hi : i = d.length) (v : Hd) (r : List Hd) : (hdsS (d ++ v :: r))[i * 6 + 1 + 1 + 1]? = some (.int .i64 v.zer) := by subst hi; exact at_get hdS hdS6 d v r (j := 3) (by decide)
theorem hdsS_at3n {i : Nat} {d : List Hd} (hi : i = d.length) (v : Hd) (r : List Hd) : (hdsS (d ++ v :: r))[i * 6 + 3]? = some (.int .i64 v.zer) := by subst hi; exact at_get hdS hdS6 d v r (j := 3) (by decide)
theorem hdsO_set3 {i : Nat} {d : List Hd} (hi : i = d.length) (v : Hd) (r : List Hd) (n : Int) : splice (hdsO (d ++ v :: r)) (i * 6 + 3) [.int .i64 n] = hdsO (d ++ ⟨v.par, v.hgt, v.tim, n, v.root, v.non⟩ :: r) := by subst hi; exact at_splice1 hdO hdO6 d v r ⟨v.par, v.hgt, v.tim, n, v.root, v.non⟩ (j := 3) (by decide) rfl
theorem hdsS_at4 {i : Nat} {d : List Hd} (hi : i = d.length) (v : Hd) (r : List Hd) : (hdsS (d ++ v :: r))[i * 6 + 1 + 1 + 1 + 1]? = some (.sl v.root.length (bytesV v.root)) := by subst hi; exact at_get hdS hdS6 d v r (j := 4) (by decide)
theorem hdsS_at4n {i : Nat} {d : List Hd} (hi : i = d.length) (v : Hd) (r : List Hd) : (hdsS (d ++ v :: r))[i * 6 + 4]? = some (.sl v.root.length (bytesV v.root)) := by subst hi; exact at_get hdS hdS6 d v r (j := 4) (by decide)
theorem hdsO_at4 {i : Nat} {d : List Hd} (hi : i = d.length) (v : Hd) (r : List Hd) : (hdsO (d ++ v :: r))[i * 6 + 4]? = some (.own false 5 1 v.root.length (bytesV v.root)) := by subst hi; exact at_get hdO hdO6 d v r (j := 4) (by decide)
theorem hdsO_set4 {i : Nat} {d : List Hd} (hi : i = d.length) (v : Hd) (r : List Hd) {m : Nat} (b : List UInt8) (hm : m = b.length) : (hdsO (d ++ v :: r)).set (i * 6 + 4) (.own false 5 1 m (bytesV b)) = hdsO (d ++ ⟨v.par, v.hgt, v.tim, v.zer, b, v.non⟩ :: r) := by subst hi; subst hm; exact at_set hdO hdO6 d v r ⟨v.par, v.hgt, v.tim, v.zer, b, v.non⟩ (j := 4) (by decide) rfl
theorem hdsS_at5 {i : Nat} {d : List Hd} (hi : i = d.length) (v : Hd) (r : List Hd) : (hdsS (d ++ v :: r))[i * 6 + 1 + 1 + 1 + 1 + 1]? = some (.int .i64 v.non) := by subst hi; exact at_get hdS hdS6 d v r (j := 5) (by decide)
theorem hdsS_at5n {i : Nat} {d : List Hd} (hi : i = d.length) (v : Hd) (r : List Hd) : (hdsS (d ++ v :: r))[i * 6 + 5]? = some (.int .i64 v.non) := by subst hi; exact at_get hdS hdS6 d v r (j := 5) (by decide)
theorem hdsO_set5 {i : Nat} {d : List Hd} (hi : i = d.length) (v : Hd) (r : List Hd) (n : Int) : splice (hdsO (d ++ v :: r)) (i * 6 + 5) [.int .i64 n] = hdsO (d ++ ⟨v.par, v.hgt, v.tim, v.zer, v.root, n⟩ :: r) := by subst hi; exact at_splice1 hdO hdO6 d v r ⟨v.par, v.hgt, v.tim, v.zer, v.root, n⟩ (j := 5) (by decide) rfl
def noHd : Hd := ⟨[], 0, 0, 0, [], 0⟩
theorem hds_split {l : List Hd} {i : Nat} (h : i < l.length) : l = l.take i ++ l.getD i noHd :: l.drop (i + 1) := by rw [List.getD_eq_getElem?_getD, List.getElem?_eq_getElem h, Option.getD_some, ← List.drop_eq_getElem_cons h, List.take_append_drop]
theorem hdsS_i0 {l : List Hd} {i : Nat} (h : i < l.length) : (hdsS l)[i * 6]? = some (.sl (l.getD i noHd).par.length (bytesV (l.getD i noHd).par)) := by
  have := hdsS_at0 (i := i) (d := l.take i) (by rw [List.length_take]; omega) (l.getD i noHd) (l.drop (i + 1))
  rwa [← hds_split h] at this
theorem hdsS_i1 {l : List Hd} {i : Nat} (h : i < l.length) : (hdsS l)[i * 6 + 1]? = some (.int .i64 (l.getD i noHd).hgt) := by
  have := hdsS_at1 (i := i) (d := l.take i) (by rw [List.length_take]; omega) (l.getD i noHd) (l.drop (i + 1))
  rwa [← hds_split h] at this
theorem hdsS_i2 {l : List Hd} {i : Nat} (h : i < l.length) : (hdsS l)[i * 6 + 1 + 1]? = some (.int .i64 (l.getD i noHd).tim) := by
  have := hdsS_at2 (i := i) (d := l.take i) (by rw [List.length_take]; omega) (l.getD i noHd) (l.drop (i + 1))
  rwa [← hds_split h] at this
theorem hdsS_i2n {l : List Hd} {i : Nat} (h : i < l.length) : (hdsS l)[i * 6 + 2]? = some (.int .i64 (l.getD i noHd).tim) := by
  have := hdsS_at2n (i := i) (d := l.take i) (by rw [List.length_take]; omega) (l.getD i noHd) (l.drop (i + 1))
  rwa [← hds_split h] at this
theorem hdsS_i3 {l : List Hd} {i : Nat} (h : i < l.length) : (hdsS l)[i * 6 + 1 + 1 + 1]? = some (.int .i64 (l.getD i noHd).zer) := by
  have := hdsS_at3 (i := i) (d := l.take i) (by rw [List.length_take]; omega) (l.getD i noHd) (l.drop (i + 1))
  rwa [← hds_split h] at this
theorem hdsS_i3n {l : List Hd} {i : Nat} (h : i < l.length) : (hdsS l)[i * 6 + 3]? = some (.int .i64 (l.getD i noHd).zer) := by
  have := hdsS_at3n (i := i) (d := l.take i) (by rw [List.length_take]; omega) (l.getD i noHd) (l.drop (i + 1))
  rwa [← hds_split h] at this
theorem hdsS_i4 {l : List Hd} {i : Nat} (h : i < l.length) : (hdsS l)[i * 6 + 1 + 1 + 1 + 1]? = some (.sl (l.getD i noHd).root.length (bytesV (l.getD i noHd).root)) := by
  have := hdsS_at4 (i := i) (d := l.take i) (by rw [List.length_take]; omega) (l.getD i noHd) (l.drop (i + 1))
  rwa [← hds_split h] at this
theorem hdsS_i4n {l : List Hd} {i : Nat} (h : i < l.length) : (hdsS l)[i * 6 + 4]? = some (.sl (l.getD i noHd).root.length (bytesV (l.getD i noHd).root)) := by
  have := hdsS_at4n (i := i) (d := l.take i) (by rw [List.length_take]; omega) (l.getD i noHd) (l.drop (i + 1))
  rwa [← hds_split h] at this
theorem hdsS_i5 {l : List Hd} {i : Nat} (h : i < l.length) : (hdsS l)[i * 6 + 1 + 1 + 1 + 1 + 1]? = some (.int .i64 (l.getD i noHd).non) := by
  have := hdsS_at5 (i := i) (d := l.take i) (by rw [List.length_take]; omega) (l.getD i noHd) (l.drop (i + 1))
  rwa [← hds_split h] at this
theorem hdsS_i5n {l : List Hd} {i : Nat} (h : i < l.length) : (hdsS l)[i * 6 + 5]? = some (.int .i64 (l.getD i noHd).non) := by
  have := hdsS_at5n (i := i) (d := l.take i) (by rw [List.length_take]; omega) (l.getD i noHd) (l.drop (i + 1))
  rwa [← hds_split h] at this
/-- The bytes of one. -/
def hdZ (x : Hd) : Nat := x.par.length + x.root.length
def hdM (k : Int) (x : Hd) : Hd := ⟨mkB (k) x.par.length, x.hgt, x.tim, x.zer, mkB (k + x.par.length) x.root.length, x.non⟩
def hdfit (x : Hd) : Prop := hdZ x ≤ 100000000
def hdsfit (l : List Hd) : Prop := l.length ≤ 100000000 ∧ tot hdZ l ≤ 100000000
/-- Marked ones in a row, and how many marks. -/
def hdR (k : Int) (v : Hd) : Hd := ⟨mkB (k) v.par.length, k + v.par.length, k + v.par.length + 1, k + v.par.length + 1 + 1, mkB (k + v.par.length + 1 + 1 + 1) v.root.length, k + v.par.length + 1 + 1 + 1 + v.root.length⟩
def hdC (v : Hd) : Nat := v.par.length + 1 + 1 + 1 + v.root.length + 1
def hdsM : Int → List Hd → List Hd
  | _, [] => []
  | k, v :: l => hdR k v :: hdsM (k + v.par.length + 1 + 1 + 1 + v.root.length + 1) l
theorem hdsM_length : ∀ (l : List Hd) (k : Int), (hdsM k l).length = l.length
  | [], k => rfl
  | v :: l, k => by simp [hdsM, hdsM_length l]
def hdsC (l : List Hd) : Nat := tot hdC l
theorem hdsC_le (l : List Hd) : hdsC l = tot hdZ l + l.length * 4 := by
  induction l with
  | nil => rfl
  | cons v l ih => unfold hdsC at ih ⊢; simp only [tot, ih, hdC, hdZ, List.length_cons]; omega
theorem hdsfit_of {l : List Hd} (h : hdsfit l) {v : Hd} (hv : v ∈ l) : hdfit v := by have := le_tot hdZ hv; have := h.2; unfold hdfit; omega
structure Cl where
  hds : List Hd
  dep : Int
  deriving DecidableEq
theorem hdsC_bound {l : List Hd} (h : hdsfit l) : hdsC l ≤ 500000000 := by rw [hdsC_le]; have := h.1; have := h.2; omega
def hdFault (x : Hd) : Int := if ¬ (x.par.length = 32 ∧ x.root.length = 32) then 1 else if ¬ ((0 ≤ x.hgt ∧ x.hgt ≤ 1000000) ∧ (0 ≤ x.tim ∧ x.tim ≤ 1099511627776) ∧ (0 ≤ x.zer ∧ x.zer ≤ 40) ∧ 0 ≤ x.non ∧ x.non ≤ 2199023255552) then 3 else 0
theorem hdFault_ok {x : Hd} (h : hdFault x = 0) : (x.par.length = 32 ∧ x.root.length = 32) ∧ (0 ≤ x.hgt ∧ x.hgt ≤ 1000000) ∧ (0 ≤ x.tim ∧ x.tim ≤ 1099511627776) ∧ (0 ≤ x.zer ∧ x.zer ≤ 40) ∧ 0 ≤ x.non ∧ x.non ≤ 2199023255552 := by
  unfold hdFault at h
  split at h
  · cases h
  · split at h
    · cases h
    · rename_i h1 h2; exact ⟨Classical.not_not.1 h1, Classical.not_not.1 h2⟩
def hdW (x : Hd) : List (List UInt8) := [x.par, num7 x.hgt, num7 x.tim, num7 x.zer, x.root]
def hdDig (x : Hd) : List UInt8 := sha (packW (hdW x) ++ num7 x.non)
theorem hdDig_length (x : Hd) : (hdDig x).length = 32 := sha_length _
theorem hdW_small {x : Hd} (h1 : x.par.length ≤ 200) (h2 : x.root.length ≤ 200) : small (hdW x) := by
  refine ⟨by simp [hdW], fun w hw => ?_, by simp only [hdW, tot, num7_length, List.length_cons, List.length_nil]; omega⟩
  simp only [hdW, List.mem_cons, List.not_mem_nil, or_false] at hw
  rcases hw with rfl | rfl | rfl | rfl | rfl <;> first | assumption | (rw [num7_length]; omega)
/-! zeros at the beginning -/
def zf (b rest : Nat) : Nat → Nat
  | 0 => rest
  | k + 1 => if b / 2 ^ k % 2 = 1 then 0 else 1 + zf b rest k
def zb (b : Nat) : Nat → Nat
  | 0 => 0
  | k + 1 => if b / 2 ^ k % 2 = 1 then 0 else 1 + zb b k
def an (b : Nat) : Nat → Bool
  | 0 => false
  | k + 1 => decide (b / 2 ^ k % 2 = 1) || an b k
theorem zf_zb (b rest : Nat) : ∀ k, zf b rest k = bif an b k then zb b k else k + rest
  | 0 => by simp [zf, an]
  | k + 1 => by
    simp only [zf, zb, an, zf_zb b rest k]
    by_cases h : b / 2 ^ k % 2 = 1
    · simp [h]
    · simp only [h, decide_false, Bool.false_or, if_false]
      cases an b k <;> simp <;> omega
def len8 (n : Nat) : Nat := if n = 0 then 0 else Nat.log2 n + 1
theorem zb_len : ∀ n < 256, n ≠ 0 → zb n 8 = 8 - len8 n := by decide +kernel
theorem an_all : ∀ n < 256, an n 8 = decide (n ≠ 0) := by decide +kernel
theorem len8_le : ∀ n < 256, len8 n ≤ 8 := by decide +kernel
theorem bit_of : ∀ n : Nat, n < 256 → ∀ k : Nat, k < 8 → (PI.bits IntKind.u8 (fun a b => a &&& b) ((n : Int).fdiv (2 ^ k)) 1 == 1) = decide (n / 2 ^ k % 2 = 1) := by decide +kernel
def tab8 : List UInt8 := (List.range 256).map fun n => UInt8.ofNat (len8 n)
theorem tab8_get : ∀ n < 256, (tab8.getD n 0).toNat = len8 n := by decide +kernel
theorem tab_is (L : List UInt8) (h : L = tab8) {n : Nat} (hn : n < 256) : must (inB (n : Int) 256) (some (V.tup [V.int .i64 (IntKind.i64.wrap ((L.getD (n : Int).toNat 0).toNat : Int))])) = some (V.tup [.int .i64 (len8 n)]) := by
  subst h
  have h8 := len8_le n hn
  have e : inB (n : Int) 256 = true := by simp [inB]; omega
  rw [e, must_true, Int.toNat_natCast, tab8_get n hn, w64 (by omega) (by omega)]
def zeros : List UInt8 → Nat
  | [] => 0
  | b :: r => zf b.toNat (zeros r) 8
theorem zeros_cons (b : UInt8) (r : List UInt8) : zeros (b :: r) = if b.toNat = 0 then 8 + zeros r else 8 - len8 b.toNat := by
  have hb := b.toNat_lt
  rw [zeros, zf_zb, an_all _ hb]
  by_cases h : b.toNat = 0
  · simp [h]
  · simp [h, zb_len _ hb h]
theorem zeros_le : ∀ l : List UInt8, zeros l ≤ 8 * l.length
  | [] => by simp [zeros]
  | b :: r => by
    rw [zeros_cons]
    have := zeros_le r
    simp only [List.length_cons]
    split <;> omega
def hard (x : Hd) : Bool := decide (x.zer ≤ (zeros (hdDig x) : Int))
def zer32 : List UInt8 := List.replicate 32 0
def first (x : Hd) : Bool := decide (x.hgt = 0) && (decide (x.zer = 0) && decide (x.par = zer32))
/-- The fault of a head by itself. -/
def hf (x : Hd) : Int := if hdFault x ≠ 0 then hdFault x else bif hard x then 0 else 6
theorem hf_ok {x : Hd} (h : hf x = 0) : hdFault x = 0 := by
  unfold hf at h
  by_cases g : hdFault x = 0
  · exact g
  · rw [if_pos g] at h; exact absurd h g
end Go.PI.Cli
