/-
  Trees of digests: splits, roots, paths, sides; one-time signatures; told over lists.
-/
import Derived.Test.YtodapaplfjfnlaaGreatPMSet
namespace Go.PI.Tree
open Go Go.PI Go.PI.Sha Go.PI.Rel Go.PI.Nest Go.PI.Tru Go.PI.Set
set_option linter.unusedVariables false
def noneTag : List UInt8 := [110, 111, 110, 101]
def leafTag : List UInt8 := [108, 101, 97, 102]
def nodeTag : List UInt8 := [110, 111, 100, 101]
def keyTag : List UInt8 := [107, 101, 121]
def stepTag : List UInt8 := [115, 116, 101, 112]
def msgTag : List UInt8 := [109, 101, 115, 115, 97, 103, 101]
def dg (t d : List UInt8) : List UInt8 := sha (tagW t d)
theorem dg_length (t d : List UInt8) : (dg t d).length = 32 := sha_length _
def spl : Nat → Nat → Nat → Nat
  | 0, m, n => m
  | f + 1, m, n => if 2 * m < n then spl f (2 * m) n else m
def split (n : Nat) : Nat := spl n 1 n
theorem spl_bounds : ∀ (f m n : Nat), 0 < m → m < n → 0 < spl f m n ∧ spl f m n < n
  | 0, m, n, h0, h => ⟨h0, h⟩
  | f + 1, m, n, h0, h => by
    unfold spl
    split
    · exact spl_bounds f (2 * m) n (by omega) (by omega)
    · exact ⟨h0, h⟩
theorem split_pos {n : Nat} (h : 2 ≤ n) : 0 < split n := (spl_bounds n 1 n (by omega) (by omega)).1
theorem split_lt {n : Nat} (h : 2 ≤ n) : split n < n := (spl_bounds n 1 n (by omega) (by omega)).2
def rootF : Nat → List (List UInt8) → List UInt8
  | 0, _ => []
  | f + 1, l => if l.length = 0 then dg noneTag [] else if l.length = 1 then dg leafTag (l.getD 0 []) else dg nodeTag (rootF f (l.take (split l.length)) ++ rootF f (l.drop (split l.length)))
def root (l : List (List UInt8)) : List UInt8 := rootF (l.length + 1) l
theorem rootF_more : ∀ (f g : Nat) (l : List (List UInt8)), l.length < f → l.length < g → rootF f l = rootF g l
  | 0, _, _, h, _ => by omega
  | _ + 1, 0, _, _, h => by omega
  | f + 1, g + 1, l, h1, h2 => by
    unfold rootF
    by_cases c0 : l.length = 0
    · rw [if_pos c0, if_pos c0]
    by_cases c1 : l.length = 1
    · rw [if_neg c0, if_neg c0, if_pos c1, if_pos c1]
    have hs := split_lt (n := l.length) (by omega)
    have hp := split_pos (n := l.length) (by omega)
    rw [if_neg c0, if_neg c0, if_neg c1, if_neg c1]
    rw [rootF_more f g (l.take (split l.length)) (by rw [List.length_take]; omega) (by rw [List.length_take]; omega), rootF_more f g (l.drop (split l.length)) (by rw [List.length_drop]; omega) (by rw [List.length_drop]; omega)]
theorem rootF_root {f : Nat} {l : List (List UInt8)} (h : l.length < f) : rootF f l = root l := rootF_more f _ l h (by omega)
theorem root_eq (l : List (List UInt8)) : root l = if l.length = 0 then dg noneTag [] else if l.length = 1 then dg leafTag (l.getD 0 []) else dg nodeTag (root (l.take (split l.length)) ++ root (l.drop (split l.length))) := by
  show rootF (l.length + 1) l = _
  unfold rootF
  by_cases c0 : l.length = 0
  · rw [if_pos c0, if_pos c0]
  by_cases c1 : l.length = 1
  · rw [if_neg c0, if_neg c0, if_pos c1, if_pos c1]
  have hs := split_lt (n := l.length) (by omega)
  have hp := split_pos (n := l.length) (by omega)
  rw [if_neg c0, if_neg c0, if_neg c1, if_neg c1, rootF_root (by rw [List.length_take]; omega), rootF_root (by rw [List.length_drop]; omega)]
theorem root_length (l : List (List UInt8)) : (root l).length = 32 := by
  rw [root_eq]
  split
  · exact dg_length _ _
  · split <;> exact dg_length _ _
def pathF : Nat → List (List UInt8) → Nat → List (List UInt8)
  | 0, _, _ => []
  | f + 1, l, k => if l.length = 1 then [] else if k < split l.length then pathF f (l.take (split l.length)) k ++ [root (l.drop (split l.length))] else pathF f (l.drop (split l.length)) (k - split l.length) ++ [root (l.take (split l.length))]
def path (l : List (List UInt8)) (k : Nat) : List (List UInt8) := pathF l.length l k
theorem pathF_more : ∀ (f g : Nat) (l : List (List UInt8)) (k : Nat), 0 < l.length → l.length ≤ f → l.length ≤ g → pathF f l k = pathF g l k
  | 0, _, _, _, h0, h, _ => by omega
  | _ + 1, 0, _, _, h0, _, h => by omega
  | f + 1, g + 1, l, k, h0, h1, h2 => by
    unfold pathF
    by_cases c1 : l.length = 1
    · rw [if_pos c1, if_pos c1]
    have hs := split_lt (n := l.length) (by omega)
    have hp := split_pos (n := l.length) (by omega)
    rw [if_neg c1, if_neg c1]
    rw [pathF_more f g (l.take (split l.length)) k (by rw [List.length_take]; omega) (by rw [List.length_take]; omega) (by rw [List.length_take]; omega), pathF_more f g (l.drop (split l.length)) _ (by rw [List.length_drop]; omega) (by rw [List.length_drop]; omega) (by rw [List.length_drop]; omega)]
theorem path_eq {l : List (List UInt8)} (k : Nat) (h : 0 < l.length) : path l k = if l.length = 1 then [] else if k < split l.length then path (l.take (split l.length)) k ++ [root (l.drop (split l.length))] else path (l.drop (split l.length)) (k - split l.length) ++ [root (l.take (split l.length))] := by
  obtain ⟨n, hn⟩ : ∃ n, l.length = n + 1 := ⟨l.length - 1, by omega⟩
  show pathF l.length l k = _
  rw [hn]
  unfold pathF
  rw [hn]
  by_cases c1 : n + 1 = 1
  · rw [if_pos c1, if_pos c1]
  have hs := split_lt (n := n + 1) (by omega)
  have hp := split_pos (n := n + 1) (by omega)
  rw [if_neg c1, if_neg c1]
  have e1 : pathF n (l.take (split (n + 1))) k = path (l.take (split (n + 1))) k := pathF_more _ _ _ _ (by rw [List.length_take]; omega) (by rw [List.length_take]; omega) (Nat.le_refl _)
  have e2 : pathF n (l.drop (split (n + 1))) (k - split (n + 1)) = path (l.drop (split (n + 1))) (k - split (n + 1)) := pathF_more _ _ _ _ (by rw [List.length_drop]; omega) (by rw [List.length_drop]; omega) (Nat.le_refl _)
  rw [e1, e2]
theorem pathF_words : ∀ (f : Nat) (l : List (List UInt8)) (k : Nat), (pathF f l k).length ≤ f ∧ ∀ w ∈ pathF f l k, w.length = 32
  | 0, l, k => by simp [pathF]
  | f + 1, l, k => by
    unfold pathF
    split
    · simp
    · split
      · have := pathF_words f (l.take (split l.length)) k
        refine ⟨by simp; omega, fun w hw => ?_⟩
        rcases List.mem_append.1 hw with hw | hw
        · exact this.2 w hw
        · rw [List.mem_singleton.1 hw]; exact root_length _
      · have := pathF_words f (l.drop (split l.length)) (k - split l.length)
        refine ⟨by simp; omega, fun w hw => ?_⟩
        rcases List.mem_append.1 hw with hw | hw
        · exact this.2 w hw
        · rw [List.mem_singleton.1 hw]; exact root_length _
def climb (x : List UInt8) : Nat → List UInt8
  | 0 => x
  | n + 1 => climb (dg stepTag x) n
theorem climb_length {x : List UInt8} (h : x.length = 32) : ∀ n, (climb x n).length = 32
  | 0 => h
  | n + 1 => climb_length (dg_length _ _) n
def secr (seed : List UInt8) (leaf chain : Nat) : List UInt8 := dg keyTag (seed ++ [b8 (leaf : Int), b8 (chain : Int)])
theorem secr_length (seed : List UInt8) (leaf chain : Nat) : (secr seed leaf chain).length = 32 := dg_length _ _
def endsF (seed : List UInt8) (leaf : Nat) : Nat → Nat → List UInt8
  | 0, _ => []
  | n + 1, c => climb (secr seed leaf c) 3 ++ endsF seed leaf n (c + 1)
theorem endsF_length (seed : List UInt8) (leaf : Nat) : ∀ (n c : Nat), (endsF seed leaf n c).length = 32 * n
  | 0, _ => rfl
  | n + 1, c => by simp only [endsF, List.length_append, climb_length (secr_length _ _ _), endsF_length seed leaf n, Nat.mul_succ]; omega
def pubLeaf (seed : List UInt8) (leaf : Nat) : List UInt8 := endsF seed leaf 19 0
theorem pubLeaf_length (seed : List UInt8) (leaf : Nat) : (pubLeaf seed leaf).length = 608 := endsF_length _ _ _ _
def leavesF (seed : List UInt8) : Nat → Nat → List (List UInt8)
  | 0, _ => []
  | n + 1, c => pubLeaf seed c :: leavesF seed n (c + 1)
theorem leavesF_length (seed : List UInt8) : ∀ (n c : Nat), (leavesF seed n c).length = n
  | 0, _ => rfl
  | n + 1, c => by simp [leavesF, leavesF_length seed n]
theorem leavesF_words (seed : List UInt8) : ∀ (n c : Nat), ∀ w ∈ leavesF seed n c, w.length = 608
  | 0, _, w, h => by simp [leavesF] at h
  | n + 1, c, w, h => by
    simp only [leavesF, List.mem_cons] at h
    rcases h with h | h
    · rw [h]; exact pubLeaf_length _ _
    · exact leavesF_words seed n (c + 1) w h
def leaves (seed : List UInt8) : List (List UInt8) := leavesF seed 4 0
theorem leaves_length (seed : List UInt8) : (leaves seed).length = 4 := leavesF_length _ _ _
def dig (b : UInt8) (s : Nat) : Nat := b.toNat / 2 ^ s % 4
theorem dig_lt (b : UInt8) (s : Nat) : dig b s < 4 := Nat.mod_lt _ (by decide)
theorem dig_ball : ∀ n : Nat, n < 256 → ∀ j : Nat, j < 4 → IntKind.i64.wrap (PI.bits IntKind.u8 (fun x1 x2 => x1 &&& x2) ((n : Int).fdiv (2 ^ min (2 * j) 8)) 3) = ((n / 2 ^ (2 * j) % 4 : Nat) : Int) := by decide +kernel
theorem dig_bits (b : UInt8) (j : Nat) (h : j < 4) : IntKind.i64.wrap (PI.bits IntKind.u8 (fun x1 x2 => x1 &&& x2) ((b.toNat : Int).fdiv (2 ^ min (2 * j) 8)) 3) = (dig b (2 * j) : Int) := dig_ball b.toNat b.toNat_lt j h
def dig4 (b : UInt8) : List Nat := [dig b 6, dig b 4, dig b 2, dig b 0]
def digsum : List Nat → Nat
  | [] => 0
  | d :: r => 3 - d + digsum r
theorem digsum_append : ∀ (a b : List Nat), digsum (a ++ b) = digsum a + digsum b
  | [], b => by simp [digsum]
  | x :: a, b => by simp only [List.cons_append, digsum, digsum_append a b]; omega
theorem digsum_le : ∀ (l : List Nat), digsum l ≤ 3 * l.length
  | [] => by simp [digsum]
  | d :: r => by have := digsum_le r; simp only [digsum, List.length_cons]; omega
def topDigits (m : List UInt8) : List Nat := ((dg msgTag m).take 4).flatMap dig4
theorem dig4s_length : ∀ l : List UInt8, (l.flatMap dig4).length = 4 * l.length
  | [] => rfl
  | b :: l => by rw [List.flatMap_cons, List.length_append, dig4s_length l, List.length_cons]; simp [dig4]; omega
theorem topDigits_length (m : List UInt8) : (topDigits m).length = 16 := by
  unfold topDigits
  rw [dig4s_length, List.length_take, dg_length]; rfl
def digits (m : List UInt8) : List Nat := topDigits m ++ [digsum (topDigits m) / 16, digsum (topDigits m) / 4 % 4, digsum (topDigits m) % 4]
theorem digits_length (m : List UInt8) : (digits m).length = 19 := by simp [digits, topDigits_length]
theorem dig4s_lt : ∀ l : List UInt8, ∀ d ∈ l.flatMap dig4, d < 4
  | [], d, h => by simp at h
  | b :: l, d, h => by
    rw [List.flatMap_cons] at h
    rcases List.mem_append.1 h with h | h
    · simp only [dig4, List.mem_cons, List.not_mem_nil, or_false] at h
      rcases h with h | h | h | h <;> (rw [h]; exact dig_lt _ _)
    · exact dig4s_lt l d h
theorem digits_lt (m : List UInt8) : ∀ d ∈ digits m, d < 4 := fun d h => by
  have hs := digsum_le (topDigits m)
  rw [topDigits_length] at hs
  unfold digits at h
  rcases List.mem_append.1 h with h | h
  · exact dig4s_lt _ d h
  · simp only [List.mem_cons, List.not_mem_nil, or_false] at h
    rcases h with h | h | h <;> omega
def partsF (seed : List UInt8) (leaf : Nat) : List Nat → Nat → List (List UInt8)
  | [], _ => []
  | d :: r, c => climb (secr seed leaf c) d :: partsF seed leaf r (c + 1)
theorem partsF_words (seed : List UInt8) (leaf : Nat) : ∀ (l : List Nat) (c : Nat), (partsF seed leaf l c).length = l.length ∧ ∀ w ∈ partsF seed leaf l c, w.length = 32
  | [], c => by simp [partsF]
  | d :: r, c => by
    have := partsF_words seed leaf r (c + 1)
    refine ⟨by simp [partsF, this.1], fun w hw => ?_⟩
    simp only [partsF, List.mem_cons] at hw
    rcases hw with h | hw
    · rw [h]; exact climb_length (secr_length _ _ _) _
    · exact this.2 w hw
def gE (n : Nat) : List V := [.int .i64 (n : Int)]
def gV (l : List Nat) : List V := l.flatMap gE
theorem gV_at {i : Nat} {d : List Nat} (hi : i = d.length) (v : Nat) (r : List Nat) : (gV (d ++ v :: r))[i]? = some (.int .i64 (v : Int)) := by
  subst hi
  have := at_get gE (sz := 1) (fun _ => rfl) d v r (j := 0) (by decide)
  simpa [gV, gE] using this
theorem gV_flat (l : List Nat) : (gV l).all flatV = true := by
  induction l with
  | nil => rfl
  | cons a l ih => unfold gV at ih ⊢; rw [List.flatMap_cons, List.all_append, ih]; rfl
theorem gV_append (a b : List Nat) : gV (a ++ b) = gV a ++ gV b := by simp [gV]
theorem psS_tk (l : List (List UInt8)) (n : Nat) : (psS l).take n = psS (l.take n) := by
  have := rows_take (fun b => [bS b]) (sz := 1) (fun _ => rfl) n l
  simpa [psS] using this
theorem psS_dp (l : List (List UInt8)) (n : Nat) : ((psS l).drop n).take (l.length - n) = psS (l.drop n) := by
  have := rows_drop (fun b => [bS b]) (sz := 1) (fun _ => rfl) n l
  have e : (psS l).drop n = psS (l.drop n) := by simpa [psS] using this
  rw [e, List.take_of_length_le (by rw [psS_length, List.length_drop]; exact Nat.le_refl _)]
theorem psO_snoc' (d : List (List UInt8)) (v : List UInt8) {n : Nat} (h : v.length = n) : psO d ++ [V.own false 5 1 n (bytesV v)] = psO (d ++ [v]) := by
  subst h; exact psO_snoc d v
end Go.PI.Tree
