/-
  The ledger, told over lists and numbers: what both forms of it come to.
-/
import Derived.Test.YtkjjneejmjfhlaaDoorPIWords
import Derived.Test.YtkjjneejmjfhlaaDoorPITab
namespace Go.PI.Led
open Go Go.PI
set_option linter.unusedVariables false

def ints (l : List Int) : List V := l.map (V.int .i64)
@[simp] theorem ints_length (l : List Int) : (ints l).length = l.length := by simp [ints]
@[simp] theorem ints_flat (l : List Int) : (ints l).all flatV = true := by simp [ints, flatV]
theorem ints_nil : ints [] = [] := rfl
theorem ints_append (a b : List Int) : ints (a ++ b) = ints a ++ ints b := by simp [ints]
theorem ints_cons (a : Int) (b : List Int) : ints (a :: b) = .int .i64 a :: ints b := rfl
theorem ints_take (n : Nat) (l : List Int) : (ints l).take n = ints (l.take n) := by simp [ints, List.map_take]
theorem ints_drop (n : Nat) (l : List Int) : (ints l).drop n = ints (l.drop n) := by simp [ints, List.map_drop]
theorem ints_get {l : List Int} {i : Nat} (h : i < l.length) : (ints l)[i]? = some (.int .i64 l[i]) := by simp [ints, h]
theorem ints_getD {l : List Int} {i : Nat} (h : i < l.length) : (ints l)[i]? = some (.int .i64 (l.getD i 0)) := by simp [ints, h]
theorem ints_set {l : List Int} {i : Nat} (h : i < l.length) (b : Int) : splice (ints l) i [.int .i64 b] = ints (l.set i b) := by
  rw [ints, List.set_eq_take_append_cons_drop, if_pos h]
  simp [splice, List.map_take, List.map_drop, ints]
theorem ints_reps (n : Nat) : reps n [.int .i64 0] = ints (List.replicate n 0) := by
  rw [reps_one]; simp [ints]
/-- What a mark leaves. -/
def mkN (k : Int) (l : List Int) : List Int := (List.range l.length).map fun (i : Nat) => k + (i : Int)
@[simp] theorem mkN_length (k : Int) (l : List Int) : (mkN k l).length = l.length := by simp [mkN]
theorem mkN_get {k : Int} {l : List Int} {i : Nat} (h : i < (mkN k l).length) : (mkN k l)[i] = k + (i : Int) := by simp [mkN]

def isKind (k : Int) : Prop := k = 1 ∨ k = 2
instance (k : Int) : Decidable (isKind k) := by unfold isKind; infer_instance
def isCoins (n : Int) : Prop := 0 ≤ n ∧ n ≤ 1000000000000000
instance (k : Int) : Decidable (isCoins k) := by unfold isCoins; infer_instance
def goodC (c : UInt8) : Bool := (decide (97 ≤ c.toNat) && decide (c.toNat ≤ 122)) || (decide (48 ≤ c.toNat) && decide (c.toNat ≤ 57))
def evFault (k n a : Int) (to : ByteArray) : Int :=
  if ¬ isKind k then 1
  else if ¬ ((1 ≤ n ∧ n ≤ 1000000) ∧ (1 ≤ a ∧ a ≤ 1000000000)) then 3
  else if ¬ (1 ≤ to.size ∧ to.size ≤ 12) then 5
  else if to.data.toList.all goodC then 0 else 5
def okAt (d : List Int) (i : Nat) : Bool := decide ((1 ≤ d.getD i 0 ∧ d.getD i 0 ≤ 1000000) ∧ (i = 0 ∨ d.getD (i - 1) 0 < d.getD i 0))
def okFrom (d : List Int) : Nat → Nat → Bool
  | 0, _ => true
  | n + 1, i => okAt d i && okFrom d n (i + 1)
def held (k s t : Int) : Int := if k = 1 then s - t else t - s
def ledFault (k s t n : Int) (d : List Int) (c : Int) : Int :=
  if ¬ isKind k then 1
  else if ¬ (isCoins s ∧ isCoins t ∧ isCoins c ∧ (1 ≤ n ∧ n ≤ 1000001)) then 3
  else if 60 < d.length then 2
  else if okFrom d d.length 0 = false then 1
  else if ¬ (0 ≤ held k s t ∧ held k s t ≤ c) then 1 else 0
theorem ledFault_ok {k s t n : Int} {d : List Int} {c : Int} (h : ledFault k s t n d c = 0) : isKind k ∧ (isCoins s ∧ isCoins t ∧ isCoins c ∧ (1 ≤ n ∧ n ≤ 1000001)) ∧ d.length ≤ 60 ∧ okFrom d d.length 0 = true ∧ (0 ≤ held k s t ∧ held k s t ≤ c) := by
  unfold ledFault at h
  by_cases h1 : isKind k
  · by_cases h2 : isCoins s ∧ isCoins t ∧ isCoins c ∧ (1 ≤ n ∧ n ≤ 1000001)
    · by_cases h3 : 60 < d.length
      · simp [h1, h2, h3] at h
      · cases h4 : okFrom d d.length 0
        · simp [h1, h2, h3, h4] at h
        · by_cases h5 : 0 ≤ held k s t ∧ held k s t ≤ c
          · exact ⟨h1, h2, by omega, rfl, h5⟩
          · simp [h1, h2, h3, h4, h5] at h
    · simp [h1, h2] at h
  · simp [h1] at h
theorem evFault_ok {k n a : Int} {to : ByteArray} (h : evFault k n a to = 0) : isKind k ∧ ((1 ≤ n ∧ n ≤ 1000000) ∧ (1 ≤ a ∧ a ≤ 1000000000)) ∧ (1 ≤ to.size ∧ to.size ≤ 12) ∧ to.data.toList.all goodC = true := by
  unfold evFault at h
  by_cases h1 : isKind k
  · by_cases h2 : (1 ≤ n ∧ n ≤ 1000000) ∧ (1 ≤ a ∧ a ≤ 1000000000)
    · by_cases h3 : 1 ≤ to.size ∧ to.size ≤ 12
      · by_cases h4 : to.data.toList.all goodC = true
        · exact ⟨h1, h2, h3, h4⟩
        · simp [h1, h2, h3, h4] at h
      · simp [h1, h2, h3] at h
    · simp [h1, h2] at h
  · simp [h1] at h
/-- The code of sending. -/
def sendCode (k s t n : Int) (d : List Int) (c a : Int) (to : ByteArray) : Int :=
  if ledFault k s t n d c ≠ 0 then ledFault k s t n d c
  else if evFault k n a to ≠ 0 then evFault k n a to
  else if (if k = 1 then held k s t + a ≤ c else a ≤ held k s t) ∧ s + a ≤ 1000000000000000 then 0 else 3
/-- A result's cells: the code, the ledger, the event. 'mk': how its slice stands. -/
def ledRes (mk : Nat → List V → V) (e : Int) (k s t n : Int) (d : List Int) (c : Int) (p : Bool) (ek en ea : Int) (eto : ByteArray) : List V :=
  [.int .i64 e, .int .i64 k, .int .i64 s, .int .i64 t, .int .i64 n, mk d.length (ints d), .int .i64 c, .bool p, .int .i64 ek, .int .i64 en, .int .i64 ea, .str eto]
def sendRes (mk : Nat → List V → V) (k s t n : Int) (d : List Int) (c : Int) (p : Bool) (a : Int) (to : ByteArray) : List V :=
  if sendCode k s t n d c a to = 0 then ledRes mk 0 k (s + a) t (n + 1) d c p k n a to
  else ledRes mk (sendCode k s t n d c a to) 0 0 0 0 [] 0 false 0 0 0 ⟨#[]⟩
theorem dw_nil (p : UInt8 → Bool) : ∀ l : List UInt8, l.dropWhile p = [] ↔ ∀ x ∈ l, p x = true
  | [] => by simp
  | a :: l => by
    rw [List.dropWhile_cons]
    cases h : p a with
    | true => simp [h, dw_nil p l]
    | false => simp [h]
/-- In trimmed text nothing is left just where all of it is of the set. -/
theorem trim_nil (l cs : List UInt8) : (trimL l cs = []) ↔ l.all (cs.contains ·) = true := by
  unfold trimL
  constructor
  · intro h
    rw [dw_nil] at h
    have h2 : ∀ x ∈ l.reverse.dropWhile (cs.contains ·), cs.contains x = true := fun x hx => h x (by simpa using hx)
    have h3 : l.reverse.dropWhile (cs.contains ·) = [] := by
      cases hd : l.reverse.dropWhile (cs.contains ·) with
      | nil => rfl
      | cons y r =>
        have h4 := h2 y (by rw [hd]; simp)
        have h5 := List.head_dropWhile_not (cs.contains ·) (l := l.reverse) (by rw [hd]; simp)
        simp only [hd, List.head_cons] at h5
        rw [h4] at h5; cases h5
    rw [dw_nil] at h3
    rw [List.all_eq_true]
    exact fun x hx => h3 x (by simpa using hx)
  · intro h
    rw [List.all_eq_true] at h
    have : l.reverse.dropWhile (cs.contains ·) = [] := by
      rw [dw_nil]; exact fun x hx => h x (by simpa using hx)
    rw [this]; rfl
def nameSet : List UInt8 := [97, 98, 99, 100, 101, 102, 103, 104, 105, 106, 107, 108, 109, 110, 111, 112, 113, 114, 115, 116, 117, 118, 119, 120, 121, 122, 48, 49, 50, 51, 52, 53, 54, 55, 56, 57]
theorem nameSet_good (c : UInt8) : nameSet.contains c = goodC c := by
  have h : ∀ n : _root_.Fin 256, nameSet.contains (UInt8.ofNat n.val) = goodC (UInt8.ofNat n.val) := by decide +kernel
  have := h ⟨c.toNat, c.toNat_lt⟩
  simpa using this
theorem trim_name (l : List UInt8) : (trimL l nameSet = []) ↔ l.all goodC = true := by
  rw [trim_nil]
  have : (nameSet.contains ·) = goodC := by funext c; exact nameSet_good c
  rw [this]
end Go.PI.Led
