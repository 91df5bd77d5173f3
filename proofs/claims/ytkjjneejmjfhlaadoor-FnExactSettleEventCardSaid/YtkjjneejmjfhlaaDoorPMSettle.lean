/-
  Settling, told over lists and numbers.
-/
import Derived.Test.YtkjjneejmjfhlaaDoorPMLedger
namespace Go.PI.Led
open Go Go.PI
set_option linter.unusedVariables false
/-- A number on its place in a list that rises. -/
def ins (v : Int) : List Int → List Int
  | [] => [v]
  | a :: l => if a > v then v :: a :: l else a :: ins v l
theorem ins_length (v : Int) : ∀ l : List Int, (ins v l).length = l.length + 1
  | [] => rfl
  | a :: l => by unfold ins; split <;> simp [ins_length v l]
theorem ins_at (v : Int) : ∀ (l : List Int) (k : Nat), k ≤ l.length → (∀ i (h : i < l.length), i < k → l[i] < v) → (∀ i (h : i < l.length), k ≤ i → v < l[i]) → ins v l = l.take k ++ [v] ++ l.drop k
  | [], k, h, _, _ => by
    have : k = 0 := by simpa using h
    subst this; rfl
  | a :: l, 0, _, _, h2 => by
    have := h2 0 (by simp) (Nat.le_refl _)
    simp only [List.getElem_cons_zero] at this
    unfold ins
    rw [if_pos (by omega)]; rfl
  | a :: l, k + 1, h, h1, h2 => by
    have h0 := h1 0 (by simp) (by omega)
    simp only [List.getElem_cons_zero] at h0
    unfold ins
    rw [if_neg (by omega), ins_at v l k (by simpa using h) (fun i hi hk => h1 (i + 1) (Nat.succ_lt_succ hi) (Nat.succ_lt_succ hk)) (fun i hi hk => h2 (i + 1) (Nat.succ_lt_succ hi) (Nat.succ_le_succ hk))]
    rfl
theorem mem_ins (v x : Int) : ∀ l : List Int, x ∈ ins v l ↔ x = v ∨ x ∈ l
  | [] => by simp [ins]
  | a :: l => by
    unfold ins
    split
    · simp
    · simp only [List.mem_cons, mem_ins v x l]
      constructor
      · rintro (h | h | h) <;> simp [h]
      · rintro (h | h | h) <;> simp [h]
/-- A list that rises, with nonces. -/
def Rises (d : List Int) : Prop := d.Pairwise (· < ·) ∧ ∀ x ∈ d, 1 ≤ x ∧ x ≤ 1000000
theorem okFrom_iff (d : List Int) : ∀ n i, okFrom d n i = true ↔ ∀ j, i ≤ j → j < i + n → okAt d j = true
  | 0, i => by simp [okFrom]; intros; omega
  | n + 1, i => by
    rw [okFrom, Bool.and_eq_true, okFrom_iff d n (i + 1)]
    constructor
    · rintro ⟨h1, h2⟩ j hj hj2
      by_cases e : j = i
      · rw [e]; exact h1
      · exact h2 j (by omega) (by omega)
    · exact fun h => ⟨h i (Nat.le_refl _) (by omega), fun j h1 h2 => h j (by omega) (by omega)⟩
theorem rises_iff (d : List Int) : okFrom d d.length 0 = true ↔ Rises d := by
  rw [okFrom_iff]
  constructor
  · intro h
    have h1 : ∀ j (hj : j < d.length), 1 ≤ d[j] ∧ d[j] ≤ 1000000 := fun j hj => by
      have := h j (by omega) (by omega)
      unfold okAt at this
      have := (of_decide_eq_true this).1
      simpa [hj] using this
    have h2 : ∀ j (hj : j + 1 < d.length), d[j] < d[j + 1] := fun j hj => by
      have := h (j + 1) (by omega) (by omega)
      unfold okAt at this
      rcases (of_decide_eq_true this).2 with q | q
      · omega
      · simpa [hj, show j < d.length by omega] using q
    refine ⟨List.pairwise_iff_getElem.2 ?_, fun x hx => ?_⟩
    · intro i j hi hj hij
      induction j with
      | zero => omega
      | succ j ih =>
        by_cases e : i = j
        · subst e; exact h2 i hj
        · exact Int.lt_trans (ih (by omega) (by omega)) (h2 j hj)
    · obtain ⟨j, hj, rfl⟩ := List.getElem_of_mem hx
      exact h1 j hj
  · rintro ⟨h1, h2⟩ j _ hj
    have hj : j < d.length := by omega
    unfold okAt
    refine decide_eq_true ⟨by simpa [hj] using h2 d[j] (List.getElem_mem hj), ?_⟩
    by_cases e : j = 0
    · exact .inl e
    · refine .inr ?_
      have := List.pairwise_iff_getElem.1 h1 (j - 1) j (by omega) hj (by omega)
      simpa [hj, show j - 1 < d.length by omega] using this
theorem ins_pairwise (v : Int) : ∀ l : List Int, l.Pairwise (· < ·) → v ∉ l → (ins v l).Pairwise (· < ·)
  | [], _, _ => by simp [ins]
  | a :: l, h, hv => by
    simp only [List.pairwise_cons] at h
    simp only [List.mem_cons, not_or] at hv
    unfold ins
    split
    · simp only [List.pairwise_cons]
      refine ⟨fun x hx => ?_, h⟩
      rcases List.mem_cons.1 hx with rfl | hx
      · omega
      · have := h.1 x hx; omega
    · simp only [List.pairwise_cons]
      refine ⟨fun x hx => ?_, ins_pairwise v l h.2 hv.2⟩
      rcases (mem_ins v x l).1 hx with rfl | hx
      · omega
      · exact h.1 x hx
theorem ins_rises {v : Int} {d : List Int} (h : Rises d) (hv : v ∉ d) (h1 : 1 ≤ v ∧ v ≤ 1000000) : Rises (ins v d) :=
  ⟨ins_pairwise v d h.1 hv, fun x hx => by
    rcases (mem_ins v x d).1 hx with rfl | hx
    · exact h1
    · exact h.2 x hx⟩
/-- The code of settling. -/
def settleCode (k s t n : Int) (d : List Int) (c : Int) (p : Bool) (ek en ea : Int) (eto : ByteArray) : Int :=
  if ledFault k s t n d c ≠ 0 then ledFault k s t n d c
  else if evFault ek en ea eto ≠ 0 then evFault ek en ea eto
  else if ek = k then 1
  else if p = true then 9
  else if en ∈ d then 7
  else if 60 ≤ d.length then 2
  else if (if k = 2 then held k s t + ea ≤ c else ea ≤ held k s t) ∧ t + ea ≤ 1000000000000000 then 0 else 3
def settleRes (mk : Nat → List V → V) (k s t n : Int) (d : List Int) (c : Int) (p : Bool) (ek en ea : Int) (eto : ByteArray) : List V :=
  if settleCode k s t n d c p ek en ea eto = 0 then ledRes mk 0 k s (t + ea) n (ins en d) c p ek en ea eto
  else ledRes mk (settleCode k s t n d c p ek en ea eto) 0 0 0 0 [] 0 false 0 0 0 ⟨#[]⟩
theorem settle_room {k s t n : Int} {d : List Int} {c a : Int} (h1 : ledFault k s t n d c = 0) (h2 : 1 ≤ a ∧ a ≤ 1000000000) :
    (((0 ≤ held k s (t + a) ∧ held k s (t + a) ≤ c) ∧ isCoins (t + a)) ↔ ((if k = 2 then held k s t + a ≤ c else a ≤ held k s t) ∧ t + a ≤ 1000000000000000)) ∧ IntKind.i64.wrap (held k s (t + a)) = held k s (t + a) ∧ IntKind.i64.wrap (t + a) = t + a ∧ IntKind.i64.wrap (held k s t + a) = held k s t + a := by
  obtain ⟨hk, ⟨hs, ht, hc, hn⟩, _, _, hh⟩ := ledFault_ok h1
  unfold isCoins at hs ht hc ⊢
  unfold held at hh ⊢
  rcases hk with rfl | rfl
  · simp only [if_true, show ¬ (1 : Int) = 2 by decide, if_false] at hh ⊢
    exact ⟨by omega, w64 (by omega) (by omega), w64 (by omega) (by omega), w64 (by omega) (by omega)⟩
  · simp only [if_true, show ¬ (2 : Int) = 1 by decide, if_false] at hh ⊢
    exact ⟨by omega, w64 (by omega) (by omega), w64 (by omega) (by omega), w64 (by omega) (by omega)⟩
/-- What is settled leaves a ledger without a fault. -/
theorem settled_ok {k s t n : Int} {d : List Int} {c : Int} {p : Bool} {ek en ea : Int} {eto : ByteArray} (h : settleCode k s t n d c p ek en ea eto = 0) :
    ledFault k s t n d c = 0 ∧ evFault ek en ea eto = 0 ∧ ek ≠ k ∧ p = false ∧ en ∉ d ∧ d.length < 60 ∧ ledFault k s (t + ea) n (ins en d) c = 0 := by
  unfold settleCode at h
  by_cases h0 : ledFault k s t n d c = 0
  · rw [if_neg (by simp [h0])] at h
    by_cases h1 : evFault ek en ea eto = 0
    · rw [if_neg (by simp [h1])] at h
      by_cases h2 : ek = k
      · rw [if_pos h2] at h; cases h
      · rw [if_neg h2] at h
        by_cases h3 : p = true
        · rw [if_pos h3] at h; cases h
        · rw [if_neg h3] at h
          by_cases h4 : en ∈ d
          · rw [if_pos h4] at h; cases h
          · rw [if_neg h4] at h
            by_cases h5 : 60 ≤ d.length
            · rw [if_pos h5] at h; cases h
            · rw [if_neg h5] at h
              by_cases h6 : (if k = 2 then held k s t + ea ≤ c else ea ≤ held k s t) ∧ t + ea ≤ 1000000000000000
              · refine ⟨h0, h1, h2, by simpa using h3, h4, by omega, ?_⟩
                obtain ⟨_, ⟨hn, ha⟩, _, _⟩ := evFault_ok h1
                obtain ⟨hk, ⟨hs, ht, hc, hn1⟩, hd, hof, hh⟩ := ledFault_ok h0
                obtain ⟨r1, _⟩ := settle_room h0 ha
                have hr := r1.2 h6
                have hri := (rises_iff _).2 (ins_rises ((rises_iff d).1 hof) h4 hn)
                unfold ledFault
                rw [if_neg (fun q => q hk), if_neg (fun q => q ⟨hs, hr.2, hc, hn1⟩), if_neg (by rw [ins_length]; omega), if_neg (by rw [hri]; simp), if_neg (fun q => q hr.1)]
              · rw [if_neg h6] at h; cases h
    · rw [if_pos h1] at h; exact absurd h h1
  · rw [if_pos h0] at h; exact absurd h h0
end Go.PI.Led
