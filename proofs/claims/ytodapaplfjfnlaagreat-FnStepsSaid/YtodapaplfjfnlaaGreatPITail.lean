/-
  PI: a region whose order is drawn: cells that are written at the region's end alone.
-/
import Derived.Test.YtodapaplfjfnlaaGreatPIDraw2
import Derived.OrdersHeld
namespace Go.PI
open Go
set_option linter.unusedVariables false
set_option linter.unusedSimpArgs false
section
variable {P : Program} {ops : Array Oper} {Q : Exit → Act → World → Prop} {S : World → Prop} {T : Nat → Bool}
def wpTail (P : Program) (ops : Array Oper) (Q : Exit → Act → World → Prop) (S : World → Prop) (T : Nat → Bool) : Nat → Array Bool → Act → World → Prop
  | 0, l, a, w => Region.ready .any ops l = [] ∧ Q .normal a w
  | n + 1, l, a, w => (Region.ready .any ops l = [] → Q .normal a w) ∧ ∀ i ∈ Region.ready .any ops l, wpOp P ops Q i (fun a' w' => (T i = false → S w') ∧ wpTail P ops Q S T n (l.setIfInBounds i true) a' w') a w
theorem wpTail_any : ∀ (n : Nat) (l : Array Bool) (a : Act) (w : World), wpTail P ops Q S T n l a w → wpAny P .any ops Q n l a w
  | 0, _, _, _, h => h
  | n + 1, _, _, _, h => ⟨h.1, fun i hi => wpOp_mono (fun a' w' h' => wpTail_any n _ a' w' h'.2) (h.2 i hi)⟩
theorem wpTail_take {i : Nat} {oi : Oper} {v : Value} (hi : ops[i]? = some oi) (hs : Region.noSelect ops = true) (hQ : ∀ c a w, ¬ Q (.panic c) a w)
    (hT : ∀ j oj, ops[j]? = some oj → T j = true → ∃ e ∈ oj.after, Region.binds .any e = true ∧ e.on = i) :
    ∀ (n : Nat) (l : Array Bool) (a : Act) (w : World), Region.free .any ops l i = true → i ∈ Region.ready .any ops l → YieldsIf P ops S oi v a → S w →
      wpTail P ops Q S T n (l.setIfInBounds i true) (a.put oi.dst v) w → wpTail P ops Q S T (n + 1) l a w := by
  have hsel := Region.noSelect_spec hs
  intro n
  induction n with
  | zero =>
    intro l a w hf hr hy hS h
    refine ⟨fun e => by rw [e] at hr; simp at hr, fun j hj => ?_⟩
    by_cases hji : j = i
    · subst hji
      exact hy.wpOp hi hS ⟨fun _ => hS, h⟩
    · have := ready_mono hj hji
      rw [h.1] at this; simp at this
  | succ n ih =>
    intro l a w hf hr hy hS h
    refine ⟨fun e => by rw [e] at hr; simp at hr, fun j hj => ?_⟩
    by_cases hji : j = i
    · subst hji
      exact hy.wpOp hi hS ⟨fun _ => hS, h⟩
    · have h1 := h.2 j (ready_mono hj hji)
      obtain ⟨hun, oj, hoj, hall⟩ := mem_ready.1 hj
      have hil : l.getD i false = false := by
        have h0 := (mem_ready.1 hr).1
        rcases Nat.lt_or_ge i l.size with h' | h'
        · simp [h'] at h0 ⊢; exact h0
        · simp [Array.getElem?_eq_none h']
      have hno : ∀ e ∈ oj.after, Region.binds .any e = true → e.on ≠ i := fun e he hb heq => by
        have := hall e he hb
        rw [heq, hil] at this; cases this
      have hTj : T j = false := by
        cases ht : T j with
        | false => rfl
        | true =>
          obtain ⟨e, he, hb, heq⟩ := hT j oj hoj ht
          exact absurd heq (hno e he hb)
      have hap := Region.free_spec hi hf j oj hoj hji hun hno
      have h2 := wpOp_putIf hoj hap (fun cs b => hsel i oi cs b hi) (fun cs b => hsel j oj cs b hoj) (fun c a w q => (hQ _ _ _ q).elim) hy h1
      refine wpOp_mono ?_ h2
      rintro a' w' ⟨hy', hS', h'⟩
      refine ⟨hS', ih (l.setIfInBounds j true) a' w' ?_ (ready_mono hr (Ne.symm hji)) hy' (hS' hTj) ?_⟩
      ·
        simp only [Region.free, hi, List.all_eq_true, List.mem_range] at hf ⊢
        intro k hk
        have := hf k hk
        simp only [Bool.or_eq_true] at this ⊢
        rcases this with (q | q) | q
        · exact .inl (.inl q)
        · refine .inl (.inr ?_)
          by_cases hjk : j = k
          · subst hjk
            rw [hun] at q; cases q
          · rw [getD_set_ne true hjk]; exact q
        · exact .inr q
      · rw [Array.setIfInBounds_comm _ _ hji]
        exact h'
theorem wpTail_all {rs : List Nat} {n : Nat} {l : Array Bool} {a : Act} {w : World} (hr : Region.ready .any ops l = rs) (hne : rs ≠ [])
    (h : ∀ i ∈ rs, wpOp P ops Q i (fun a' w' => (T i = false → S w') ∧ wpTail P ops Q S T n (l.setIfInBounds i true) a' w') a w) : wpTail P ops Q S T (n + 1) l a w :=
  ⟨fun e => absurd (hr ▸ e) hne, hr ▸ h⟩
theorem wpTail_done {l : Array Bool} {a : Act} {w : World} (hr : Region.ready .any ops l = []) (h : Q .normal a w) : ∀ n, wpTail P ops Q S T n l a w
  | 0 => ⟨hr, h⟩
  | _ + 1 => ⟨fun _ => h, by rw [hr]; simp⟩
theorem wp_region_tail {id : Nat} {a : Act} {w : World} (hm : P.follows .mixedOrders = true) (h : wpTail P ops Q S T ops.size (Array.replicate ops.size false) a { w with drawn := w.drawn + 1 }) : (Code.region id ops true).wp P Q a w :=
  wp_region_any hm (wpTail_any _ _ _ _ h)
end
end Go.PI
