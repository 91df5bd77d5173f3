/-
  slices.Grow at nil: an own row without elements.
-/
import Derived.Test.YtkjjneejmjfhlaaPITab5
import Derived.Shelf.Spec.SlicesGrow
import Derived.Test.YtkjjneejmjfhlaaPMGrowLay
namespace Go.Proofs.Ytkjjneejmjfhlaa
open Go Go.PI Go.Shelf
set_option maxHeartbeats 4000000 in
set_option maxRecDepth 1000000 in
theorem grow_ok : PrimOk Try.prog tab5.cfg 72 (primOf (tyFind tab5.tys) (.grow 5)) := by
  intro α args obs K r N s0 A w vals h hS hN hl
  have ht : tab5.cfg.ty 5 = some ⟨.int .u8, 1, 1, false, [.int .u8], [.int .u8 0]⟩ := rfl
  obtain ⟨i0, z, d, hi0, hi1, hib, hz, hzl, _⟩ := (mkTI_sound (show mkTI Try.prog 5 = some ⟨.int .u8, 1, 1, false, [.int .u8], [.int .u8 0]⟩ by kernel_rfl)).info
  have hi1 : i0.size = 1 := hi1
  have hib : i0.bytes = 1 := hib
  have hzl : z.cells.toList = [.int .u8 0] := hzl
  simp only [primOf, primGrow] at h
  split at h
  · rename_i n
    obtain ⟨te, hte, h2⟩ := need_some h
    obtain ⟨hb, h3⟩ := must_some h2
    clear h h2
    have hte' : tab5.cfg.ty 5 = some te := hte
    rw [ht] at hte'
    have hbt : te.bytes = 1 := by injection hte' with e; rw [← e]
    rw [hbt] at hb
    simp only [Bool.and_eq_true, decide_eq_true_eq] at hb
    obtain ⟨⟨hb1, hb2⟩, hb3⟩ := hb
    obtain ⟨n, rfl⟩ := Int.eq_ofNat_of_zero_le hb1
    obtain hvals : vals = #[.slice none 0 0, .int .i64 n] := by
      obtain ⟨l⟩ := vals
      match l, hl with
      | [a, b], hl =>
        simp only [RlL, Rl] at hl
        rw [hl.1, hl.2.1]
    subst hvals
    have post : ∀ (v' : Value) (w' : World), w.heap.size ≤ w'.heap.size → (∀ b, b < w.heap.size → w'.heap[b]? = w.heap[b]?) → w'.os = w.os → w'.tape = w.tape → w'.output = w.output → (∀ b, blockOf v' = some b → w.heap.size ≤ b) →
        w'.ownsRow 0 5 1 v' 0 [] → ∃ vv, Ending.returned v' = Ending.returned vv ∧ Post tab5.cfg N s0 0 A obs w K r vv w' := by
      intro v' w' q1 q2 q3 q4 q5 q6 q7
      refine ⟨v', rfl, _, _, A ++ [v'], h3, hS.push (Nat.zero_le _) (.row 5 0 [] false) v' w' q1 q2 q3 q4 q5 (fun b hb => ⟨q6 b hb, hN b (q6 b hb)⟩) (Place.of_own q7) (fun t cs sh e => by cases e)
        (fun t n cs sh e => by cases e; exact ⟨_, [], ht, by decide, q7, by simp [RlL], by simp⟩), ?_⟩
      simp only [Rl]
      rw [List.getElem?_append_right (by rw [hS.len]; exact Nat.le_refl _), hS.len]
      simp
    refine ⟨⟨Try.f72, _, Try.func72, by decide +kernel, rfl⟩, ?_⟩
    by_cases e : n = 0
    · subst e
      refine Calls.mono (Any8.slices_Grow_room Try.growB none 0 0 0 w (Nat.le_refl _) (by decide) (by decide) (Nat.le_refl _)) ?_
      rintro en w' ⟨rfl, rfl⟩
      exact post _ _ (Nat.le_refl _) (fun _ _ => rfl) rfl rfl rfl (fun b hb => by simp [blockOf] at hb) ⟨by simp, .inl ⟨rfl, rfl⟩⟩
    · have g1 : ∀ o, w.heap.size ≤ (w.drew.alloc o).heap.size := fun o => by
        show w.heap.size ≤ (w.heap.push o).size
        rw [Array.size_push]; omega
      have g2 : ∀ o b, b < w.heap.size → (w.drew.alloc o).heap[b]? = w.heap[b]? := fun o b hb => heap_alloc_old w.drew o hb
      have g3 : ∀ o, (w.drew.alloc o).heap[w.heap.size]? = some o := fun o => heap_alloc_new w.drew o
      refine Calls.mono (Any8.slices_Grow_grow Try.growB i0 z hi0 hz (by omega) none 0 0 n [] w (Nat.le_refl _) (by omega) (by rw [hib]; omega) (by omega) (by simp) (fun _ => rfl) (fun a ha => by cases ha)) ?_
      rintro en w' ⟨rfl, rfl⟩
      refine post _ _ (g1 _) (g2 _) rfl rfl rfl ?_ ?_
      · intro b hb
        have hb : some w.heap.size = some b := hb
        cases hb; exact Nat.le_refl _
      · refine ⟨rfl, .inr ⟨w.heap.size, grownCap w (0 + n) 0 5, ([] : List Value).toArray ++ Builtin.zeroCells z.cells (0 + n - 0) ++ Builtin.zeroCells z.cells (grownCap w (0 + n) 0 5 - (0 + n)), rfl, Nat.zero_le _, g3 _, Nat.zero_le _, ?_, ?_, ?_⟩⟩
        · exact grownCap_le_maxLen w (0 + n) 0 5 (by unfold maxLen; omega)
        · have hge := grownCap_ge w (0 + n) 0 5
          have hzs : z.cells.size = 1 := by rw [← Array.length_toList, hzl]; rfl
          generalize grownCap w (0 + n) 0 5 = G at hge ⊢
          have hz : ∀ k, (Builtin.zeroCells z.cells k).size = k := fun k => by
            unfold Builtin.zeroCells
            simp [hzs]
          rw [Array.size_append, Array.size_append, hz, hz]
          show 0 + (0 + n - 0) + (G - (0 + n)) = G * 1
          omega
        · rfl
  · cases h
#print axioms grow_ok
end Go.Proofs.Ytkjjneejmjfhlaa
