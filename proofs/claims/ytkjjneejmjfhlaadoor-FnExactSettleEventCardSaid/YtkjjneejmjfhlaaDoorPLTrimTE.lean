/-
  strings.Trim at a set of ASCII bytes.
-/
import Derived.Test.YtkjjneejmjfhlaaDoorPITabE
import Derived.Test.YtkjjneejmjfhlaaDoorPMTrimLay
namespace Go.Proofs.YtkjjneejmjfhlaaDoor
open Go Go.PI Go.RowKit
set_option maxHeartbeats 4000000 in
set_option maxRecDepth 1000000 in
theorem trim_ok : PrimOk Tryd.prog tabE.cfg 54 (primOf (tyFind tabE.tys) .trim) := by
  intro α args obs K r N s0 A w vals h hS hN hl
  simp only [primOf, primTrim] at h
  split at h
  · rename_i s c
    obtain ⟨hb, h⟩ := must_some h
    simp only [Bool.and_eq_true, decide_eq_true_eq] at hb
    obtain ⟨h1, h2, h3⟩ := hb
    obtain hvals : vals = #[.string s, .string c] := by
      obtain ⟨l⟩ := vals
      match l, hl with
      | [a, b], hl =>
        simp only [RlL, Rl] at hl
        rw [hl.1, hl.2.1]
    subst hvals
    refine ⟨⟨Tryd.f54, _, Tryd.func54, by decide +kernel, rfl⟩, ?_⟩
    refine Calls.mono (Any.strings_Trim_laid Tryd.trimLay (by kernel_rfl) s c w h1 h2 (ascii_of_all h3)) ?_
    rintro en w' ⟨rfl, hB⟩
    refine ⟨_, rfl, _, _, A, h, hS.grown ⟨hB.os, hB.tape, hB.output, hB.size, fun b hb _ => hB.block b hb⟩, ?_⟩
    simp only [Rl]
    rfl
  · cases h
#print axioms trim_ok
end Go.Proofs.YtkjjneejmjfhlaaDoor
