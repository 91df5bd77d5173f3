/-
  FnSteps: for every input the call returns true, and the argument reads behind it as it read before. No condition.
-/
import Derived.Test.YtodapaplfjfnlaaGreatPLStepsTQ
import Derived.Test.YtodapaplfjfnlaaGreatPIEnd
import Derived.Test.YtodapaplfjfnlaaGreatRows
import Derived.ProofKit
namespace Go.Proofs.YtodapaplfjfnlaaGreat
open Go Go.PI EqQ Go.ChangeShapes Go.WideShapes Go.ChangeAt Go.RowKit
set_option linter.unusedVariables false
theorem args_told (xs : List V) (h : TyAs C 5 [22] xs) : ∃ code : List UInt8, xs = [.sl code.length (bytesV code)] ∧ code.length ≤ 9223372036854775807 := by
  simp only [TyAs] at h
  obtain ⟨x, r, rfl, ⟨cs, hx, hxa⟩, rfl⟩ := h
  have t25 : C.ty 22 = some ⟨.slice 5, 1, 24, false, [.sl], [.slice none 0 0]⟩ := rfl
  have t5 : C.ty 5 = some ⟨.int .u8, 1, 1, false, [.int .u8], [.int .u8 0]⟩ := rfl
  rw [t25] at hxa
  have hm : Go.maxLen = 9223372036854775807 := rfl
  rcases hxa with ⟨h, _⟩ | ⟨_, rfl⟩
  · cases h
  · obtain ⟨r1, e1, l1⟩ := ty_bytes t25 rfl t5 rfl hx
    refine ⟨r1, ?_, by omega⟩
    simp only [List.cons.injEq, and_true] at e1
    rw [e1]
theorem tab_ok : CfgOk2 Tryz.prog tabQ.cfg := tabQ.ok (by kernel_rfl) (by kernel_rfl) (by kernel_rfl) (by kernel_rfl) (fun p hp => by
  have e : tabQ.prims = [] := rfl
  rw [e] at hp; cases hp)
theorem Tryz.own : ownKnob Tryz.prog.godebug = none := by kernel_rfl
theorem Tryz.laidOut : laidOutB Tryz.prog = true := by kernel_rfl
set_option maxRecDepth 100000 in
theorem law_lifted (os : Os) (started : os.Started) (H : Type) (enc : TypeId × Value → H) :
    ReturnsInHanded {} Tryz.checked os 7 .any (Rows.fnStepsSpec.pre6 enc Tryz.prog Tryz.f7 Rows.fnStepsRow.domain false) (Rows.fnStepsSpec.post enc Tryz.prog Tryz.f7 false true false false) := by
  refine returnsInHanded_of_change (C := Tryz.checked) Tryz.own started (by kernel_rfl) Tryz.func7
    (ChangeSpec.witness6 (enc := enc) (C := Tryz.checked) false ⟨#[], #[.slice none 0 0], []⟩ 8 (by kernel_rfl) (by kernel_rfl) (by kernel_rfl) (by kernel_rfl)) ?_
  intro W base args ds gs before hval0 hW _ _
  have hval : ∀ (j : Nat) t v, Tryz.f7.params[j]? = some t → args[j]? = some v → Value.okWide Tryz.prog W .any base t v := hval0
  have hW' := hW
  obtain ⟨p, q, hA0, hV, rfl, hfz, hnd⟩ := hW
  have hA : DataW.TrodAll enc Tryz.prog W 0 (fun _ => true) true Tryz.f7.params.toList args.toList ds p := hA0
  rw [Tryz.params7] at hA hval
  have hAk := hA
  obtain ⟨v0, d0, rfl, rfl, h0⟩ := trodAll_one hA
  obtain ⟨rfl, rfl⟩ := trodVars_none hV
  clear hA0 hval0
  obtain ⟨xs, hxs, hr⟩ := open_args (C := C) tab_ok.toCfgOk (d := 5) (base := base) _ _ _ _ (by kernel_rfl) hAk (fun j t v h1 h2 => hval j t v (by simpa using h1) (by simpa using h2))
  simp only [List.append_nil] at hW'
  have hlt : ∀ y ∈ p, y.block < W.heap.size := fun y hy => by simpa using hW'.lt y hy
  have harg0 : ∀ W' : World, Below W.heap.size W W' → DataW.Trod enc Tryz.prog W' 0 (fun b => decide (b < W.heap.size)) true 22 v0 d0 p :=
    fun W' hn => Below.trod Tryz.laidOut (by kernel_rfl) (of_decide_eq_true (by kernel_rfl)) h0 hn (fun y hy => hlt y hy)
  refine (law_callsE (C := C) tab_ok (f := 7) (d := 5) (tb := 4) (fn := Tryz.f7) rfl rfl (ti := ⟨.bool, 1, 1, false, [.bool], [.bool false]⟩) rfl rfl rfl (fun xs hx => by
    obtain ⟨code, rfl, h⟩ := args_told xs hx
    exact Vote.c7 code h) hxs hr).mono fun e W' ⟨he, hn⟩ => ?_
  subst he
  exact ⟨_, rfl, _, _, _, [], _, [], hW', trodAll_mk1 (shut_bool Tryz.underlying4 true), trodAll_mk1 (harg0 _ hn), rfl, hn.frame _, fun h => by cases h⟩
theorem fnSteps_holds : Rows.FnStepsSaid :=
  OpenClaim.holds_of_wide 7 Tryz.f7 rfl rfl rfl rfl rfl rfl rfl ⟨rfl, rfl, rfl, rfl, rfl⟩ rfl rfl rfl rfl rfl (by kernel_rfl) Tryz.func7 (by kernel_rfl)
    (of_decide_eq_true (by kernel_rfl)) (by unfold Func.isWrapper; first | (rw [if_pos (by decide +kernel)]; kernel_rfl) | (rw [if_neg (by decide +kernel)]; exact ⟨rfl, rfl⟩))
    (fun os started H enc _ => law_lifted os started H enc)
#print axioms fnSteps_holds
end Go.Proofs.YtodapaplfjfnlaaGreat
