/-
  FnExactReplayLog: for every input the call returns true, and each argument reads behind it as it read before. No condition.
-/
import Derived.Test.YtkjjneejmjfhlaaPLLog5T5
import Derived.Test.YtkjjneejmjfhlaaPLDeleteT5
import Derived.Test.YtkjjneejmjfhlaaPLGrowT5
import Derived.Test.YtkjjneejmjfhlaaPIEnd
import Derived.Test.YtkjjneejmjfhlaaRows
import Derived.ProofKit
namespace Go.Proofs.Ytkjjneejmjfhlaa
open Go Go.PI Go.PI.Rel Eq5 Go.ChangeShapes Go.WideShapes Go.ChangeAt Go.RowKit
set_option linter.unusedVariables false

theorem log_told (xs : List V) (h : TyAs C 5 [54] xs) : ∃ (a b : List UInt8), xs = [.agg [.sl a.length (bytesV a), .sl b.length (bytesV b)]] ∧ a.length ≤ 9223372036854775807 ∧ b.length ≤ 9223372036854775807 := by
  simp only [TyAs] at h
  obtain ⟨x, r, rfl, ⟨cs, hx, hxa⟩, rfl⟩ := h
  have t24 : C.ty 54 = some ⟨.struct [(0, 25), (1, 25)], 2, 48, true, [.sl, .sl], [.slice none 0 0, .slice none 0 0]⟩ := rfl
  have t25 : C.ty 25 = some ⟨.slice 5, 1, 24, false, [.sl], [.slice none 0 0]⟩ := rfl
  have t5 : C.ty 5 = some ⟨.int .u8, 1, 1, false, [.int .u8], [.int .u8 0]⟩ := rfl
  rw [t24] at hxa
  have hm : Go.maxLen = 9223372036854775807 := rfl
  rcases hxa with ⟨_, rfl⟩ | ⟨h, _⟩
  · have hs := ty_struct t24 rfl hx
    simp only [List.map_cons, List.map_nil, catV] at hs
    obtain ⟨a, b, rfl, ha, a2, b2, rfl, hb, rfl⟩ := hs
    obtain ⟨r1, e1, l1⟩ := ty_bytes t25 rfl t5 rfl ha
    obtain ⟨r2, e2, l2⟩ := ty_bytes t25 rfl t5 rfl hb
    refine ⟨r1, r2, ?_, by omega, by omega⟩
    rw [e1, e2]
    rfl
  · cases h
theorem tab_ok : CfgOk2 Try.prog tab5.cfg := tab5.ok (by kernel_rfl) (by kernel_rfl) (by kernel_rfl) (by kernel_rfl) (fun p hp => by
  have e : tab5.prims = [(72, .grow 5), (83, .delete 52)] := rfl
  rw [e] at hp
  simp only [List.mem_cons, List.not_mem_nil, or_false] at hp
  rcases hp with rfl | rfl
  · exact grow_ok
  · exact delete_ok)

theorem Try.own : ownKnob Try.prog.godebug = none := by kernel_rfl
theorem Try.laidOut : laidOutB Try.prog = true := by kernel_rfl
set_option maxRecDepth 100000 in
theorem replayLog_lifted (os : Os) (started : os.Started) (H : Type) (enc : TypeId × Value → H) :
    ReturnsInHanded {} Try.checked os 5 .any (Rows.fnExactReplayLogSpec.pre6 enc Try.prog Try.f5 Rows.fnExactReplayLogRow.domain false) (Rows.fnExactReplayLogSpec.post enc Try.prog Try.f5 false true false false) := by
  refine returnsInHanded_of_change (C := Try.checked) Try.own started (by kernel_rfl) Try.func5
    (ChangeSpec.witness6 (enc := enc) (C := Try.checked) false ⟨#[], #[.agg #[.slice none 0 0, .slice none 0 0]], []⟩ 8 (by kernel_rfl) (by kernel_rfl) (by kernel_rfl) (by kernel_rfl)) ?_
  intro W base args ds gs before hval0 hW _ _
  have hval : ∀ (j : Nat) t v, Try.f5.params[j]? = some t → args[j]? = some v → Value.okWide Try.prog W .any base t v := hval0
  have hW' := hW
  obtain ⟨p, q, hA0, hV, rfl, hfz, hnd⟩ := hW
  have hA : DataW.TrodAll enc Try.prog W 0 (fun _ => true) true Try.f5.params.toList args.toList ds p := hA0
  rw [Try.params5] at hA hval
  have hAk := hA
  obtain ⟨v0, d0, rfl, rfl, h0⟩ := trodAll_one hA
  obtain ⟨rfl, rfl⟩ := trodVars_none hV
  clear hA0 hval0
  obtain ⟨xs, hxs, hr⟩ := open_args (C := C) tab_ok.toCfgOk (d := 5) (base := base) _ _ _ _ (by kernel_rfl) hAk (fun j t v h1 h2 => hval j t v (by simpa using h1) (by simpa using h2))
  simp only [List.append_nil] at hW'
  have hlt : ∀ y ∈ p, y.block < W.heap.size := fun y hy => by simpa using hW'.lt y hy
  have harg0 : ∀ W' : World, Below W.heap.size W W' → DataW.Trod enc Try.prog W' 0 (fun b => decide (b < W.heap.size)) true 54 v0 d0 p :=
    fun W' hn => Below.trod Try.laidOut (by kernel_rfl) (of_decide_eq_true (by kernel_rfl)) h0 hn (fun y hy => hlt y hy)
  refine (law_callsE (C := C) tab_ok (f := 5) (d := 5) (tb := 4) (fn := Try.f5) rfl rfl (ti := ⟨.bool, 1, 1, false, [.bool], [.bool false]⟩) rfl rfl rfl (fun xs hx => by
    obtain ⟨a, b, rfl, ha, hb⟩ := log_told xs hx
    exact Log.c5 a b ha hb) hxs hr).mono fun e W' ⟨he, hn⟩ => ?_
  subst he
  exact ⟨_, rfl, _, _, _, [], _, [], hW', trodAll_mk1 (shut_bool Try.underlying4 true), trodAll_mk1 (harg0 _ hn), rfl, hn.frame _, fun h => by cases h⟩

theorem replayLog_holds : Rows.FnExactReplayLogSaid :=
  OpenClaim.holds_of_wide 5 Try.f5 rfl rfl rfl rfl rfl rfl rfl ⟨rfl, rfl, rfl, rfl, rfl⟩ rfl rfl rfl rfl rfl (by kernel_rfl) Try.func5 (by kernel_rfl)
    (of_decide_eq_true (by kernel_rfl)) (by unfold Func.isWrapper; first | (rw [if_pos (by decide +kernel)]; kernel_rfl) | (rw [if_neg (by decide +kernel)]; exact ⟨rfl, rfl⟩))
    (fun os started H enc _ => replayLog_lifted os started H enc)
#print axioms replayLog_holds
end Go.Proofs.Ytkjjneejmjfhlaa
