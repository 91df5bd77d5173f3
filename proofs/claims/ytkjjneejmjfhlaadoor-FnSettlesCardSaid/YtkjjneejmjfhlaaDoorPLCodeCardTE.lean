/-
  FnSettles: for every input the call returns true, and the argument reads behind it as it read before; the tables that its row lists are tied to the program's text. No condition.
-/
import Derived.Test.YtkjjneejmjfhlaaDoorPLSettle2TE
import Derived.Test.YtkjjneejmjfhlaaDoorPLTrimTE
import Derived.Test.YtkjjneejmjfhlaaDoorPLInsertTE
import Derived.Test.YtkjjneejmjfhlaaDoorPIEnd
import Derived.Test.YtkjjneejmjfhlaaDoorCards
import Derived.Test.YtkjjneejmjfhlaaDoorTie
import Derived.ProofKit
import Derived.LaidMore
import Derived.OpenShut
import Derived.Lay
import Derived.SevenTiedAt
import Derived.Stop.Joined
namespace Go.Proofs.YtkjjneejmjfhlaaDoor
open Go Go.PI EqE Go.ChangeShapes Go.WideShapes Go.ChangeAt Go.RowKit
set_option linter.unusedVariables false

theorem args_told (xs : List V) (h : TyAs C 5 [22] xs) : ∃ code : List UInt8, xs = [.sl code.length (bytesV code)] ∧ code.length ≤ 9223372036854775807 := by
  simp only [TyAs] at h
  obtain ⟨x, r, rfl, ⟨cs, hx, hxa⟩, rfl⟩ := h
  have t25 : C.ty 22 = some ⟨.slice 5, 1, 24, false, [.sl], [.slice none 0 0]⟩ := rfl
  have t5 : C.ty 5 = some ⟨.int .u8, 1, 1, false, [.int .u8], [.int .u8 0]⟩ := rfl
  rw [t25] at hxa
  have hm : Go.maxLen = 9223372036854775807 := rfl
  rcases hxa with ⟨h, _⟩ | ⟨_, rfl⟩
  · cases h
  · obtain ⟨r1, e1, l1⟩ := ty_bytes t25 rfl t5 rfl hx
    refine ⟨r1, ?_, by omega⟩
    simp only [List.cons.injEq, and_true] at e1
    rw [e1]
theorem tab_ok : CfgOk2 Tryd.prog tabE.cfg := tabE.ok (by kernel_rfl) (by kernel_rfl) (by kernel_rfl) (by kernel_rfl) (fun p hp => by
  have e : tabE.prims = [(50, .insert 2), (54, .trim)] := rfl
  rw [e] at hp
  simp only [List.mem_cons, List.not_mem_nil, or_false] at hp
  rcases hp with rfl | rfl
  · exact insert_ok
  · exact trim_ok)

theorem Tryd.own : ownKnob Tryd.prog.godebug = none := by kernel_rfl
theorem Tryd.laidOut : laidOutB Tryd.prog = true := by kernel_rfl
def laidVars : List (String × DataW Unit) := Rows.fnSettlesRow.laid
set_option maxRecDepth 100000 in
theorem law_lifted (os : Os) (started : os.Started) (H : Type) (enc : TypeId × Value → H) :
    ReturnsInHanded {} Tryd.checked os 5 .any (fun w args => (Rows.fnSettlesSpec.pre enc Tryd.prog Tryd.f5 Rows.fnSettlesRow.domain false w args ∧ laidMetH Tryd.prog laidVars w) ∧ sizedMet enc Tryd.prog Tryd.f5 (OpenSpec.ofChange Rows.fnSettlesSpec) false w args)
      (Rows.fnSettlesSpec.post enc Tryd.prog Tryd.f5 false true false false) := by
  refine returnsInHanded_of_change_and (C := Tryd.checked) (X := fun w _ => laidMetH Tryd.prog laidVars w) (fun _ _ _ hh h => h.of_heap hh) Tryd.own started (by kernel_rfl) Tryd.func5
    (ChangeSpec.witness_shaped (enc := enc) (C := Tryd.checked) (os := os) (X := fun w _ => laidMetH Tryd.prog laidVars w) false (World.laidAll Tryd.prog os laidVars)
      #[.slice none 0 0] 8 (World.laidAll_os _ _ _)
      (World.shaped_of_ZipB (by kernel_rfl) (by kernel_rfl)) (by kernel_rfl) (by kernel_rfl) (by kernel_rfl)
      (by rw [MakeChecks.laidMetH_plain _ _ _ (by kernel_rfl)]; exact laidMet_laidAll _ (by kernel_rfl) (by kernel_rfl))) ?_
  intro W base args ds gs before hval0 hW hc _ hL _
  have hval : ∀ (j : Nat) t v, Tryd.f5.params[j]? = some t → args[j]? = some v → Value.okWide Tryd.prog W .any base t v := hval0
  have hW' := hW
  obtain ⟨p, q, hA0, hV, rfl, hfz, hnd⟩ := hW
  have hA : DataW.TrodAll enc Tryd.prog W 0 (fun _ => true) true Tryd.f5.params.toList args.toList ds p := hA0
  rw [Tryd.params5] at hA hval
  have hAk := hA
  obtain ⟨v0, d0, rfl, rfl, h0⟩ := trodAll_one hA
  obtain ⟨rfl, rfl⟩ := trodVars_none hV
  clear hA0 hval0
  obtain ⟨xs, hxs, hr⟩ := open_args (C := C) tab_ok.toCfgOk (d := 5) (base := base) _ _ _ _ (by kernel_rfl) hAk (fun j t v h1 h2 => hval j t v (by simpa using h1) (by simpa using h2))
  simp only [List.append_nil] at hW'
  have hlt : ∀ y ∈ p, y.block < W.heap.size := fun y hy => by simpa using hW'.lt y hy
  have harg0 : ∀ W' : World, Below W.heap.size W W' → DataW.Trod enc Tryd.prog W' 0 (fun b => decide (b < W.heap.size)) true 22 v0 d0 p :=
    fun W' hn => Below.trod Tryd.laidOut (by kernel_rfl) (of_decide_eq_true (by kernel_rfl)) h0 hn (fun y hy => hlt y hy)
  refine (law_callsE (C := C) tab_ok (f := 5) (d := 5) (tb := 4) (fn := Tryd.f5) rfl rfl (ti := ⟨.bool, 1, 1, false, [.bool], [.bool false]⟩) rfl rfl rfl (fun xs hx => by
    obtain ⟨code, rfl, h⟩ := args_told xs hx
    exact Led.c5 code h) hxs hr).mono fun e W' ⟨he, hn⟩ => ?_
  subst he
  exact ⟨_, rfl, _, _, _, [], _, [], hW', trodAll_mk1 (shut_bool Tryd.underlying4 true), trodAll_mk1 (harg0 _ hn), rfl, hn.frame _, fun h => by cases h⟩

theorem law_row : Rows.FnSettlesSaid :=
  OpenClaim.holds_of_wide 5 Tryd.f5 rfl rfl rfl rfl rfl rfl rfl ⟨rfl, rfl, rfl, rfl, rfl⟩ rfl rfl rfl rfl rfl (by kernel_rfl) Tryd.func5 (by kernel_rfl)
    (of_decide_eq_true (by kernel_rfl)) (by unfold Func.isWrapper; first | (rw [if_pos (by decide +kernel)]; kernel_rfl) | (rw [if_neg (by decide +kernel)]; exact ⟨rfl, rfl⟩))
    (fun os started H enc _ => law_lifted os started H enc)
theorem fnSettles_holds : Rows.FnSettlesCardSaid :=
  Claim7.holds_tied_plain_at .later [] [.data, .pinned] true (true, "3befe14769bc51cef14bccf8393d2e1b4314e441c35692f600dd412f80d68da8") false
    law_row (fun _ h => by cases h) (by kernel_rfl) (fun _ h => by cases h) fnSettles_row_tie rfl ⟨rfl, rfl⟩ (by kernel_rfl) rfl
    (fun f fn hf hfn => by
      obtain rfl : f = 5 := Option.some.inj ((show Tryd.prog.funcNamed Tryd.f5.name = some 5 by kernel_rfl).symm.trans hf) |>.symm
      obtain rfl : fn = Tryd.f5 := (Option.some.inj (Tryd.func5.symm.trans hfn)).symm
      exact ⟨by kernel_rfl, fun j t ht => by
        rw [Tryd.params5] at ht
        have hm : t ∈ [22] := by simpa using Array.mem_of_getElem? ht
        have hall : ([22].all fun u => !Tryd.prog.wantsStandIn u) = true := by kernel_rfl
        exact (show Tryd.prog.wantsStandIn t = false by simpa using List.all_eq_true.1 hall t hm)⟩)
    (by kernel_rfl)
#print axioms fnSettles_holds
end Go.Proofs.YtkjjneejmjfhlaaDoor
