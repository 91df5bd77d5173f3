/-
  FnExactApplyRecord: for every input the call returns true, and each argument reads behind it as it read before. No condition.
-/
import Derived.Test.YtkjjneejmjfhlaaPLRelay6
import Derived.Test.YtkjjneejmjfhlaaPLDelete
import Derived.Test.YtkjjneejmjfhlaaPIEnd
import Derived.Test.YtkjjneejmjfhlaaRows
import Derived.ProofKit
namespace Go.Proofs.Ytkjjneejmjfhlaa
open Go Go.PI Go.PI.Rel Eq3 Go.ChangeShapes Go.WideShapes Go.ChangeAt Go.RowKit
set_option linter.unusedVariables false

theorem args_told (xs : List V) (h : TyAs C 5 [24, 25] xs) : ∃ (c : Int) (q : List Itm) (rec : List UInt8), xs = [.agg [.int .i64 c, .sl q.length (its q)], .sl rec.length (bytesV rec)] ∧ q.length ≤ 9223372036854775807 := by
  simp only [TyAs] at h
  obtain ⟨x, r, rfl, ⟨cs, hx, hxa⟩, y, r', rfl, ⟨cs', hy, hya⟩, rfl⟩ := h
  have t24 : C.ty 24 = some ⟨.struct [(0, 2), (1, 22)], 2, 32, true, [.int .i64, .sl], [.int .i64 0, .slice none 0 0]⟩ := rfl
  have t25 : C.ty 25 = some ⟨.slice 5, 1, 24, false, [.sl], [.slice none 0 0]⟩ := rfl
  have t5 : C.ty 5 = some ⟨.int .u8, 1, 1, false, [.int .u8], [.int .u8 0]⟩ := rfl
  have t2 : C.ty 2 = some ⟨.int .i64, 1, 8, false, [.int .i64], [.int .i64 0]⟩ := rfl
  have t22 : C.ty 22 = some ⟨.slice 86, 1, 24, false, [.sl], [.slice none 0 0]⟩ := rfl
  have t86 : C.ty 86 = some ⟨.struct [(0, 2), (1, 2), (2, 2)], 3, 24, true, [.int .i64, .int .i64, .int .i64], [.int .i64 0, .int .i64 0, .int .i64 0]⟩ := rfl
  rw [t24] at hxa
  rw [t25] at hya
  rcases hxa with ⟨_, rfl⟩ | ⟨h, _⟩
  · rcases hya with ⟨h, _⟩ | ⟨_, rfl⟩
    · cases h
    · obtain ⟨rec, e1, _⟩ := ty_bytes t25 rfl t5 rfl hy
      have hs := ty_struct t24 rfl hx
      simp only [List.map_cons, List.map_nil, catV] at hs
      obtain ⟨a, b, rfl, ha, a2, b2, rfl, hb, rfl⟩ := hs
      obtain ⟨c, rfl, _, _⟩ := ty_int t2 rfl ha
      obtain ⟨rows, rfl, hl, hrow⟩ := ty_slice t22 rfl hb
      obtain ⟨q, h1, h2⟩ := rows_told enc rows (fun r hr => by
        have hs := ty_struct t86 rfl (hrow r hr)
        simp only [List.map_cons, List.map_nil, catV] at hs
        obtain ⟨a1, b1, rfl, ha1, a2, b2, rfl, ha2, a3, b3, rfl, ha3, rfl⟩ := hs
        obtain ⟨i1, rfl, _, _⟩ := ty_int t2 rfl ha1
        obtain ⟨i2, rfl, _, _⟩ := ty_int t2 rfl ha2
        obtain ⟨i3, rfl, _, _⟩ := ty_int t2 rfl ha3
        exact ⟨⟨i1, i2, i3⟩, rfl⟩)
      have hm : Go.maxLen = 9223372036854775807 := rfl
      refine ⟨c, q, rec, ?_, by omega⟩
      simp only [List.cons.injEq, and_true] at e1
      rw [e1, h1, ← h2]
      rfl
  · cases h
theorem tab_ok : CfgOk2 Try.prog tab3.cfg := tab3.ok (by kernel_rfl) (by kernel_rfl) (by kernel_rfl) (by kernel_rfl) (fun p hp => by
  have e : tab3.prims = [(83, .delete 52)] := rfl
  rw [e] at hp
  simp only [List.mem_singleton] at hp
  subst hp
  exact delete_ok)

theorem Try.own : ownKnob Try.prog.godebug = none := by kernel_rfl
theorem Try.laidOut : laidOutB Try.prog = true := by kernel_rfl
set_option maxRecDepth 100000 in
theorem applyRecord_lifted (os : Os) (started : os.Started) (H : Type) (enc : TypeId × Value → H) :
    ReturnsInHanded {} Try.checked os 3 .any (Rows.fnExactApplyRecordSpec.pre6 enc Try.prog Try.f3 Rows.fnExactApplyRecordRow.domain false) (Rows.fnExactApplyRecordSpec.post enc Try.prog Try.f3 false true false false) := by
  refine returnsInHanded_of_change (C := Try.checked) Try.own started (by kernel_rfl) Try.func3
    (ChangeSpec.witness6 (enc := enc) (C := Try.checked) false ⟨#[], #[.agg #[.int .i64 0, .slice none 0 0], .slice none 0 0], []⟩ 8 (by kernel_rfl) (by kernel_rfl) (by kernel_rfl) (by kernel_rfl)) ?_
  intro W base args ds gs before hval0 hW _ _
  have hval : ∀ (j : Nat) t v, Try.f3.params[j]? = some t → args[j]? = some v → Value.okWide Try.prog W .any base t v := hval0
  have hW' := hW
  obtain ⟨p, q, hA0, hV, rfl, hfz, hnd⟩ := hW
  have hA : DataW.TrodAll enc Try.prog W 0 (fun _ => true) true Try.f3.params.toList args.toList ds p := hA0
  rw [Try.params3] at hA hval
  have hAk := hA
  obtain ⟨v0, v1, d0, d1, p0, p1, rfl, rfl, rfl, h0, h1⟩ := trodAll_two hA
  obtain ⟨rfl, rfl⟩ := trodVars_none hV
  clear hA0 hval0
  obtain ⟨xs, hxs, hr⟩ := open_args (C := C) tab_ok.toCfgOk (d := 5) (base := base) _ _ _ _ (by kernel_rfl) hAk (fun j t v h1 h2 => hval j t v (by simpa using h1) (by simpa using h2))
  simp only [List.append_nil] at hW'
  have hlt : ∀ y ∈ p0 ++ p1, y.block < W.heap.size := fun y hy => by simpa using hW'.lt y hy
  have harg0 : ∀ W' : World, Below W.heap.size W W' → DataW.Trod enc Try.prog W' 0 (fun b => decide (b < W.heap.size)) true 24 v0 d0 p0 :=
    fun W' hn => Below.trod Try.laidOut (by kernel_rfl) (of_decide_eq_true (by kernel_rfl)) h0 hn (fun y hy => hlt y (by simp [hy]))
  have harg1 : ∀ W' : World, Below W.heap.size W W' → DataW.Trod enc Try.prog W' 0 (fun b => decide (b < W.heap.size)) true 25 v1 d1 p1 :=
    fun W' hn => Below.trod Try.laidOut (by kernel_rfl) (of_decide_eq_true (by kernel_rfl)) h1 hn (fun y hy => hlt y (by simp [hy]))
  refine (law_callsE (C := C) tab_ok (f := 3) (d := 5) (tb := 4) (fn := Try.f3) rfl rfl (ti := ⟨.bool, 1, 1, false, [.bool], [.bool false]⟩) rfl rfl rfl (fun xs hx => by
    obtain ⟨c, q, rec, rfl, hq⟩ := args_told xs hx
    exact Rel.c3 c q rec hq) hxs hr).mono fun e W' ⟨he, hn⟩ => ?_
  subst he
  exact ⟨_, rfl, _, _, _, [], _, [], hW', trodAll_mk1 (shut_bool Try.underlying4 true), trodAll_mk2 (harg0 _ hn) (harg1 _ hn), rfl, hn.frame _, fun h => by cases h⟩

theorem applyRecord_holds : Rows.FnExactApplyRecordSaid :=
  OpenClaim.holds_of_wide 3 Try.f3 rfl rfl rfl rfl rfl rfl rfl ⟨rfl, rfl, rfl, rfl, rfl⟩ rfl rfl rfl rfl rfl (by kernel_rfl) Try.func3 (by kernel_rfl)
    (of_decide_eq_true (by kernel_rfl)) (by unfold Func.isWrapper; first | (rw [if_pos (by decide +kernel)]; kernel_rfl) | (rw [if_neg (by decide +kernel)]; exact ⟨rfl, rfl⟩))
    (fun os started H enc _ => applyRecord_lifted os started H enc)
#print axioms applyRecord_holds
end Go.Proofs.Ytkjjneejmjfhlaa
