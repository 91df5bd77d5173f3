/-
  FnExactPruneClient: for every input the call returns true, and each argument reads behind it as it read before. No condition.
-/
import Derived.Test.YtehpmolckdmibaaGreatPLPruneClientTP
import Derived.Test.YtehpmolckdmibaaGreatPIEnd
import Derived.Test.YtehpmolckdmibaaGreatRows
import Derived.ProofKit
namespace Go.Proofs.YtehpmolckdmibaaGreat
open Go Go.PI Go.PI.Nest Go.PI.Tru Go.PI.Set Go.PI.Cli EqP Go.ChangeShapes Go.WideShapes Go.ChangeAt Go.RowKit
set_option linter.unusedVariables false

theorem dec_bytes {d : Nat} {xs : List V} (h : TyV C (d + 2) 22 xs) : ∃ x : List UInt8, xs = [.sl x.length (bytesV x)] ∧ x.length ≤ 9223372036854775807 := by
  obtain ⟨x, e, a⟩ := ty_bytes (ti := ⟨.slice 5, 1, 24, false, [.sl], [.slice none 0 0]⟩) (te := ⟨.int .u8, 1, 1, false, [.int .u8], [.int .u8 0]⟩) rfl rfl rfl rfl h
  exact ⟨x, e, a⟩
theorem dec_int {d : Nat} {xs : List V} (h : TyV C (d + 1) 2 xs) : ∃ x : Int, xs = [.int .i64 x] ∧ (-9223372036854775808 ≤ x ∧ x ≤ 9223372036854775807) := by
  obtain ⟨x, e, a, b⟩ := ty_int (ti := ⟨.int .i64, 1, 8, false, [.int .i64], [.int .i64 0]⟩) rfl rfl h
  exact ⟨x, e, a, b⟩
theorem dec_laws_Head {d : Nat} {xs : List V} (h : TyV C (d + 3) 156 xs) : ∃ x : Hd, xs = [.sl x.par.length (bytesV x.par), .int .i64 x.hgt, .int .i64 x.tim, .int .i64 x.zer, .sl x.root.length (bytesV x.root), .int .i64 x.non] ∧ (x.par.length ≤ 9223372036854775807 ∧ (-9223372036854775808 ≤ x.hgt ∧ x.hgt ≤ 9223372036854775807) ∧ (-9223372036854775808 ≤ x.tim ∧ x.tim ≤ 9223372036854775807) ∧ (-9223372036854775808 ≤ x.zer ∧ x.zer ≤ 9223372036854775807) ∧ x.root.length ≤ 9223372036854775807 ∧ (-9223372036854775808 ≤ x.non ∧ x.non ≤ 9223372036854775807)) := by
  have hs := ty_struct (ti := ⟨.struct [(0, 22), (1, 2), (2, 2), (3, 2), (4, 22), (5, 2)], 6, 80, true, [.sl, .int .i64, .int .i64, .int .i64, .sl, .int .i64], [.slice none 0 0, .int .i64 0, .int .i64 0, .int .i64 0, .slice none 0 0, .int .i64 0]⟩) rfl rfl h
  simp only [List.map_cons, List.map_nil, catV] at hs
  obtain ⟨a0, b0, rfl, h0, a1, b1, rfl, h1, a2, b2, rfl, h2, a3, b3, rfl, h3, a4, b4, rfl, h4, a5, b5, rfl, h5, rfl⟩ := hs
  obtain ⟨x0, rfl, p0⟩ := dec_bytes h0
  obtain ⟨x1, rfl, p1⟩ := dec_int h1
  obtain ⟨x2, rfl, p2⟩ := dec_int h2
  obtain ⟨x3, rfl, p3⟩ := dec_int h3
  obtain ⟨x4, rfl, p4⟩ := dec_bytes h4
  obtain ⟨x5, rfl, p5⟩ := dec_int h5
  exact ⟨⟨x0, x1, x2, x3, x4, x5⟩, rfl, p0, p1, p2, p3, p4, p5⟩
theorem dec___laws_Head {d : Nat} {xs : List V} (h : TyV C (d + 4) 47 xs) : ∃ x : List (Hd), xs = [.sl x.length (hdsS x)] ∧ (x.length ≤ 9223372036854775807 ∧ ∀ v ∈ x, (v.par.length ≤ 9223372036854775807 ∧ (-9223372036854775808 ≤ v.hgt ∧ v.hgt ≤ 9223372036854775807) ∧ (-9223372036854775808 ≤ v.tim ∧ v.tim ≤ 9223372036854775807) ∧ (-9223372036854775808 ≤ v.zer ∧ v.zer ≤ 9223372036854775807) ∧ v.root.length ≤ 9223372036854775807 ∧ (-9223372036854775808 ≤ v.non ∧ v.non ≤ 9223372036854775807))) := by
  obtain ⟨rows, rfl, hl, hr⟩ := ty_slice (ti := ⟨.slice 156, 1, 24, false, [.sl], [.slice none 0 0]⟩) rfl rfl h
  obtain ⟨l, h1, h2, h3⟩ := rows_toldP hdS (fun v => (v.par.length ≤ 9223372036854775807 ∧ (-9223372036854775808 ≤ v.hgt ∧ v.hgt ≤ 9223372036854775807) ∧ (-9223372036854775808 ≤ v.tim ∧ v.tim ≤ 9223372036854775807) ∧ (-9223372036854775808 ≤ v.zer ∧ v.zer ≤ 9223372036854775807) ∧ v.root.length ≤ 9223372036854775807 ∧ (-9223372036854775808 ≤ v.non ∧ v.non ≤ 9223372036854775807))) rows (fun r hm => dec_laws_Head (hr r hm))
  refine ⟨l, ?_, ⟨by rw [h2]; exact hl, h3⟩⟩
  rw [h1, ← h2]
  rfl
theorem dec_laws_Client {d : Nat} {xs : List V} (h : TyV C (d + 5) 49 xs) : ∃ x : Cl, xs = [.sl x.hds.length (hdsS x.hds), .int .i64 x.dep] ∧ ((x.hds.length ≤ 9223372036854775807 ∧ ∀ v ∈ x.hds, (v.par.length ≤ 9223372036854775807 ∧ (-9223372036854775808 ≤ v.hgt ∧ v.hgt ≤ 9223372036854775807) ∧ (-9223372036854775808 ≤ v.tim ∧ v.tim ≤ 9223372036854775807) ∧ (-9223372036854775808 ≤ v.zer ∧ v.zer ≤ 9223372036854775807) ∧ v.root.length ≤ 9223372036854775807 ∧ (-9223372036854775808 ≤ v.non ∧ v.non ≤ 9223372036854775807))) ∧ (-9223372036854775808 ≤ x.dep ∧ x.dep ≤ 9223372036854775807)) := by
  have hs := ty_struct (ti := ⟨.struct [(0, 47), (1, 2)], 2, 32, true, [.sl, .int .i64], [.slice none 0 0, .int .i64 0]⟩) rfl rfl h
  simp only [List.map_cons, List.map_nil, catV] at hs
  obtain ⟨a0, b0, rfl, h0, a1, b1, rfl, h1, rfl⟩ := hs
  obtain ⟨x0, rfl, p0⟩ := dec___laws_Head h0
  obtain ⟨x1, rfl, p1⟩ := dec_int h1
  exact ⟨⟨x0, x1⟩, rfl, p0, p1⟩
theorem args_told (xs : List V) (h : TyAs C 5 [49] xs) : ∃ (x : Cl), xs = [.agg [.sl x.hds.length (hdsS x.hds), .int .i64 x.dep]] ∧ ((x.hds.length ≤ 9223372036854775807 ∧ ∀ v ∈ x.hds, (v.par.length ≤ 9223372036854775807 ∧ (-9223372036854775808 ≤ v.hgt ∧ v.hgt ≤ 9223372036854775807) ∧ (-9223372036854775808 ≤ v.tim ∧ v.tim ≤ 9223372036854775807) ∧ (-9223372036854775808 ≤ v.zer ∧ v.zer ≤ 9223372036854775807) ∧ v.root.length ≤ 9223372036854775807 ∧ (-9223372036854775808 ≤ v.non ∧ v.non ≤ 9223372036854775807))) ∧ (-9223372036854775808 ≤ x.dep ∧ x.dep ≤ 9223372036854775807)) := by
  simp only [TyAs] at h
  obtain ⟨x0, r0, rfl, ⟨c0, h0, g0⟩, rfl⟩ := h
  rw [show C.ty 49 = some ⟨.struct [(0, 47), (1, 2)], 2, 32, true, [.sl, .int .i64], [.slice none 0 0, .int .i64 0]⟩ from rfl] at g0
  obtain ⟨x, rfl, p0⟩ := dec_laws_Client (d := 0) h0
  replace g0 := (g0.resolve_right (fun h => by cases h.1)).2
  exact ⟨x, by rw [g0], p0⟩
theorem tab_ok : CfgOk2 Tryz.prog tabP.cfg := tabP.ok (by kernel_rfl) (by kernel_rfl) (by kernel_rfl) (by kernel_rfl) (fun p hp => by
  have e : tabP.prims = [] := rfl
  rw [e] at hp; cases hp)

theorem Tryz.own : ownKnob Tryz.prog.godebug = none := by kernel_rfl
theorem Tryz.laidOut : laidOutB Tryz.prog = true := by kernel_rfl
set_option maxRecDepth 100000 in
theorem pruneClient_lifted (os : Os) (started : os.Started) (H : Type) (enc : TypeId × Value → H) :
    ReturnsInHanded {} Tryz.checked os 5 .any (Rows.fnExactPruneClientSpec.pre6 enc Tryz.prog Tryz.f5 Rows.fnExactPruneClientRow.domain false) (Rows.fnExactPruneClientSpec.post enc Tryz.prog Tryz.f5 false true false false) := by
  refine returnsInHanded_of_change (C := Tryz.checked) Tryz.own started (by kernel_rfl) Tryz.func5
    (ChangeSpec.witness6 (enc := enc) (C := Tryz.checked) false ⟨#[], #[.agg #[.slice none 0 0, .int .i64 0]], []⟩ 8 (by kernel_rfl) (by kernel_rfl) (by kernel_rfl) (by kernel_rfl)) ?_
  intro W base args ds gs before hval0 hW _ _
  have hval : ∀ (j : Nat) t v, Tryz.f5.params[j]? = some t → args[j]? = some v → Value.okWide Tryz.prog W .any base t v := hval0
  have hW' := hW
  obtain ⟨p, q, hA0, hV, rfl, hfz, hnd⟩ := hW
  have hA : DataW.TrodAll enc Tryz.prog W 0 (fun _ => true) true Tryz.f5.params.toList args.toList ds p := hA0
  rw [Tryz.params5] at hA hval
  have hAk := hA
  obtain ⟨v0, d0, rfl, rfl, h0⟩ := trodAll_one hA
  obtain ⟨rfl, rfl⟩ := trodVars_none hV
  clear hA0 hval0
  obtain ⟨xs, hxs, hr⟩ := open_args (C := C) tab_ok.toCfgOk (d := 5) (base := base) _ _ _ _ (by kernel_rfl) hAk (fun j t v h1 h2 => hval j t v (by simpa using h1) (by simpa using h2))
  simp only [List.append_nil] at hW'
  have hlt : ∀ y ∈ p, y.block < W.heap.size := fun y hy => by simpa using hW'.lt y hy
  have harg0 : ∀ W' : World, Below W.heap.size W W' → DataW.Trod enc Tryz.prog W' 0 (fun b => decide (b < W.heap.size)) true 49 v0 d0 p :=
    fun W' hn => Below.trod Tryz.laidOut (by kernel_rfl) (of_decide_eq_true (by kernel_rfl)) h0 hn (fun y hy => hlt y (by simp [hy]))
  refine (law_callsE (C := C) tab_ok (f := 5) (d := 5) (tb := 4) (fn := Tryz.f5) rfl rfl (ti := ⟨.bool, 1, 1, false, [.bool], [.bool false]⟩) rfl rfl rfl (fun xs hxx => by
    obtain ⟨x, rfl, hx⟩ := args_told xs hxx
    exact Cli.c5 x hx) hxs hr).mono fun e W' ⟨he, hn⟩ => ?_
  subst he
  exact ⟨_, rfl, _, _, _, [], _, [], hW', trodAll_mk1 (shut_bool Tryz.underlying4 true), trodAll_mk1 (harg0 _ hn), rfl, hn.frame _, fun h => by cases h⟩

theorem pruneClient_holds : Rows.FnExactPruneClientSaid :=
  OpenClaim.holds_of_wide 5 Tryz.f5 rfl rfl rfl rfl rfl rfl rfl ⟨rfl, rfl, rfl, rfl, rfl⟩ rfl rfl rfl rfl rfl (by kernel_rfl) Tryz.func5 (by kernel_rfl)
    (of_decide_eq_true (by kernel_rfl)) (by unfold Func.isWrapper; first | (rw [if_pos (by decide +kernel)]; kernel_rfl) | (rw [if_neg (by decide +kernel)]; exact ⟨rfl, rfl⟩))
    (fun os started H enc _ => pruneClient_lifted os started H enc)
#print axioms pruneClient_holds
end Go.Proofs.YtehpmolckdmibaaGreat
