/-
  FnExactNewClient: for every input the call returns true, and each argument reads behind it as it read before. No condition.
-/
import Derived.Test.YtehpmolckdmibaaPLNewClientTC
import Derived.Test.YtehpmolckdmibaaPIEnd
import Derived.Test.YtehpmolckdmibaaRows
import Derived.ProofKit
namespace Go.Proofs.Ytehpmolckdmibaa
open Go Go.PI Go.PI.Nest Go.PI.Tru Go.PI.Set Go.PI.Cli EqC Go.ChangeShapes Go.WideShapes Go.ChangeAt Go.RowKit
set_option linter.unusedVariables false

theorem dec_bytes {d : Nat} {xs : List V} (h : TyV C (d + 2) 22 xs) : ∃ x : List UInt8, xs = [.sl x.length (bytesV x)] ∧ x.length ≤ 9223372036854775807 := by
  obtain ⟨x, e, a⟩ := ty_bytes (ti := ⟨.slice 5, 1, 24, false, [.sl], [.slice none 0 0]⟩) (te := ⟨.int .u8, 1, 1, false, [.int .u8], [.int .u8 0]⟩) rfl rfl rfl rfl h
  exact ⟨x, e, a⟩
theorem dec_int {d : Nat} {xs : List V} (h : TyV C (d + 1) 2 xs) : ∃ x : Int, xs = [.int .i64 x] ∧ (-9223372036854775808 ≤ x ∧ x ≤ 9223372036854775807) := by
  obtain ⟨x, e, a, b⟩ := ty_int (ti := ⟨.int .i64, 1, 8, false, [.int .i64], [.int .i64 0]⟩) rfl rfl h
  exact ⟨x, e, a, b⟩
theorem dec_laws_Head {d : Nat} {xs : List V} (h : TyV C (d + 3) 77 xs) : ∃ x : Hd, xs = [.sl x.par.length (bytesV x.par), .int .i64 x.hgt, .int .i64 x.tim, .int .i64 x.zer, .sl x.root.length (bytesV x.root), .int .i64 x.non] ∧ (x.par.length ≤ 9223372036854775807 ∧ (-9223372036854775808 ≤ x.hgt ∧ x.hgt ≤ 9223372036854775807) ∧ (-9223372036854775808 ≤ x.tim ∧ x.tim ≤ 9223372036854775807) ∧ (-9223372036854775808 ≤ x.zer ∧ x.zer ≤ 9223372036854775807) ∧ x.root.length ≤ 9223372036854775807 ∧ (-9223372036854775808 ≤ x.non ∧ x.non ≤ 9223372036854775807)) := by
  have hs := ty_struct (ti := ⟨.struct [(0, 22), (1, 2), (2, 2), (3, 2), (4, 22), (5, 2)], 6, 80, true, [.sl, .int .i64, .int .i64, .int .i64, .sl, .int .i64], [.slice none 0 0, .int .i64 0, .int .i64 0, .int .i64 0, .slice none 0 0, .int .i64 0]⟩) rfl rfl h
  simp only [List.map_cons, List.map_nil, catV] at hs
  obtain ⟨a0, b0, rfl, h0, a1, b1, rfl, h1, a2, b2, rfl, h2, a3, b3, rfl, h3, a4, b4, rfl, h4, a5, b5, rfl, h5, rfl⟩ := hs
  obtain ⟨x0, rfl, p0⟩ := dec_bytes h0
  obtain ⟨x1, rfl, p1⟩ := dec_int h1
  obtain ⟨x2, rfl, p2⟩ := dec_int h2
  obtain ⟨x3, rfl, p3⟩ := dec_int h3
  obtain ⟨x4, rfl, p4⟩ := dec_bytes h4
  obtain ⟨x5, rfl, p5⟩ := dec_int h5
  exact ⟨⟨x0, x1, x2, x3, x4, x5⟩, rfl, p0, p1, p2, p3, p4, p5⟩
theorem args_told (xs : List V) (h : TyAs C 3 [77, 2] xs) : ∃ (x : Hd) (p : Int), xs = [.agg [.sl x.par.length (bytesV x.par), .int .i64 x.hgt, .int .i64 x.tim, .int .i64 x.zer, .sl x.root.length (bytesV x.root), .int .i64 x.non], .int .i64 p] ∧ (x.par.length ≤ 9223372036854775807 ∧ (-9223372036854775808 ≤ x.hgt ∧ x.hgt ≤ 9223372036854775807) ∧ (-9223372036854775808 ≤ x.tim ∧ x.tim ≤ 9223372036854775807) ∧ (-9223372036854775808 ≤ x.zer ∧ x.zer ≤ 9223372036854775807) ∧ x.root.length ≤ 9223372036854775807 ∧ (-9223372036854775808 ≤ x.non ∧ x.non ≤ 9223372036854775807)) ∧ (-9223372036854775808 ≤ p ∧ p ≤ 9223372036854775807) := by
  simp only [TyAs] at h
  obtain ⟨x0, r0, rfl, ⟨c0, h0, g0⟩, x1, r1, rfl, ⟨c1, h1, g1⟩, rfl⟩ := h
  rw [show C.ty 77 = some ⟨.struct [(0, 22), (1, 2), (2, 2), (3, 2), (4, 22), (5, 2)], 6, 80, true, [.sl, .int .i64, .int .i64, .int .i64, .sl, .int .i64], [.slice none 0 0, .int .i64 0, .int .i64 0, .int .i64 0, .slice none 0 0, .int .i64 0]⟩ from rfl] at g0
  rw [show C.ty 2 = some ⟨.int .i64, 1, 8, false, [.int .i64], [.int .i64 0]⟩ from rfl] at g1
  obtain ⟨x, rfl, p0⟩ := dec_laws_Head (d := 0) h0
  obtain ⟨p, rfl, p1⟩ := dec_int (d := 2) h1
  replace g0 := (g0.resolve_right (fun h => by cases h.1)).2
  replace g1 := (g1.resolve_left (fun h => by cases h.1)).2
  simp only [List.cons.injEq, and_true] at g1
  exact ⟨x, p, by rw [g0];  rw [← g1], p0, p1⟩
theorem tab_ok : CfgOk2 Try.prog tabC.cfg := tabC.ok (by kernel_rfl) (by kernel_rfl) (by kernel_rfl) (by kernel_rfl) (fun p hp => by
  have e : tabC.prims = [] := rfl
  rw [e] at hp; cases hp)

theorem Try.own : ownKnob Try.prog.godebug = none := by kernel_rfl
theorem Try.laidOut : laidOutB Try.prog = true := by kernel_rfl
set_option maxRecDepth 100000 in
theorem newClient_lifted (os : Os) (started : os.Started) (H : Type) (enc : TypeId × Value → H) :
    ReturnsInHanded {} Try.checked os 6 .any (Rows.fnExactNewClientSpec.pre6 enc Try.prog Try.f6 Rows.fnExactNewClientRow.domain false) (Rows.fnExactNewClientSpec.post enc Try.prog Try.f6 false true false false) := by
  refine returnsInHanded_of_change (C := Try.checked) Try.own started (by kernel_rfl) Try.func6
    (ChangeSpec.witness6 (enc := enc) (C := Try.checked) false ⟨#[], #[.agg #[.slice none 0 0, .int .i64 0, .int .i64 0, .int .i64 0, .slice none 0 0, .int .i64 0], .int .i64 0], []⟩ 8 (by kernel_rfl) (by kernel_rfl) (by kernel_rfl) (by kernel_rfl)) ?_
  intro W base args ds gs before hval0 hW _ _
  have hval : ∀ (j : Nat) t v, Try.f6.params[j]? = some t → args[j]? = some v → Value.okWide Try.prog W .any base t v := hval0
  have hW' := hW
  obtain ⟨p, q, hA0, hV, rfl, hfz, hnd⟩ := hW
  have hA : DataW.TrodAll enc Try.prog W 0 (fun _ => true) true Try.f6.params.toList args.toList ds p := hA0
  rw [Try.params6] at hA hval
  have hAk := hA
  obtain ⟨v0, v1, d0, d1, p0, p1, rfl, rfl, rfl, h0, h1⟩ := trodAll_two hA
  obtain ⟨rfl, rfl⟩ := trodVars_none hV
  clear hA0 hval0
  obtain ⟨xs, hxs, hr⟩ := open_args (C := C) tab_ok.toCfgOk (d := 3) (base := base) _ _ _ _ (by kernel_rfl) hAk (fun j t v h1 h2 => hval j t v (by simpa using h1) (by simpa using h2))
  simp only [List.append_nil] at hW'
  have hlt : ∀ y ∈ p0 ++ p1, y.block < W.heap.size := fun y hy => by simpa using hW'.lt y hy
  have harg0 : ∀ W' : World, Below W.heap.size W W' → DataW.Trod enc Try.prog W' 0 (fun b => decide (b < W.heap.size)) true 77 v0 d0 p0 :=
    fun W' hn => Below.trod Try.laidOut (by kernel_rfl) (of_decide_eq_true (by kernel_rfl)) h0 hn (fun y hy => hlt y (by simp [hy]))
  have harg1 : ∀ W' : World, Below W.heap.size W W' → DataW.Trod enc Try.prog W' 0 (fun b => decide (b < W.heap.size)) true 2 v1 d1 p1 :=
    fun W' hn => Below.trod Try.laidOut (by kernel_rfl) (of_decide_eq_true (by kernel_rfl)) h1 hn (fun y hy => hlt y (by simp [hy]))
  refine (law_callsE (C := C) tab_ok (f := 6) (d := 3) (tb := 4) (fn := Try.f6) rfl rfl (ti := ⟨.bool, 1, 1, false, [.bool], [.bool false]⟩) rfl rfl rfl (fun xs hx => by
    obtain ⟨x, p, rfl, hx, hp⟩ := args_told xs hx
    exact Cli.c6 x p hx) hxs hr).mono fun e W' ⟨he, hn⟩ => ?_
  subst he
  exact ⟨_, rfl, _, _, _, [], _, [], hW', trodAll_mk1 (shut_bool Try.underlying4 true), trodAll_mk2 (harg0 _ hn) (harg1 _ hn), rfl, hn.frame _, fun h => by cases h⟩

theorem newClient_holds : Rows.FnExactNewClientSaid :=
  OpenClaim.holds_of_wide 6 Try.f6 rfl rfl rfl rfl rfl rfl rfl ⟨rfl, rfl, rfl, rfl, rfl⟩ rfl rfl rfl rfl rfl (by kernel_rfl) Try.func6 (by kernel_rfl)
    (of_decide_eq_true (by kernel_rfl)) (by unfold Func.isWrapper; first | (rw [if_pos (by decide +kernel)]; kernel_rfl) | (rw [if_neg (by decide +kernel)]; exact ⟨rfl, rfl⟩))
    (fun os started H enc _ => newClient_lifted os started H enc)
#print axioms newClient_holds
end Go.Proofs.Ytehpmolckdmibaa
