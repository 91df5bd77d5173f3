/-
  FnExactSignHead: for every input the call returns true, and each argument reads behind it as it read before. No condition.
-/
import Derived.Test.YtehpmolckdmibaaPLSignHeadTG
import Derived.Test.YtehpmolckdmibaaPIEnd
import Derived.Test.YtehpmolckdmibaaRows
import Derived.ProofKit
namespace Go.Proofs.Ytehpmolckdmibaa
open Go Go.PI Go.PI.Nest Go.PI.Tru Go.PI.Set Go.PI.Vote EqG Go.ChangeShapes Go.WideShapes Go.ChangeAt Go.RowKit
set_option linter.unusedVariables false

section
variable {H : Type} {enc : TypeId × Value → H} {P : Program} {w : World} {base : Nat} {spare : Nat → Bool} {held : Bool}
theorem trodAll_four {t0 t1 t2 t3 : TypeId} {args : Array Value} {ds : List (DataW H)} {ps : List MemPlace} (h : DataW.TrodAll enc P w base spare held [t0, t1, t2, t3] args.toList ds ps) :
    ∃ v0 v1 v2 v3 d0 d1 d2 d3 p0 p1 p2 p3, args = #[v0, v1, v2, v3] ∧ ds = [d0, d1, d2, d3] ∧ ps = p0 ++ p1 ++ p2 ++ p3 ∧ DataW.Trod enc P w base spare held t0 v0 d0 p0 ∧ DataW.Trod enc P w base spare held t1 v1 d1 p1 ∧ DataW.Trod enc P w base spare held t2 v2 d2 p2 ∧ DataW.Trod enc P w base spare held t3 v3 d3 p3 := by
  obtain ⟨v0, vs0, d0, ds0, p0, q0, hargs, rfl, rfl, hd0, hr0⟩ := trodAll_cons h
  obtain ⟨v1, vs1, d1, ds1, p1, q1, rfl, rfl, rfl, hd1, hr1⟩ := trodAll_cons hr0
  obtain ⟨v2, vs2, d2, ds2, p2, q2, rfl, rfl, rfl, hd2, hr2⟩ := trodAll_cons hr1
  obtain ⟨v3, vs3, d3, ds3, p3, q3, rfl, rfl, rfl, hd3, hr3⟩ := trodAll_cons hr2
  obtain ⟨rfl, rfl, rfl⟩ := trodAll_nil hr3
  exact ⟨v0, v1, v2, v3, d0, d1, d2, d3, p0, p1, p2, p3, by cases args; simp_all, rfl, by simp, hd0, hd1, hd2, hd3⟩
theorem trodAll_mk4 {t0 t1 t2 t3 : TypeId} {v0 v1 v2 v3 : Value} {d0 d1 d2 d3 : DataW H} {p0 p1 p2 p3 : List MemPlace} (h0 : DataW.Trod enc P w base spare held t0 v0 d0 p0) (h1 : DataW.Trod enc P w base spare held t1 v1 d1 p1)
    (h2 : DataW.Trod enc P w base spare held t2 v2 d2 p2) (h3 : DataW.Trod enc P w base spare held t3 v3 d3 p3) : DataW.TrodAll enc P w base spare held [t0, t1, t2, t3] [v0, v1, v2, v3] [d0, d1, d2, d3] (p0 ++ (p1 ++ (p2 ++ p3))) :=
  ⟨p0, p1 ++ (p2 ++ p3), h0, trodAll_mk3 h1 h2 h3, rfl⟩
end
theorem dec_bytes {d : Nat} {xs : List V} (h : TyV C (d + 2) 22 xs) : ∃ x : List UInt8, xs = [.sl x.length (bytesV x)] ∧ x.length ≤ 9223372036854775807 := by
  obtain ⟨x, e, a⟩ := ty_bytes (ti := ⟨.slice 5, 1, 24, false, [.sl], [.slice none 0 0]⟩) (te := ⟨.int .u8, 1, 1, false, [.int .u8], [.int .u8 0]⟩) rfl rfl rfl rfl h
  exact ⟨x, e, a⟩
theorem dec_____byte {d : Nat} {xs : List V} (h : TyV C (d + 3) 33 xs) : ∃ x : List (List UInt8), xs = [.sl x.length (psS x)] ∧ (x.length ≤ 9223372036854775807 ∧ ∀ v ∈ x, v.length ≤ 9223372036854775807) := by
  obtain ⟨rows, rfl, hl, hr⟩ := ty_slice (ti := ⟨.slice 22, 1, 24, false, [.sl], [.slice none 0 0]⟩) rfl rfl h
  obtain ⟨l, h1, h2, h3⟩ := rows_toldP (fun b => [bS b]) (fun v => v.length ≤ 9223372036854775807) rows (fun r hm => dec_bytes (hr r hm))
  refine ⟨l, ?_, ⟨by rw [h2]; exact hl, h3⟩⟩
  rw [h1, ← h2]
  first
    | rfl
    | (unfold ints; rw [List.map_eq_flatMap])
theorem dec_int {d : Nat} {xs : List V} (h : TyV C (d + 1) 2 xs) : ∃ x : Int, xs = [.int .i64 x] ∧ (-9223372036854775808 ≤ x ∧ x ≤ 9223372036854775807) := by
  obtain ⟨x, e, a, b⟩ := ty_int (ti := ⟨.int .i64, 1, 8, false, [.int .i64], [.int .i64 0]⟩) rfl rfl h
  exact ⟨x, e, a, b⟩
theorem dec___int64 {d : Nat} {xs : List V} (h : TyV C (d + 2) 91 xs) : ∃ x : List (Int), xs = [.sl x.length (ints x)] ∧ (x.length ≤ 9223372036854775807 ∧ ∀ v ∈ x, (-9223372036854775808 ≤ v ∧ v ≤ 9223372036854775807)) := by
  obtain ⟨rows, rfl, hl, hr⟩ := ty_slice (ti := ⟨.slice 2, 1, 24, false, [.sl], [.slice none 0 0]⟩) rfl rfl h
  obtain ⟨l, h1, h2, h3⟩ := rows_toldP (fun b : Int => [V.int .i64 b]) (fun v => (-9223372036854775808 ≤ v ∧ v ≤ 9223372036854775807)) rows (fun r hm => dec_int (hr r hm))
  refine ⟨l, ?_, ⟨by rw [h2]; exact hl, h3⟩⟩
  rw [h1, ← h2]
  first
    | rfl
    | (unfold ints; rw [List.map_eq_flatMap])
theorem dec_laws_HeadB {d : Nat} {xs : List V} (h : TyV C (d + 3) 57 xs) : ∃ x : HB, xs = [.int .i64 x.hgt, .int .i64 x.tim, .sl x.root.length (bytesV x.root), .sl x.set.length (bytesV x.set), .sl x.nxt.length (bytesV x.nxt)] ∧ ((-9223372036854775808 ≤ x.hgt ∧ x.hgt ≤ 9223372036854775807) ∧ (-9223372036854775808 ≤ x.tim ∧ x.tim ≤ 9223372036854775807) ∧ x.root.length ≤ 9223372036854775807 ∧ x.set.length ≤ 9223372036854775807 ∧ x.nxt.length ≤ 9223372036854775807) := by
  have hs := ty_struct (ti := ⟨.struct [(0, 2), (1, 2), (2, 22), (3, 22), (4, 22)], 5, 88, true, [.int .i64, .int .i64, .sl, .sl, .sl], [.int .i64 0, .int .i64 0, .slice none 0 0, .slice none 0 0, .slice none 0 0]⟩) rfl rfl h
  simp only [List.map_cons, List.map_nil, catV] at hs
  obtain ⟨a0, b0, rfl, h0, a1, b1, rfl, h1, a2, b2, rfl, h2, a3, b3, rfl, h3, a4, b4, rfl, h4, rfl⟩ := hs
  obtain ⟨x0, rfl, p0⟩ := dec_int h0
  obtain ⟨x1, rfl, p1⟩ := dec_int h1
  obtain ⟨x2, rfl, p2⟩ := dec_bytes h2
  obtain ⟨x3, rfl, p3⟩ := dec_bytes h3
  obtain ⟨x4, rfl, p4⟩ := dec_bytes h4
  exact ⟨⟨x0, x1, x2, x3, x4⟩, rfl, p0, p1, p2, p3, p4⟩
theorem args_told (xs : List V) (h : TyAs C 3 [33, 91, 2, 57] xs) : ∃ (s : List (List UInt8)) (p : List (Int)) (f : Int) (x : HB), xs = [.sl s.length (psS s), .sl p.length (ints p), .int .i64 f, .agg [.int .i64 x.hgt, .int .i64 x.tim, .sl x.root.length (bytesV x.root), .sl x.set.length (bytesV x.set), .sl x.nxt.length (bytesV x.nxt)]] ∧ (s.length ≤ 9223372036854775807 ∧ ∀ v ∈ s, v.length ≤ 9223372036854775807) ∧ (p.length ≤ 9223372036854775807 ∧ ∀ v ∈ p, (-9223372036854775808 ≤ v ∧ v ≤ 9223372036854775807)) ∧ (-9223372036854775808 ≤ f ∧ f ≤ 9223372036854775807) ∧ ((-9223372036854775808 ≤ x.hgt ∧ x.hgt ≤ 9223372036854775807) ∧ (-9223372036854775808 ≤ x.tim ∧ x.tim ≤ 9223372036854775807) ∧ x.root.length ≤ 9223372036854775807 ∧ x.set.length ≤ 9223372036854775807 ∧ x.nxt.length ≤ 9223372036854775807) := by
  simp only [TyAs] at h
  obtain ⟨x0, r0, rfl, ⟨c0, h0, g0⟩, x1, r1, rfl, ⟨c1, h1, g1⟩, x2, r2, rfl, ⟨c2, h2, g2⟩, x3, r3, rfl, ⟨c3, h3, g3⟩, rfl⟩ := h
  rw [show C.ty 33 = some ⟨.slice 22, 1, 24, false, [.sl], [.slice none 0 0]⟩ from rfl] at g0
  rw [show C.ty 91 = some ⟨.slice 2, 1, 24, false, [.sl], [.slice none 0 0]⟩ from rfl] at g1
  rw [show C.ty 2 = some ⟨.int .i64, 1, 8, false, [.int .i64], [.int .i64 0]⟩ from rfl] at g2
  rw [show C.ty 57 = some ⟨.struct [(0, 2), (1, 2), (2, 22), (3, 22), (4, 22)], 5, 88, true, [.int .i64, .int .i64, .sl, .sl, .sl], [.int .i64 0, .int .i64 0, .slice none 0 0, .slice none 0 0, .slice none 0 0]⟩ from rfl] at g3
  obtain ⟨s, rfl, p0⟩ := dec_____byte (d := 0) h0
  obtain ⟨p, rfl, p1⟩ := dec___int64 (d := 1) h1
  obtain ⟨f, rfl, p2⟩ := dec_int (d := 2) h2
  obtain ⟨x, rfl, p3⟩ := dec_laws_HeadB (d := 0) h3
  replace g0 := (g0.resolve_left (fun h => by cases h.1)).2
  simp only [List.cons.injEq, and_true] at g0
  replace g1 := (g1.resolve_left (fun h => by cases h.1)).2
  simp only [List.cons.injEq, and_true] at g1
  replace g2 := (g2.resolve_left (fun h => by cases h.1)).2
  simp only [List.cons.injEq, and_true] at g2
  replace g3 := (g3.resolve_right (fun h => by cases h.1)).2
  exact ⟨s, p, f, x, by rw [← g0];  rw [← g1];  rw [← g2];  rw [g3], p0, p1, p2, p3⟩
theorem tab_ok : CfgOk2 Try.prog tabG.cfg := tabG.ok (by kernel_rfl) (by kernel_rfl) (by kernel_rfl) (by kernel_rfl) (fun p hp => by
  have e : tabG.prims = [] := rfl
  rw [e] at hp; cases hp)

theorem Try.own : ownKnob Try.prog.godebug = none := by kernel_rfl
theorem Try.laidOut : laidOutB Try.prog = true := by kernel_rfl
set_option maxRecDepth 100000 in
theorem signHead_lifted (os : Os) (started : os.Started) (H : Type) (enc : TypeId × Value → H) :
    ReturnsInHanded {} Try.checked os 9 .any (Rows.fnExactSignHeadSpec.pre6 enc Try.prog Try.f9 Rows.fnExactSignHeadRow.domain false) (Rows.fnExactSignHeadSpec.post enc Try.prog Try.f9 false true false false) := by
  refine returnsInHanded_of_change (C := Try.checked) Try.own started (by kernel_rfl) Try.func9
    (ChangeSpec.witness6 (enc := enc) (C := Try.checked) false ⟨#[], #[.slice none 0 0, .slice none 0 0, .int .i64 0, .agg #[.int .i64 0, .int .i64 0, .slice none 0 0, .slice none 0 0, .slice none 0 0]], []⟩ 8 (by kernel_rfl) (by kernel_rfl) (by kernel_rfl) (by kernel_rfl)) ?_
  intro W base args ds gs before hval0 hW _ _
  have hval : ∀ (j : Nat) t v, Try.f9.params[j]? = some t → args[j]? = some v → Value.okWide Try.prog W .any base t v := hval0
  have hW' := hW
  obtain ⟨p, q, hA0, hV, rfl, hfz, hnd⟩ := hW
  have hA : DataW.TrodAll enc Try.prog W 0 (fun _ => true) true Try.f9.params.toList args.toList ds p := hA0
  rw [Try.params9] at hA hval
  have hAk := hA
  obtain ⟨v0, v1, v2, v3, d0, d1, d2, d3, p0, p1, p2, p3, rfl, rfl, rfl, h0, h1, h2, h3⟩ := trodAll_four hA
  obtain ⟨rfl, rfl⟩ := trodVars_none hV
  clear hA0 hval0
  obtain ⟨xs, hxs, hr⟩ := open_args (C := C) tab_ok.toCfgOk (d := 3) (base := base) _ _ _ _ (by kernel_rfl) hAk (fun j t v h1 h2 => hval j t v (by simpa using h1) (by simpa using h2))
  simp only [List.append_nil] at hW'
  have hlt : ∀ y ∈ p0 ++ p1 ++ p2 ++ p3, y.block < W.heap.size := fun y hy => by simpa using hW'.lt y hy
  have harg0 : ∀ W' : World, Below W.heap.size W W' → DataW.Trod enc Try.prog W' 0 (fun b => decide (b < W.heap.size)) true 33 v0 d0 p0 :=
    fun W' hn => Below.trod Try.laidOut (by kernel_rfl) (of_decide_eq_true (by kernel_rfl)) h0 hn (fun y hy => hlt y (by simp [hy]))
  have harg1 : ∀ W' : World, Below W.heap.size W W' → DataW.Trod enc Try.prog W' 0 (fun b => decide (b < W.heap.size)) true 91 v1 d1 p1 :=
    fun W' hn => Below.trod Try.laidOut (by kernel_rfl) (of_decide_eq_true (by kernel_rfl)) h1 hn (fun y hy => hlt y (by simp [hy]))
  have harg2 : ∀ W' : World, Below W.heap.size W W' → DataW.Trod enc Try.prog W' 0 (fun b => decide (b < W.heap.size)) true 2 v2 d2 p2 :=
    fun W' hn => Below.trod Try.laidOut (by kernel_rfl) (of_decide_eq_true (by kernel_rfl)) h2 hn (fun y hy => hlt y (by simp [hy]))
  have harg3 : ∀ W' : World, Below W.heap.size W W' → DataW.Trod enc Try.prog W' 0 (fun b => decide (b < W.heap.size)) true 57 v3 d3 p3 :=
    fun W' hn => Below.trod Try.laidOut (by kernel_rfl) (of_decide_eq_true (by kernel_rfl)) h3 hn (fun y hy => hlt y (by simp [hy]))
  refine (law_callsE (C := C) tab_ok (f := 9) (d := 3) (tb := 4) (fn := Try.f9) rfl rfl (ti := ⟨.bool, 1, 1, false, [.bool], [.bool false]⟩) rfl rfl rfl (fun xs hxx => by
    obtain ⟨s, p, f, x, rfl, hs, hp, hf, hx⟩ := args_told xs hxx
    exact Vote.c9 s p f x hs hp hf hx) hxs hr).mono fun e W' ⟨he, hn⟩ => ?_
  subst he
  exact ⟨_, rfl, _, _, _, [], _, [], hW', trodAll_mk1 (shut_bool Try.underlying4 true), trodAll_mk4 (harg0 _ hn) (harg1 _ hn) (harg2 _ hn) (harg3 _ hn), rfl, hn.frame _, fun h => by cases h⟩

theorem signHead_holds : Rows.FnExactSignHeadSaid :=
  OpenClaim.holds_of_wide 9 Try.f9 rfl rfl rfl rfl rfl rfl rfl ⟨rfl, rfl, rfl, rfl, rfl⟩ rfl rfl rfl rfl rfl (by kernel_rfl) Try.func9 (by kernel_rfl)
    (of_decide_eq_true (by kernel_rfl)) (by unfold Func.isWrapper; first | (rw [if_pos (by decide +kernel)]; kernel_rfl) | (rw [if_neg (by decide +kernel)]; exact ⟨rfl, rfl⟩))
    (fun os started H enc _ => signHead_lifted os started H enc)
#print axioms signHead_holds
end Go.Proofs.Ytehpmolckdmibaa
