/-
  FnExactResumeTrust: for every input the call returns true, and each argument reads behind it as it read before. No condition.
-/
import Derived.Test.YtehpmolckdmibaaPLResumeTrustTR
import Derived.Test.YtehpmolckdmibaaPIEnd
import Derived.Test.YtehpmolckdmibaaRows
import Derived.ProofKit
namespace Go.Proofs.Ytehpmolckdmibaa
open Go Go.PI Go.PI.Nest Go.PI.Tru Go.PI.Set EqR Go.ChangeShapes Go.WideShapes Go.ChangeAt Go.RowKit
set_option linter.unusedVariables false

theorem dec_int {d : Nat} {xs : List V} (h : TyV C (d + 1) 2 xs) : ∃ x : Int, xs = [.int .i64 x] ∧ (-9223372036854775808 ≤ x ∧ x ≤ 9223372036854775807) := by
  obtain ⟨x, e, a, b⟩ := ty_int (ti := ⟨.int .i64, 1, 8, false, [.int .i64], [.int .i64 0]⟩) rfl rfl h
  exact ⟨x, e, a, b⟩
theorem dec_bytes {d : Nat} {xs : List V} (h : TyV C (d + 2) 22 xs) : ∃ x : List UInt8, xs = [.sl x.length (bytesV x)] ∧ x.length ≤ 9223372036854775807 := by
  obtain ⟨x, e, a⟩ := ty_bytes (ti := ⟨.slice 5, 1, 24, false, [.sl], [.slice none 0 0]⟩) (te := ⟨.int .u8, 1, 1, false, [.int .u8], [.int .u8 0]⟩) rfl rfl rfl rfl h
  exact ⟨x, e, a⟩
theorem dec_laws_HeadB {d : Nat} {xs : List V} (h : TyV C (d + 3) 57 xs) : ∃ x : HB, xs = [.int .i64 x.hgt, .int .i64 x.tim, .sl x.root.length (bytesV x.root), .sl x.set.length (bytesV x.set), .sl x.nxt.length (bytesV x.nxt)] ∧ ((-9223372036854775808 ≤ x.hgt ∧ x.hgt ≤ 9223372036854775807) ∧ (-9223372036854775808 ≤ x.tim ∧ x.tim ≤ 9223372036854775807) ∧ x.root.length ≤ 9223372036854775807 ∧ x.set.length ≤ 9223372036854775807 ∧ x.nxt.length ≤ 9223372036854775807) := by
  have hs := ty_struct (ti := ⟨.struct [(0, 2), (1, 2), (2, 22), (3, 22), (4, 22)], 5, 88, true, [.int .i64, .int .i64, .sl, .sl, .sl], [.int .i64 0, .int .i64 0, .slice none 0 0, .slice none 0 0, .slice none 0 0]⟩) rfl rfl h
  simp only [List.map_cons, List.map_nil, catV] at hs
  obtain ⟨a0, b0, rfl, h0, a1, b1, rfl, h1, a2, b2, rfl, h2, a3, b3, rfl, h3, a4, b4, rfl, h4, rfl⟩ := hs
  obtain ⟨x0, rfl, p0⟩ := dec_int h0
  obtain ⟨x1, rfl, p1⟩ := dec_int h1
  obtain ⟨x2, rfl, p2⟩ := dec_bytes h2
  obtain ⟨x3, rfl, p3⟩ := dec_bytes h3
  obtain ⟨x4, rfl, p4⟩ := dec_bytes h4
  exact ⟨⟨x0, x1, x2, x3, x4⟩, rfl, p0, p1, p2, p3, p4⟩
theorem dec_laws_Validator {d : Nat} {xs : List V} (h : TyV C (d + 3) 171 xs) : ∃ x : Vd, xs = [.sl x.key.length (bytesV x.key), .int .i64 x.pow] ∧ (x.key.length ≤ 9223372036854775807 ∧ (-9223372036854775808 ≤ x.pow ∧ x.pow ≤ 9223372036854775807)) := by
  have hs := ty_struct (ti := ⟨.struct [(0, 22), (1, 2)], 2, 32, true, [.sl, .int .i64], [.slice none 0 0, .int .i64 0]⟩) rfl rfl h
  simp only [List.map_cons, List.map_nil, catV] at hs
  obtain ⟨a0, b0, rfl, h0, a1, b1, rfl, h1, rfl⟩ := hs
  obtain ⟨x0, rfl, p0⟩ := dec_bytes h0
  obtain ⟨x1, rfl, p1⟩ := dec_int h1
  exact ⟨⟨x0, x1⟩, rfl, p0, p1⟩
theorem dec___laws_Validator {d : Nat} {xs : List V} (h : TyV C (d + 4) 58 xs) : ∃ x : List (Vd), xs = [.sl x.length (vsS x)] ∧ (x.length ≤ 9223372036854775807 ∧ ∀ v ∈ x, (v.key.length ≤ 9223372036854775807 ∧ (-9223372036854775808 ≤ v.pow ∧ v.pow ≤ 9223372036854775807))) := by
  obtain ⟨rows, rfl, hl, hr⟩ := ty_slice (ti := ⟨.slice 171, 1, 24, false, [.sl], [.slice none 0 0]⟩) rfl rfl h
  obtain ⟨l, h1, h2, h3⟩ := rows_toldP vdS (fun v => (v.key.length ≤ 9223372036854775807 ∧ (-9223372036854775808 ≤ v.pow ∧ v.pow ≤ 9223372036854775807))) rows (fun r hm => dec_laws_Validator (hr r hm))
  refine ⟨l, ?_, ⟨by rw [h2]; exact hl, h3⟩⟩
  rw [h1, ← h2]
  rfl
theorem dec_bool {d : Nat} {xs : List V} (h : TyV C (d + 1) 4 xs) : ∃ x : Bool, xs = [.bool x] ∧ True := by
  obtain ⟨x, e⟩ := ty_bool (ti := ⟨.bool, 1, 1, false, [.bool], [.bool false]⟩) rfl rfl h
  exact ⟨x, e, trivial⟩
theorem dec_____byte {d : Nat} {xs : List V} (h : TyV C (d + 3) 33 xs) : ∃ x : List (List UInt8), xs = [.sl x.length (psS x)] ∧ (x.length ≤ 9223372036854775807 ∧ ∀ v ∈ x, v.length ≤ 9223372036854775807) := by
  obtain ⟨rows, rfl, hl, hr⟩ := ty_slice (ti := ⟨.slice 22, 1, 24, false, [.sl], [.slice none 0 0]⟩) rfl rfl h
  obtain ⟨l, h1, h2, h3⟩ := rows_toldP (fun b => [bS b]) (fun v => v.length ≤ 9223372036854775807) rows (fun r hm => dec_bytes (hr r hm))
  refine ⟨l, ?_, ⟨by rw [h2]; exact hl, h3⟩⟩
  rw [h1, ← h2]
  rfl
theorem dec_laws_Trust {d : Nat} {xs : List V} (h : TyV C (d + 5) 112 xs) : ∃ x : Tr, xs = [.int .i64 x.hd.hgt, .int .i64 x.hd.tim, .sl x.hd.root.length (bytesV x.hd.root), .sl x.hd.set.length (bytesV x.hd.set), .sl x.hd.nxt.length (bytesV x.hd.nxt), .sl x.nx.length (vsS x.nx), .int .i64 x.per, .bool x.pau, .sl x.roots.length (psS x.roots), .int .i64 x.frm] ∧ (((-9223372036854775808 ≤ x.hd.hgt ∧ x.hd.hgt ≤ 9223372036854775807) ∧ (-9223372036854775808 ≤ x.hd.tim ∧ x.hd.tim ≤ 9223372036854775807) ∧ x.hd.root.length ≤ 9223372036854775807 ∧ x.hd.set.length ≤ 9223372036854775807 ∧ x.hd.nxt.length ≤ 9223372036854775807) ∧ (x.nx.length ≤ 9223372036854775807 ∧ ∀ v ∈ x.nx, (v.key.length ≤ 9223372036854775807 ∧ (-9223372036854775808 ≤ v.pow ∧ v.pow ≤ 9223372036854775807))) ∧ (-9223372036854775808 ≤ x.per ∧ x.per ≤ 9223372036854775807) ∧ True ∧ (x.roots.length ≤ 9223372036854775807 ∧ ∀ v ∈ x.roots, v.length ≤ 9223372036854775807) ∧ (-9223372036854775808 ≤ x.frm ∧ x.frm ≤ 9223372036854775807)) := by
  have hs := ty_struct (ti := ⟨.struct [(0, 57), (5, 58), (6, 2), (7, 4), (8, 33), (9, 2)], 10, 160, true, [.int .i64, .int .i64, .sl, .sl, .sl, .sl, .int .i64, .bool, .sl, .int .i64], [.int .i64 0, .int .i64 0, .slice none 0 0, .slice none 0 0, .slice none 0 0, .slice none 0 0, .int .i64 0, .bool false, .slice none 0 0, .int .i64 0]⟩) rfl rfl h
  simp only [List.map_cons, List.map_nil, catV] at hs
  obtain ⟨a0, b0, rfl, h0, a1, b1, rfl, h1, a2, b2, rfl, h2, a3, b3, rfl, h3, a4, b4, rfl, h4, a5, b5, rfl, h5, rfl⟩ := hs
  obtain ⟨x0, rfl, p0⟩ := dec_laws_HeadB h0
  obtain ⟨x1, rfl, p1⟩ := dec___laws_Validator h1
  obtain ⟨x2, rfl, p2⟩ := dec_int h2
  obtain ⟨x3, rfl, p3⟩ := dec_bool h3
  obtain ⟨x4, rfl, p4⟩ := dec_____byte h4
  obtain ⟨x5, rfl, p5⟩ := dec_int h5
  exact ⟨⟨x0, x1, x2, x3, x4, x5⟩, rfl, p0, p1, p2, p3, p4, p5⟩
theorem args_told (xs : List V) (h : TyAs C 5 [112, 57, 58] xs) : ∃ (t : Tr) (x : HB) (l : List (Vd)), xs = [.agg [.int .i64 t.hd.hgt, .int .i64 t.hd.tim, .sl t.hd.root.length (bytesV t.hd.root), .sl t.hd.set.length (bytesV t.hd.set), .sl t.hd.nxt.length (bytesV t.hd.nxt), .sl t.nx.length (vsS t.nx), .int .i64 t.per, .bool t.pau, .sl t.roots.length (psS t.roots), .int .i64 t.frm], .agg [.int .i64 x.hgt, .int .i64 x.tim, .sl x.root.length (bytesV x.root), .sl x.set.length (bytesV x.set), .sl x.nxt.length (bytesV x.nxt)], .sl l.length (vsS l)] ∧ (((-9223372036854775808 ≤ t.hd.hgt ∧ t.hd.hgt ≤ 9223372036854775807) ∧ (-9223372036854775808 ≤ t.hd.tim ∧ t.hd.tim ≤ 9223372036854775807) ∧ t.hd.root.length ≤ 9223372036854775807 ∧ t.hd.set.length ≤ 9223372036854775807 ∧ t.hd.nxt.length ≤ 9223372036854775807) ∧ (t.nx.length ≤ 9223372036854775807 ∧ ∀ v ∈ t.nx, (v.key.length ≤ 9223372036854775807 ∧ (-9223372036854775808 ≤ v.pow ∧ v.pow ≤ 9223372036854775807))) ∧ (-9223372036854775808 ≤ t.per ∧ t.per ≤ 9223372036854775807) ∧ True ∧ (t.roots.length ≤ 9223372036854775807 ∧ ∀ v ∈ t.roots, v.length ≤ 9223372036854775807) ∧ (-9223372036854775808 ≤ t.frm ∧ t.frm ≤ 9223372036854775807)) ∧ ((-9223372036854775808 ≤ x.hgt ∧ x.hgt ≤ 9223372036854775807) ∧ (-9223372036854775808 ≤ x.tim ∧ x.tim ≤ 9223372036854775807) ∧ x.root.length ≤ 9223372036854775807 ∧ x.set.length ≤ 9223372036854775807 ∧ x.nxt.length ≤ 9223372036854775807) ∧ (l.length ≤ 9223372036854775807 ∧ ∀ v ∈ l, (v.key.length ≤ 9223372036854775807 ∧ (-9223372036854775808 ≤ v.pow ∧ v.pow ≤ 9223372036854775807))) := by
  simp only [TyAs] at h
  obtain ⟨x0, r0, rfl, ⟨c0, h0, g0⟩, x1, r1, rfl, ⟨c1, h1, g1⟩, x2, r2, rfl, ⟨c2, h2, g2⟩, rfl⟩ := h
  rw [show C.ty 112 = some ⟨.struct [(0, 57), (5, 58), (6, 2), (7, 4), (8, 33), (9, 2)], 10, 160, true, [.int .i64, .int .i64, .sl, .sl, .sl, .sl, .int .i64, .bool, .sl, .int .i64], [.int .i64 0, .int .i64 0, .slice none 0 0, .slice none 0 0, .slice none 0 0, .slice none 0 0, .int .i64 0, .bool false, .slice none 0 0, .int .i64 0]⟩ from rfl] at g0
  rw [show C.ty 57 = some ⟨.struct [(0, 2), (1, 2), (2, 22), (3, 22), (4, 22)], 5, 88, true, [.int .i64, .int .i64, .sl, .sl, .sl], [.int .i64 0, .int .i64 0, .slice none 0 0, .slice none 0 0, .slice none 0 0]⟩ from rfl] at g1
  rw [show C.ty 58 = some ⟨.slice 171, 1, 24, false, [.sl], [.slice none 0 0]⟩ from rfl] at g2
  obtain ⟨t, rfl, p0⟩ := dec_laws_Trust (d := 0) h0
  obtain ⟨x, rfl, p1⟩ := dec_laws_HeadB (d := 2) h1
  obtain ⟨l, rfl, p2⟩ := dec___laws_Validator (d := 1) h2
  replace g0 := (g0.resolve_right (fun h => by cases h.1)).2
  replace g1 := (g1.resolve_right (fun h => by cases h.1)).2
  replace g2 := (g2.resolve_left (fun h => by cases h.1)).2
  simp only [List.cons.injEq, and_true] at g2
  exact ⟨t, x, l, by rw [g0];  rw [g1];  rw [← g2], p0, p1, p2⟩
theorem tab_ok : CfgOk2 Try.prog tabR.cfg := tabR.ok (by kernel_rfl) (by kernel_rfl) (by kernel_rfl) (by kernel_rfl) (fun p hp => by
  have e : tabR.prims = [] := rfl
  rw [e] at hp; cases hp)

theorem Try.own : ownKnob Try.prog.godebug = none := by kernel_rfl
theorem Try.laidOut : laidOutB Try.prog = true := by kernel_rfl
set_option maxRecDepth 100000 in
theorem resumeTrust_lifted (os : Os) (started : os.Started) (H : Type) (enc : TypeId × Value → H) :
    ReturnsInHanded {} Try.checked os 8 .any (Rows.fnExactResumeTrustSpec.pre6 enc Try.prog Try.f8 Rows.fnExactResumeTrustRow.domain false) (Rows.fnExactResumeTrustSpec.post enc Try.prog Try.f8 false true false false) := by
  refine returnsInHanded_of_change (C := Try.checked) Try.own started (by kernel_rfl) Try.func8
    (ChangeSpec.witness6 (enc := enc) (C := Try.checked) false ⟨#[], #[.agg #[.int .i64 0, .int .i64 0, .slice none 0 0, .slice none 0 0, .slice none 0 0, .slice none 0 0, .int .i64 0, .bool false, .slice none 0 0, .int .i64 0], .agg #[.int .i64 0, .int .i64 0, .slice none 0 0, .slice none 0 0, .slice none 0 0], .slice none 0 0], []⟩ 8 (by kernel_rfl) (by kernel_rfl) (by kernel_rfl) (by kernel_rfl)) ?_
  intro W base args ds gs before hval0 hW _ _
  have hval : ∀ (j : Nat) t v, Try.f8.params[j]? = some t → args[j]? = some v → Value.okWide Try.prog W .any base t v := hval0
  have hW' := hW
  obtain ⟨p, q, hA0, hV, rfl, hfz, hnd⟩ := hW
  have hA : DataW.TrodAll enc Try.prog W 0 (fun _ => true) true Try.f8.params.toList args.toList ds p := hA0
  rw [Try.params8] at hA hval
  have hAk := hA
  obtain ⟨v0, v1, v2, d0, d1, d2, p0, p1, p2, rfl, rfl, rfl, h0, h1, h2⟩ := trodAll_three hA
  obtain ⟨rfl, rfl⟩ := trodVars_none hV
  clear hA0 hval0
  obtain ⟨xs, hxs, hr⟩ := open_args (C := C) tab_ok.toCfgOk (d := 5) (base := base) _ _ _ _ (by kernel_rfl) hAk (fun j t v h1 h2 => hval j t v (by simpa using h1) (by simpa using h2))
  simp only [List.append_nil] at hW'
  have hlt : ∀ y ∈ p0 ++ p1 ++ p2, y.block < W.heap.size := fun y hy => by simpa using hW'.lt y hy
  have harg0 : ∀ W' : World, Below W.heap.size W W' → DataW.Trod enc Try.prog W' 0 (fun b => decide (b < W.heap.size)) true 112 v0 d0 p0 :=
    fun W' hn => Below.trod Try.laidOut (by kernel_rfl) (of_decide_eq_true (by kernel_rfl)) h0 hn (fun y hy => hlt y (by simp [hy]))
  have harg1 : ∀ W' : World, Below W.heap.size W W' → DataW.Trod enc Try.prog W' 0 (fun b => decide (b < W.heap.size)) true 57 v1 d1 p1 :=
    fun W' hn => Below.trod Try.laidOut (by kernel_rfl) (of_decide_eq_true (by kernel_rfl)) h1 hn (fun y hy => hlt y (by simp [hy]))
  have harg2 : ∀ W' : World, Below W.heap.size W W' → DataW.Trod enc Try.prog W' 0 (fun b => decide (b < W.heap.size)) true 58 v2 d2 p2 :=
    fun W' hn => Below.trod Try.laidOut (by kernel_rfl) (of_decide_eq_true (by kernel_rfl)) h2 hn (fun y hy => hlt y (by simp [hy]))
  refine (law_callsE (C := C) tab_ok (f := 8) (d := 5) (tb := 4) (fn := Try.f8) rfl rfl (ti := ⟨.bool, 1, 1, false, [.bool], [.bool false]⟩) rfl rfl rfl (fun xs hx => by
    obtain ⟨t, x, l, rfl, ht, hx, hl⟩ := args_told xs hx
    exact Set.c8 t x l ht hx hl) hxs hr).mono fun e W' ⟨he, hn⟩ => ?_
  subst he
  exact ⟨_, rfl, _, _, _, [], _, [], hW', trodAll_mk1 (shut_bool Try.underlying4 true), trodAll_mk3 (harg0 _ hn) (harg1 _ hn) (harg2 _ hn), rfl, hn.frame _, fun h => by cases h⟩

theorem resumeTrust_holds : Rows.FnExactResumeTrustSaid :=
  OpenClaim.holds_of_wide 8 Try.f8 rfl rfl rfl rfl rfl rfl rfl ⟨rfl, rfl, rfl, rfl, rfl⟩ rfl rfl rfl rfl rfl (by kernel_rfl) Try.func8 (by kernel_rfl)
    (of_decide_eq_true (by kernel_rfl)) (by unfold Func.isWrapper; first | (rw [if_pos (by decide +kernel)]; kernel_rfl) | (rw [if_neg (by decide +kernel)]; exact ⟨rfl, rfl⟩))
    (fun os started H enc _ => resumeTrust_lifted os started H enc)
#print axioms resumeTrust_holds
end Go.Proofs.Ytehpmolckdmibaa
