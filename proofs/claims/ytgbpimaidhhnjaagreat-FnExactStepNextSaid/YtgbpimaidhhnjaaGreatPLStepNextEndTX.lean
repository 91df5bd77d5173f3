/-
  FnExactStepNext: for every input the call returns true, and each argument reads behind it as it read before. No condition.
-/
import Derived.Test.YtgbpimaidhhnjaaGreatPLStepNextTX
import Derived.Test.YtgbpimaidhhnjaaGreatPIEnd
import Derived.Test.YtgbpimaidhhnjaaGreatRows
import Derived.ProofKit
namespace Go.Proofs.YtgbpimaidhhnjaaGreat
open Go Go.PI Go.PI.Nest Go.PI.Tru Go.PI.Set Go.PI.Vote EqX Go.ChangeShapes Go.WideShapes Go.ChangeAt Go.RowKit
set_option linter.unusedVariables false
section
variable {H : Type} {enc : TypeId × Value → H} {P : Program} {w : World} {base : Nat} {spare : Nat → Bool} {held : Bool}
theorem trodAll_four {t0 t1 t2 t3 : TypeId} {args : Array Value} {ds : List (DataW H)} {ps : List MemPlace} (h : DataW.TrodAll enc P w base spare held [t0, t1, t2, t3] args.toList ds ps) :
    ∃ v0 v1 v2 v3 d0 d1 d2 d3 p0 p1 p2 p3, args = #[v0, v1, v2, v3] ∧ ds = [d0, d1, d2, d3] ∧ ps = p0 ++ p1 ++ p2 ++ p3 ∧ DataW.Trod enc P w base spare held t0 v0 d0 p0 ∧ DataW.Trod enc P w base spare held t1 v1 d1 p1 ∧ DataW.Trod enc P w base spare held t2 v2 d2 p2 ∧ DataW.Trod enc P w base spare held t3 v3 d3 p3 := by
  obtain ⟨v0, vs0, d0, ds0, p0, q0, hargs, rfl, rfl, hd0, hr0⟩ := trodAll_cons h
  obtain ⟨v1, vs1, d1, ds1, p1, q1, rfl, rfl, rfl, hd1, hr1⟩ := trodAll_cons hr0
  obtain ⟨v2, vs2, d2, ds2, p2, q2, rfl, rfl, rfl, hd2, hr2⟩ := trodAll_cons hr1
  obtain ⟨v3, vs3, d3, ds3, p3, q3, rfl, rfl, rfl, hd3, hr3⟩ := trodAll_cons hr2
  obtain ⟨rfl, rfl, rfl⟩ := trodAll_nil hr3
  exact ⟨v0, v1, v2, v3, d0, d1, d2, d3, p0, p1, p2, p3, by cases args; simp_all, rfl, by simp, hd0, hd1, hd2, hd3⟩
theorem trodAll_mk4 {t0 t1 t2 t3 : TypeId} {v0 v1 v2 v3 : Value} {d0 d1 d2 d3 : DataW H} {p0 p1 p2 p3 : List MemPlace} (h0 : DataW.Trod enc P w base spare held t0 v0 d0 p0) (h1 : DataW.Trod enc P w base spare held t1 v1 d1 p1) (h2 : DataW.Trod enc P w base spare held t2 v2 d2 p2) (h3 : DataW.Trod enc P w base spare held t3 v3 d3 p3) : DataW.TrodAll enc P w base spare held [t0, t1, t2, t3] [v0, v1, v2, v3] [d0, d1, d2, d3] (p0 ++ (p1 ++ (p2 ++ p3))) :=
  ⟨p0, (p1 ++ (p2 ++ p3)), h0, trodAll_mk3 h1 h2 h3, rfl⟩
end
theorem dec_int {d : Nat} {xs : List V} (h : TyV C (d + 1) 2 xs) : ∃ x : Int, xs = [.int .i64 x] ∧ (-9223372036854775808 ≤ x ∧ x ≤ 9223372036854775807) := by
  obtain ⟨x, e, a, b⟩ := ty_int (ti := ⟨.int .i64, 1, 8, false, [.int .i64], [.int .i64 0]⟩) rfl rfl h
  exact ⟨x, e, a, b⟩
theorem dec_bytes {d : Nat} {xs : List V} (h : TyV C (d + 2) 22 xs) : ∃ x : List UInt8, xs = [.sl x.length (bytesV x)] ∧ x.length ≤ 9223372036854775807 := by
  obtain ⟨x, e, a⟩ := ty_bytes (ti := ⟨.slice 5, 1, 24, false, [.sl], [.slice none 0 0]⟩) (te := ⟨.int .u8, 1, 1, false, [.int .u8], [.int .u8 0]⟩) rfl rfl rfl rfl h
  exact ⟨x, e, a⟩
theorem dec_laws_HeadB {d : Nat} {xs : List V} (h : TyV C (d + 3) 24 xs) : ∃ x : HB, xs = [.int .i64 x.hgt, .int .i64 x.tim, .sl x.root.length (bytesV x.root), .sl x.set.length (bytesV x.set), .sl x.nxt.length (bytesV x.nxt)] ∧ ((-9223372036854775808 ≤ x.hgt ∧ x.hgt ≤ 9223372036854775807) ∧ (-9223372036854775808 ≤ x.tim ∧ x.tim ≤ 9223372036854775807) ∧ x.root.length ≤ 9223372036854775807 ∧ x.set.length ≤ 9223372036854775807 ∧ x.nxt.length ≤ 9223372036854775807) := by
  have hs := ty_struct (ti := ⟨.struct [(0, 2), (1, 2), (2, 22), (3, 22), (4, 22)], 5, 88, true, [.int .i64, .int .i64, .sl, .sl, .sl], [.int .i64 0, .int .i64 0, .slice none 0 0, .slice none 0 0, .slice none 0 0]⟩) rfl rfl h
  simp only [List.map_cons, List.map_nil, catV] at hs
  obtain ⟨a0, b0, rfl, h0, a1, b1, rfl, h1, a2, b2, rfl, h2, a3, b3, rfl, h3, a4, b4, rfl, h4, rfl⟩ := hs
  obtain ⟨x0, rfl, p0⟩ := dec_int h0
  obtain ⟨x1, rfl, p1⟩ := dec_int h1
  obtain ⟨x2, rfl, p2⟩ := dec_bytes h2
  obtain ⟨x3, rfl, p3⟩ := dec_bytes h3
  obtain ⟨x4, rfl, p4⟩ := dec_bytes h4
  exact ⟨⟨x0, x1, x2, x3, x4⟩, rfl, p0, p1, p2, p3, p4⟩
theorem dec_laws_Validator {d : Nat} {xs : List V} (h : TyV C (d + 3) 65 xs) : ∃ x : Vd, xs = [.sl x.key.length (bytesV x.key), .int .i64 x.pow] ∧ (x.key.length ≤ 9223372036854775807 ∧ (-9223372036854775808 ≤ x.pow ∧ x.pow ≤ 9223372036854775807)) := by
  have hs := ty_struct (ti := ⟨.struct [(0, 22), (1, 2)], 2, 32, true, [.sl, .int .i64], [.slice none 0 0, .int .i64 0]⟩) rfl rfl h
  simp only [List.map_cons, List.map_nil, catV] at hs
  obtain ⟨a0, b0, rfl, h0, a1, b1, rfl, h1, rfl⟩ := hs
  obtain ⟨x0, rfl, p0⟩ := dec_bytes h0
  obtain ⟨x1, rfl, p1⟩ := dec_int h1
  exact ⟨⟨x0, x1⟩, rfl, p0, p1⟩
theorem dec___laws_Validator {d : Nat} {xs : List V} (h : TyV C (d + 4) 25 xs) : ∃ x : List (Vd), xs = [.sl x.length (vsS x)] ∧ (x.length ≤ 9223372036854775807 ∧ ∀ v ∈ x, (v.key.length ≤ 9223372036854775807 ∧ (-9223372036854775808 ≤ v.pow ∧ v.pow ≤ 9223372036854775807))) := by
  obtain ⟨rows, rfl, hl, hr⟩ := ty_slice (ti := ⟨.slice 65, 1, 24, false, [.sl], [.slice none 0 0]⟩) rfl rfl h
  obtain ⟨l, h1, h2, h3⟩ := rows_toldP vdS (fun v => (v.key.length ≤ 9223372036854775807 ∧ (-9223372036854775808 ≤ v.pow ∧ v.pow ≤ 9223372036854775807))) rows (fun r hm => dec_laws_Validator (hr r hm))
  refine ⟨l, ?_, ⟨by rw [h2]; exact hl, h3⟩⟩
  rw [h1, ← h2]
  first
    | rfl
    | (unfold ints; rw [List.map_eq_flatMap])
theorem dec_bool {d : Nat} {xs : List V} (h : TyV C (d + 1) 4 xs) : ∃ x : Bool, xs = [.bool x] ∧ True := by
  obtain ⟨x, e⟩ := ty_bool (ti := ⟨.bool, 1, 1, false, [.bool], [.bool false]⟩) rfl rfl h
  exact ⟨x, e, trivial⟩
theorem dec_____byte {d : Nat} {xs : List V} (h : TyV C (d + 3) 26 xs) : ∃ x : List (List UInt8), xs = [.sl x.length (psS x)] ∧ (x.length ≤ 9223372036854775807 ∧ ∀ v ∈ x, v.length ≤ 9223372036854775807) := by
  obtain ⟨rows, rfl, hl, hr⟩ := ty_slice (ti := ⟨.slice 22, 1, 24, false, [.sl], [.slice none 0 0]⟩) rfl rfl h
  obtain ⟨l, h1, h2, h3⟩ := rows_toldP (fun b => [bS b]) (fun v => v.length ≤ 9223372036854775807) rows (fun r hm => dec_bytes (hr r hm))
  refine ⟨l, ?_, ⟨by rw [h2]; exact hl, h3⟩⟩
  rw [h1, ← h2]
  first
    | rfl
    | (unfold ints; rw [List.map_eq_flatMap])
theorem dec_laws_Trust {d : Nat} {xs : List V} (h : TyV C (d + 5) 28 xs) : ∃ x : Tr, xs = [.int .i64 x.hd.hgt, .int .i64 x.hd.tim, .sl x.hd.root.length (bytesV x.hd.root), .sl x.hd.set.length (bytesV x.hd.set), .sl x.hd.nxt.length (bytesV x.hd.nxt), .sl x.nx.length (vsS x.nx), .int .i64 x.per, .bool x.pau, .sl x.roots.length (psS x.roots), .int .i64 x.frm] ∧ (((-9223372036854775808 ≤ x.hd.hgt ∧ x.hd.hgt ≤ 9223372036854775807) ∧ (-9223372036854775808 ≤ x.hd.tim ∧ x.hd.tim ≤ 9223372036854775807) ∧ x.hd.root.length ≤ 9223372036854775807 ∧ x.hd.set.length ≤ 9223372036854775807 ∧ x.hd.nxt.length ≤ 9223372036854775807) ∧ (x.nx.length ≤ 9223372036854775807 ∧ ∀ v ∈ x.nx, (v.key.length ≤ 9223372036854775807 ∧ (-9223372036854775808 ≤ v.pow ∧ v.pow ≤ 9223372036854775807))) ∧ (-9223372036854775808 ≤ x.per ∧ x.per ≤ 9223372036854775807) ∧ True ∧ (x.roots.length ≤ 9223372036854775807 ∧ ∀ v ∈ x.roots, v.length ≤ 9223372036854775807) ∧ (-9223372036854775808 ≤ x.frm ∧ x.frm ≤ 9223372036854775807)) := by
  have hs := ty_struct (ti := ⟨.struct [(0, 24), (5, 25), (6, 2), (7, 4), (8, 26), (9, 2)], 10, 160, true, [.int .i64, .int .i64, .sl, .sl, .sl, .sl, .int .i64, .bool, .sl, .int .i64], [.int .i64 0, .int .i64 0, .slice none 0 0, .slice none 0 0, .slice none 0 0, .slice none 0 0, .int .i64 0, .bool false, .slice none 0 0, .int .i64 0]⟩) rfl rfl h
  simp only [List.map_cons, List.map_nil, catV] at hs
  obtain ⟨a0, b0, rfl, h0, a1, b1, rfl, h1, a2, b2, rfl, h2, a3, b3, rfl, h3, a4, b4, rfl, h4, a5, b5, rfl, h5, rfl⟩ := hs
  obtain ⟨x0, rfl, p0⟩ := dec_laws_HeadB h0
  obtain ⟨x1, rfl, p1⟩ := dec___laws_Validator h1
  obtain ⟨x2, rfl, p2⟩ := dec_int h2
  obtain ⟨x3, rfl, p3⟩ := dec_bool h3
  obtain ⟨x4, rfl, p4⟩ := dec_____byte h4
  obtain ⟨x5, rfl, p5⟩ := dec_int h5
  exact ⟨⟨x0, x1, x2, x3, x4, x5⟩, rfl, p0, p1, p2, p3, p4, p5⟩
theorem dec_laws_Proof {d : Nat} {xs : List V} (h : TyV C (d + 4) 97 xs) : ∃ x : Vt, xs = [.int .i64 x.spl, .int .i64 x.cnt, .sl x.path.length (psS x.path)] ∧ ((-9223372036854775808 ≤ x.spl ∧ x.spl ≤ 9223372036854775807) ∧ (-9223372036854775808 ≤ x.cnt ∧ x.cnt ≤ 9223372036854775807) ∧ (x.path.length ≤ 9223372036854775807 ∧ ∀ v ∈ x.path, v.length ≤ 9223372036854775807)) := by
  have hs := ty_struct (ti := ⟨.struct [(0, 2), (1, 2), (2, 26)], 3, 40, true, [.int .i64, .int .i64, .sl], [.int .i64 0, .int .i64 0, .slice none 0 0]⟩) rfl rfl h
  simp only [List.map_cons, List.map_nil, catV] at hs
  obtain ⟨a0, b0, rfl, h0, a1, b1, rfl, h1, a2, b2, rfl, h2, rfl⟩ := hs
  obtain ⟨x0, rfl, p0⟩ := dec_int h0
  obtain ⟨x1, rfl, p1⟩ := dec_int h1
  obtain ⟨x2, rfl, p2⟩ := dec_____byte h2
  exact ⟨⟨0, 0, [], x0, x1, x2⟩, rfl, p0, p1, p2⟩
theorem dec_laws_Signature {d : Nat} {xs : List V} (h : TyV C (d + 5) 99 xs) : ∃ x : Vt, xs = [.int .i64 x.leaf, .sl x.parts.length (psS x.parts), .int .i64 x.spl, .int .i64 x.cnt, .sl x.path.length (psS x.path)] ∧ ((-9223372036854775808 ≤ x.leaf ∧ x.leaf ≤ 9223372036854775807) ∧ (x.parts.length ≤ 9223372036854775807 ∧ ∀ v ∈ x.parts, v.length ≤ 9223372036854775807) ∧ ((-9223372036854775808 ≤ x.spl ∧ x.spl ≤ 9223372036854775807) ∧ (-9223372036854775808 ≤ x.cnt ∧ x.cnt ≤ 9223372036854775807) ∧ (x.path.length ≤ 9223372036854775807 ∧ ∀ v ∈ x.path, v.length ≤ 9223372036854775807))) := by
  have hs := ty_struct (ti := ⟨.struct [(0, 2), (1, 26), (2, 97)], 5, 72, true, [.int .i64, .sl, .int .i64, .int .i64, .sl], [.int .i64 0, .slice none 0 0, .int .i64 0, .int .i64 0, .slice none 0 0]⟩) rfl rfl h
  simp only [List.map_cons, List.map_nil, catV] at hs
  obtain ⟨a0, b0, rfl, h0, a1, b1, rfl, h1, a2, b2, rfl, h2, rfl⟩ := hs
  obtain ⟨x0, rfl, p0⟩ := dec_int h0
  obtain ⟨x1, rfl, p1⟩ := dec_____byte h1
  obtain ⟨x2, rfl, p2⟩ := dec_laws_Proof h2
  exact ⟨⟨0, x0, x1, x2.spl, x2.cnt, x2.path⟩, rfl, p0, p1, p2⟩
theorem dec_laws_Vote {d : Nat} {xs : List V} (h : TyV C (d + 6) 101 xs) : ∃ x : Vt, xs = [.int .i64 x.plc, .int .i64 x.leaf, .sl x.parts.length (psS x.parts), .int .i64 x.spl, .int .i64 x.cnt, .sl x.path.length (psS x.path)] ∧ ((-9223372036854775808 ≤ x.plc ∧ x.plc ≤ 9223372036854775807) ∧ ((-9223372036854775808 ≤ x.leaf ∧ x.leaf ≤ 9223372036854775807) ∧ (x.parts.length ≤ 9223372036854775807 ∧ ∀ v ∈ x.parts, v.length ≤ 9223372036854775807) ∧ ((-9223372036854775808 ≤ x.spl ∧ x.spl ≤ 9223372036854775807) ∧ (-9223372036854775808 ≤ x.cnt ∧ x.cnt ≤ 9223372036854775807) ∧ (x.path.length ≤ 9223372036854775807 ∧ ∀ v ∈ x.path, v.length ≤ 9223372036854775807)))) := by
  have hs := ty_struct (ti := ⟨.struct [(0, 2), (1, 99)], 6, 80, true, [.int .i64, .int .i64, .sl, .int .i64, .int .i64, .sl], [.int .i64 0, .int .i64 0, .slice none 0 0, .int .i64 0, .int .i64 0, .slice none 0 0]⟩) rfl rfl h
  simp only [List.map_cons, List.map_nil, catV] at hs
  obtain ⟨a0, b0, rfl, h0, a1, b1, rfl, h1, rfl⟩ := hs
  obtain ⟨x0, rfl, p0⟩ := dec_int h0
  obtain ⟨x1, rfl, p1⟩ := dec_laws_Signature h1
  exact ⟨⟨x0, x1.leaf, x1.parts, x1.spl, x1.cnt, x1.path⟩, rfl, p0, p1⟩
theorem dec___laws_Vote {d : Nat} {xs : List V} (h : TyV C (d + 7) 29 xs) : ∃ x : List (Vt), xs = [.sl x.length (vtsS x)] ∧ (x.length ≤ 9223372036854775807 ∧ ∀ v ∈ x, ((-9223372036854775808 ≤ v.plc ∧ v.plc ≤ 9223372036854775807) ∧ ((-9223372036854775808 ≤ v.leaf ∧ v.leaf ≤ 9223372036854775807) ∧ (v.parts.length ≤ 9223372036854775807 ∧ ∀ w ∈ v.parts, w.length ≤ 9223372036854775807) ∧ ((-9223372036854775808 ≤ v.spl ∧ v.spl ≤ 9223372036854775807) ∧ (-9223372036854775808 ≤ v.cnt ∧ v.cnt ≤ 9223372036854775807) ∧ (v.path.length ≤ 9223372036854775807 ∧ ∀ w ∈ v.path, w.length ≤ 9223372036854775807))))) := by
  obtain ⟨rows, rfl, hl, hr⟩ := ty_slice (ti := ⟨.slice 101, 1, 24, false, [.sl], [.slice none 0 0]⟩) rfl rfl h
  obtain ⟨l, h1, h2, h3⟩ := rows_toldP vtS (fun v => ((-9223372036854775808 ≤ v.plc ∧ v.plc ≤ 9223372036854775807) ∧ ((-9223372036854775808 ≤ v.leaf ∧ v.leaf ≤ 9223372036854775807) ∧ (v.parts.length ≤ 9223372036854775807 ∧ ∀ w ∈ v.parts, w.length ≤ 9223372036854775807) ∧ ((-9223372036854775808 ≤ v.spl ∧ v.spl ≤ 9223372036854775807) ∧ (-9223372036854775808 ≤ v.cnt ∧ v.cnt ≤ 9223372036854775807) ∧ (v.path.length ≤ 9223372036854775807 ∧ ∀ w ∈ v.path, w.length ≤ 9223372036854775807))))) rows (fun r hm => dec_laws_Vote (hr r hm))
  refine ⟨l, ?_, ⟨by rw [h2]; exact hl, h3⟩⟩
  rw [h1, ← h2]
  first
    | rfl
    | (unfold ints; rw [List.map_eq_flatMap])
theorem dec_laws_Signed {d : Nat} {xs : List V} (h : TyV C (d + 8) 31 xs) : ∃ x : Sg, xs = [.int .i64 x.hd.hgt, .int .i64 x.hd.tim, .sl x.hd.root.length (bytesV x.hd.root), .sl x.hd.set.length (bytesV x.hd.set), .sl x.hd.nxt.length (bytesV x.hd.nxt), .sl x.vs.length (vtsS x.vs)] ∧ (((-9223372036854775808 ≤ x.hd.hgt ∧ x.hd.hgt ≤ 9223372036854775807) ∧ (-9223372036854775808 ≤ x.hd.tim ∧ x.hd.tim ≤ 9223372036854775807) ∧ x.hd.root.length ≤ 9223372036854775807 ∧ x.hd.set.length ≤ 9223372036854775807 ∧ x.hd.nxt.length ≤ 9223372036854775807) ∧ (x.vs.length ≤ 9223372036854775807 ∧ ∀ v ∈ x.vs, ((-9223372036854775808 ≤ v.plc ∧ v.plc ≤ 9223372036854775807) ∧ ((-9223372036854775808 ≤ v.leaf ∧ v.leaf ≤ 9223372036854775807) ∧ (v.parts.length ≤ 9223372036854775807 ∧ ∀ w ∈ v.parts, w.length ≤ 9223372036854775807) ∧ ((-9223372036854775808 ≤ v.spl ∧ v.spl ≤ 9223372036854775807) ∧ (-9223372036854775808 ≤ v.cnt ∧ v.cnt ≤ 9223372036854775807) ∧ (v.path.length ≤ 9223372036854775807 ∧ ∀ w ∈ v.path, w.length ≤ 9223372036854775807)))))) := by
  have hs := ty_struct (ti := ⟨.struct [(0, 24), (5, 29)], 6, 112, true, [.int .i64, .int .i64, .sl, .sl, .sl, .sl], [.int .i64 0, .int .i64 0, .slice none 0 0, .slice none 0 0, .slice none 0 0, .slice none 0 0]⟩) rfl rfl h
  simp only [List.map_cons, List.map_nil, catV] at hs
  obtain ⟨a0, b0, rfl, h0, a1, b1, rfl, h1, rfl⟩ := hs
  obtain ⟨x0, rfl, p0⟩ := dec_laws_HeadB h0
  obtain ⟨x1, rfl, p1⟩ := dec___laws_Vote h1
  exact ⟨⟨x0, x1⟩, rfl, p0, p1⟩
theorem args_told (xs : List V) (h : TyAs C 8 [28, 31, 25, 2] xs) : ∃ (t : Tr) (a : Sg) (p : List (Vd)) (n : Int), xs = [.agg [.int .i64 t.hd.hgt, .int .i64 t.hd.tim, .sl t.hd.root.length (bytesV t.hd.root), .sl t.hd.set.length (bytesV t.hd.set), .sl t.hd.nxt.length (bytesV t.hd.nxt), .sl t.nx.length (vsS t.nx), .int .i64 t.per, .bool t.pau, .sl t.roots.length (psS t.roots), .int .i64 t.frm], .agg [.int .i64 a.hd.hgt, .int .i64 a.hd.tim, .sl a.hd.root.length (bytesV a.hd.root), .sl a.hd.set.length (bytesV a.hd.set), .sl a.hd.nxt.length (bytesV a.hd.nxt), .sl a.vs.length (vtsS a.vs)], .sl p.length (vsS p), .int .i64 n] ∧ (((-9223372036854775808 ≤ t.hd.hgt ∧ t.hd.hgt ≤ 9223372036854775807) ∧ (-9223372036854775808 ≤ t.hd.tim ∧ t.hd.tim ≤ 9223372036854775807) ∧ t.hd.root.length ≤ 9223372036854775807 ∧ t.hd.set.length ≤ 9223372036854775807 ∧ t.hd.nxt.length ≤ 9223372036854775807) ∧ (t.nx.length ≤ 9223372036854775807 ∧ ∀ v ∈ t.nx, (v.key.length ≤ 9223372036854775807 ∧ (-9223372036854775808 ≤ v.pow ∧ v.pow ≤ 9223372036854775807))) ∧ (-9223372036854775808 ≤ t.per ∧ t.per ≤ 9223372036854775807) ∧ True ∧ (t.roots.length ≤ 9223372036854775807 ∧ ∀ v ∈ t.roots, v.length ≤ 9223372036854775807) ∧ (-9223372036854775808 ≤ t.frm ∧ t.frm ≤ 9223372036854775807)) ∧ (((-9223372036854775808 ≤ a.hd.hgt ∧ a.hd.hgt ≤ 9223372036854775807) ∧ (-9223372036854775808 ≤ a.hd.tim ∧ a.hd.tim ≤ 9223372036854775807) ∧ a.hd.root.length ≤ 9223372036854775807 ∧ a.hd.set.length ≤ 9223372036854775807 ∧ a.hd.nxt.length ≤ 9223372036854775807) ∧ (a.vs.length ≤ 9223372036854775807 ∧ ∀ v ∈ a.vs, ((-9223372036854775808 ≤ v.plc ∧ v.plc ≤ 9223372036854775807) ∧ ((-9223372036854775808 ≤ v.leaf ∧ v.leaf ≤ 9223372036854775807) ∧ (v.parts.length ≤ 9223372036854775807 ∧ ∀ w ∈ v.parts, w.length ≤ 9223372036854775807) ∧ ((-9223372036854775808 ≤ v.spl ∧ v.spl ≤ 9223372036854775807) ∧ (-9223372036854775808 ≤ v.cnt ∧ v.cnt ≤ 9223372036854775807) ∧ (v.path.length ≤ 9223372036854775807 ∧ ∀ w ∈ v.path, w.length ≤ 9223372036854775807)))))) ∧ (p.length ≤ 9223372036854775807 ∧ ∀ v ∈ p, (v.key.length ≤ 9223372036854775807 ∧ (-9223372036854775808 ≤ v.pow ∧ v.pow ≤ 9223372036854775807))) ∧ (-9223372036854775808 ≤ n ∧ n ≤ 9223372036854775807) := by
  simp only [TyAs] at h
  obtain ⟨x0, r0, rfl, ⟨c0, h0, g0⟩, x1, r1, rfl, ⟨c1, h1, g1⟩, x2, r2, rfl, ⟨c2, h2, g2⟩, x3, r3, rfl, ⟨c3, h3, g3⟩, rfl⟩ := h
  rw [show C.ty 28 = some ⟨.struct [(0, 24), (5, 25), (6, 2), (7, 4), (8, 26), (9, 2)], 10, 160, true, [.int .i64, .int .i64, .sl, .sl, .sl, .sl, .int .i64, .bool, .sl, .int .i64], [.int .i64 0, .int .i64 0, .slice none 0 0, .slice none 0 0, .slice none 0 0, .slice none 0 0, .int .i64 0, .bool false, .slice none 0 0, .int .i64 0]⟩ from rfl] at g0
  rw [show C.ty 31 = some ⟨.struct [(0, 24), (5, 29)], 6, 112, true, [.int .i64, .int .i64, .sl, .sl, .sl, .sl], [.int .i64 0, .int .i64 0, .slice none 0 0, .slice none 0 0, .slice none 0 0, .slice none 0 0]⟩ from rfl] at g1
  rw [show C.ty 25 = some ⟨.slice 65, 1, 24, false, [.sl], [.slice none 0 0]⟩ from rfl] at g2
  rw [show C.ty 2 = some ⟨.int .i64, 1, 8, false, [.int .i64], [.int .i64 0]⟩ from rfl] at g3
  obtain ⟨t, rfl, p0⟩ := dec_laws_Trust (d := 3) h0
  obtain ⟨a, rfl, p1⟩ := dec_laws_Signed (d := 0) h1
  obtain ⟨p, rfl, p2⟩ := dec___laws_Validator (d := 4) h2
  obtain ⟨n, rfl, p3⟩ := dec_int (d := 7) h3
  replace g0 := (g0.resolve_right (fun h => by cases h.1)).2
  replace g1 := (g1.resolve_right (fun h => by cases h.1)).2
  replace g2 := (g2.resolve_left (fun h => by cases h.1)).2
  simp only [List.cons.injEq, and_true] at g2
  replace g3 := (g3.resolve_left (fun h => by cases h.1)).2
  simp only [List.cons.injEq, and_true] at g3
  exact ⟨t, a, p, n, by rw [g0];  rw [g1];  rw [← g2];  rw [← g3], p0, p1, p2, p3⟩
theorem tab_ok : CfgOk2 Tryz.prog tabX.cfg := tabX.ok (by kernel_rfl) (by kernel_rfl) (by kernel_rfl) (by kernel_rfl) (fun p hp => by
  have e : tabX.prims = [] := rfl
  rw [e] at hp; cases hp)
theorem Tryz.own : ownKnob Tryz.prog.godebug = none := by kernel_rfl
theorem Tryz.laidOut : laidOutB Tryz.prog = true := by kernel_rfl
set_option maxRecDepth 100000 in
theorem stepNext_lifted (os : Os) (started : os.Started) (H : Type) (enc : TypeId × Value → H) :
    ReturnsInHanded {} Tryz.checked os 4 .any (Rows.fnExactStepNextSpec.pre6 enc Tryz.prog Tryz.f4 Rows.fnExactStepNextRow.domain false) (Rows.fnExactStepNextSpec.post enc Tryz.prog Tryz.f4 false true false false) := by
  refine returnsInHanded_of_change (C := Tryz.checked) Tryz.own started (by kernel_rfl) Tryz.func4
    (ChangeSpec.witness6 (enc := enc) (C := Tryz.checked) false ⟨#[], #[.agg #[.int .i64 0, .int .i64 0, .slice none 0 0, .slice none 0 0, .slice none 0 0, .slice none 0 0, .int .i64 0, .bool false, .slice none 0 0, .int .i64 0], .agg #[.int .i64 0, .int .i64 0, .slice none 0 0, .slice none 0 0, .slice none 0 0, .slice none 0 0], .slice none 0 0, .int .i64 0], []⟩ 8 (by kernel_rfl) (by kernel_rfl) (by kernel_rfl) (by kernel_rfl)) ?_
  intro W base args ds gs before hval0 hW _ _
  have hval : ∀ (j : Nat) t v, Tryz.f4.params[j]? = some t → args[j]? = some v → Value.okWide Tryz.prog W .any base t v := hval0
  have hW' := hW
  obtain ⟨p, q, hA0, hV, rfl, hfz, hnd⟩ := hW
  have hA : DataW.TrodAll enc Tryz.prog W 0 (fun _ => true) true Tryz.f4.params.toList args.toList ds p := hA0
  rw [Tryz.params4] at hA hval
  have hAk := hA
  obtain ⟨v0, v1, v2, v3, d0, d1, d2, d3, p0, p1, p2, p3, rfl, rfl, rfl, h0, h1, h2, h3⟩ := trodAll_four hA
  obtain ⟨rfl, rfl⟩ := trodVars_none hV
  clear hA0 hval0
  obtain ⟨xs, hxs, hr⟩ := open_args (C := C) tab_ok.toCfgOk (d := 8) (base := base) _ _ _ _ (by kernel_rfl) hAk (fun j t v h1 h2 => hval j t v (by simpa using h1) (by simpa using h2))
  simp only [List.append_nil] at hW'
  have hlt : ∀ y ∈ p0 ++ p1 ++ p2 ++ p3, y.block < W.heap.size := fun y hy => by simpa using hW'.lt y hy
  have harg0 : ∀ W' : World, Below W.heap.size W W' → DataW.Trod enc Tryz.prog W' 0 (fun b => decide (b < W.heap.size)) true 28 v0 d0 p0 :=
    fun W' hn => Below.trod Tryz.laidOut (by kernel_rfl) (of_decide_eq_true (by kernel_rfl)) h0 hn (fun y hy => hlt y (by simp [hy]))
  have harg1 : ∀ W' : World, Below W.heap.size W W' → DataW.Trod enc Tryz.prog W' 0 (fun b => decide (b < W.heap.size)) true 31 v1 d1 p1 :=
    fun W' hn => Below.trod Tryz.laidOut (by kernel_rfl) (of_decide_eq_true (by kernel_rfl)) h1 hn (fun y hy => hlt y (by simp [hy]))
  have harg2 : ∀ W' : World, Below W.heap.size W W' → DataW.Trod enc Tryz.prog W' 0 (fun b => decide (b < W.heap.size)) true 25 v2 d2 p2 :=
    fun W' hn => Below.trod Tryz.laidOut (by kernel_rfl) (of_decide_eq_true (by kernel_rfl)) h2 hn (fun y hy => hlt y (by simp [hy]))
  have harg3 : ∀ W' : World, Below W.heap.size W W' → DataW.Trod enc Tryz.prog W' 0 (fun b => decide (b < W.heap.size)) true 2 v3 d3 p3 :=
    fun W' hn => Below.trod Tryz.laidOut (by kernel_rfl) (of_decide_eq_true (by kernel_rfl)) h3 hn (fun y hy => hlt y (by simp [hy]))
  refine (law_callsE (C := C) tab_ok (f := 4) (d := 8) (tb := 4) (fn := Tryz.f4) rfl rfl (ti := ⟨.bool, 1, 1, false, [.bool], [.bool false]⟩) rfl rfl rfl (fun xs hxx => by
    obtain ⟨t, a, p, n, rfl, ht, ha, hp, hn⟩ := args_told xs hxx
    exact Vote.c4 t a p n ht ha hp hn) hxs hr).mono fun e W' ⟨he, hn⟩ => ?_
  subst he
  exact ⟨_, rfl, _, _, _, [], _, [], hW', trodAll_mk1 (shut_bool Tryz.underlying4 true), trodAll_mk4 (harg0 _ hn) (harg1 _ hn) (harg2 _ hn) (harg3 _ hn), rfl, hn.frame _, fun h => by cases h⟩
theorem stepNext_holds : Rows.FnExactStepNextSaid :=
  OpenClaim.holds_of_wide 4 Tryz.f4 rfl rfl rfl rfl rfl rfl rfl ⟨rfl, rfl, rfl, rfl, rfl⟩ rfl rfl rfl rfl rfl (by kernel_rfl) Tryz.func4 (by kernel_rfl)
    (of_decide_eq_true (by kernel_rfl)) (by unfold Func.isWrapper; first | (rw [if_pos (by decide +kernel)]; kernel_rfl) | (rw [if_neg (by decide +kernel)]; exact ⟨rfl, rfl⟩))
    (fun os started H enc _ => stepNext_lifted os started H enc)
#print axioms stepNext_holds
end Go.Proofs.YtgbpimaidhhnjaaGreat
