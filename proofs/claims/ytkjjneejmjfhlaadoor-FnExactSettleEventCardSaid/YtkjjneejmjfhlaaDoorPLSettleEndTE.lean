/-
  FnExactSettleEvent: for every input the call returns true, and each argument reads behind it as it read before; the tables that its row lists are tied to the program's text. No condition.
-/
import Derived.Test.YtkjjneejmjfhlaaDoorPLSettle2TE
import Derived.Test.YtkjjneejmjfhlaaDoorPLInsertTE
import Derived.Test.YtkjjneejmjfhlaaDoorPLTrimTE
import Derived.Test.YtkjjneejmjfhlaaDoorPIEnd
import Derived.Test.YtkjjneejmjfhlaaDoorCards
import Derived.Test.YtkjjneejmjfhlaaDoorTie
import Derived.ProofKit
import Derived.LaidMore
import Derived.OpenShut
import Derived.Lay
import Derived.SevenTiedAt
import Derived.Stop.Joined
namespace Go.Proofs.YtkjjneejmjfhlaaDoor
open Go Go.PI Go.PI.Led EqE Go.ChangeShapes Go.WideShapes Go.ChangeAt Go.RowKit
set_option linter.unusedVariables false

theorem ints_told (t : Nat) (ti : TI) (h : C.ty t = some ti) (ht : ti.ty = .int .i64) {d : Nat} (rows : List (List V)) (hr : ∀ r ∈ rows, TyV C (d + 1) t r) : ∃ l : List Int, rows.flatten = ints l ∧ l.length = rows.length := by
  obtain ⟨l, h1, h2⟩ := rows_told (fun b : Int => [V.int .i64 b]) rows (fun r hm => by
    obtain ⟨i, e, _, _⟩ := ty_int h ht (hr r hm)
    exact ⟨i, e⟩)
  refine ⟨l, ?_, h2⟩
  rw [h1]
  unfold ints
  rw [List.map_eq_flatMap]
theorem args_told (xs : List V) (h : TyAs C 5 [38, 51] xs) : ∃ (k s t n : Int) (d : List Int) (c : Int) (p : Bool) (ek en ea : Int) (to : ByteArray),
    xs = [.agg [.int .i64 k, .int .i64 s, .int .i64 t, .int .i64 n, .sl d.length (ints d), .int .i64 c, .bool p], .agg [.int .i64 ek, .int .i64 en, .int .i64 ea, .str to]] ∧ d.length ≤ 9223372036854775807 ∧ to.size ≤ 9223372036854775807 := by
  simp only [TyAs] at h
  obtain ⟨x, r, rfl, ⟨cs, hx, hxa⟩, y, r', rfl, ⟨cs', hy, hya⟩, rfl⟩ := h
  have t24 : C.ty 38 = some ⟨.struct [(0, 2), (1, 2), (2, 2), (3, 2), (4, 24), (5, 2), (6, 4)], 7, 72, true, [.int .i64, .int .i64, .int .i64, .int .i64, .sl, .int .i64, .bool], [.int .i64 0, .int .i64 0, .int .i64 0, .int .i64 0, .slice none 0 0, .int .i64 0, .bool false]⟩ := rfl
  have t26 : C.ty 51 = some ⟨.struct [(0, 2), (1, 2), (2, 2), (3, 9)], 4, 40, true, [.int .i64, .int .i64, .int .i64, .str], [.int .i64 0, .int .i64 0, .int .i64 0, .string ⟨#[]⟩]⟩ := rfl
  have t25 : C.ty 24 = some ⟨.slice 2, 1, 24, false, [.sl], [.slice none 0 0]⟩ := rfl
  have t2 : C.ty 2 = some ⟨.int .i64, 1, 8, false, [.int .i64], [.int .i64 0]⟩ := rfl
  have t4 : C.ty 4 = some ⟨.bool, 1, 1, false, [.bool], [.bool false]⟩ := rfl
  have t9 : C.ty 9 = some ⟨.str, 1, 16, false, [.str], [.string ⟨#[]⟩]⟩ := rfl
  have hm : Go.maxLen = 9223372036854775807 := rfl
  rw [t24] at hxa
  rw [t26] at hya
  rcases hxa with ⟨_, rfl⟩ | ⟨h, _⟩
  · rcases hya with ⟨_, rfl⟩ | ⟨h, _⟩
    · have hs := ty_struct t24 rfl hx
      simp only [List.map_cons, List.map_nil, catV] at hs
      obtain ⟨a1, b1, rfl, h1, a2, b2, rfl, h2, a3, b3, rfl, h3, a4, b4, rfl, h4, a5, b5, rfl, h5, a6, b6, rfl, h6, a7, b7, rfl, h7, rfl⟩ := hs
      obtain ⟨k, rfl, _, _⟩ := ty_int t2 rfl h1
      obtain ⟨s, rfl, _, _⟩ := ty_int t2 rfl h2
      obtain ⟨t, rfl, _, _⟩ := ty_int t2 rfl h3
      obtain ⟨n, rfl, _, _⟩ := ty_int t2 rfl h4
      obtain ⟨rows, rfl, hl, hrow⟩ := ty_slice t25 rfl h5
      obtain ⟨c, rfl, _, _⟩ := ty_int t2 rfl h6
      obtain ⟨p, rfl⟩ := ty_bool t4 rfl h7
      obtain ⟨d, q1, q2⟩ := ints_told _ _ t2 rfl rows hrow
      have hs2 := ty_struct t26 rfl hy
      simp only [List.map_cons, List.map_nil, catV] at hs2
      obtain ⟨a1, b1, rfl, h1, a2, b2, rfl, h2, a3, b3, rfl, h3, a4, b4, rfl, h4, rfl⟩ := hs2
      obtain ⟨ek, rfl, _, _⟩ := ty_int t2 rfl h1
      obtain ⟨en, rfl, _, _⟩ := ty_int t2 rfl h2
      obtain ⟨ea, rfl, _, _⟩ := ty_int t2 rfl h3
      obtain ⟨to, rfl, l4⟩ := ty_str t9 rfl h4
      refine ⟨k, s, t, n, d, c, p, ek, en, ea, to, ?_, by omega, by omega⟩
      rw [q1, ← q2]
      rfl
    · cases h
  · cases h
theorem tab_ok : CfgOk2 Tryd.prog tabE.cfg := tabE.ok (by kernel_rfl) (by kernel_rfl) (by kernel_rfl) (by kernel_rfl) (fun p hp => by
  have e : tabE.prims = [(50, .insert 2), (54, .trim)] := rfl
  rw [e] at hp
  simp only [List.mem_cons, List.not_mem_nil, or_false] at hp
  rcases hp with rfl | rfl
  · exact insert_ok
  · exact trim_ok)

theorem Tryd.own : ownKnob Tryd.prog.godebug = none := by kernel_rfl
theorem Tryd.laidOut : laidOutB Tryd.prog = true := by kernel_rfl
def laidVars : List (String × DataW Unit) := Rows.fnExactSettleEventRow.laid
set_option maxRecDepth 100000 in
theorem settleEvent_lifted (os : Os) (started : os.Started) (H : Type) (enc : TypeId × Value → H) :
    ReturnsInHanded {} Tryd.checked os 6 .any (fun w args => (Rows.fnExactSettleEventSpec.pre enc Tryd.prog Tryd.f6 Rows.fnExactSettleEventRow.domain false w args ∧ laidMetH Tryd.prog laidVars w) ∧ sizedMet enc Tryd.prog Tryd.f6 (OpenSpec.ofChange Rows.fnExactSettleEventSpec) false w args)
      (Rows.fnExactSettleEventSpec.post enc Tryd.prog Tryd.f6 false true false false) := by
  refine returnsInHanded_of_change_and (C := Tryd.checked) (X := fun w _ => laidMetH Tryd.prog laidVars w) (fun _ _ _ hh h => h.of_heap hh) Tryd.own started (by kernel_rfl) Tryd.func6
    (ChangeSpec.witness_shaped (enc := enc) (C := Tryd.checked) (os := os) (X := fun w _ => laidMetH Tryd.prog laidVars w) false (World.laidAll Tryd.prog os laidVars)
      #[.agg #[.int .i64 0, .int .i64 0, .int .i64 0, .int .i64 0, .slice none 0 0, .int .i64 0, .bool false], .agg #[.int .i64 0, .int .i64 0, .int .i64 0, .string ⟨#[]⟩]] 8 (World.laidAll_os _ _ _)
      (World.shaped_of_ZipB (by kernel_rfl) (by kernel_rfl)) (by kernel_rfl) (by kernel_rfl) (by kernel_rfl)
      (by rw [MakeChecks.laidMetH_plain _ _ _ (by kernel_rfl)]; exact laidMet_laidAll _ (by kernel_rfl) (by kernel_rfl))) ?_
  intro W base args ds gs before hval0 hW hc _ hL _
  have hval : ∀ (j : Nat) t v, Tryd.f6.params[j]? = some t → args[j]? = some v → Value.okWide Tryd.prog W .any base t v := hval0
  have hW' := hW
  obtain ⟨p, q, hA0, hV, rfl, hfz, hnd⟩ := hW
  have hA : DataW.TrodAll enc Tryd.prog W 0 (fun _ => true) true Tryd.f6.params.toList args.toList ds p := hA0
  rw [Tryd.params6] at hA hval
  have hAk := hA
  obtain ⟨v0, v1, d0, d1, p0, p1, rfl, rfl, rfl, h0, h1⟩ := trodAll_two hA
  obtain ⟨rfl, rfl⟩ := trodVars_none hV
  clear hA0 hval0
  obtain ⟨xs, hxs, hr⟩ := open_args (C := C) tab_ok.toCfgOk (d := 5) (base := base) _ _ _ _ (by kernel_rfl) hAk (fun j t v h1 h2 => hval j t v (by simpa using h1) (by simpa using h2))
  simp only [List.append_nil] at hW'
  have hlt : ∀ y ∈ p0 ++ p1, y.block < W.heap.size := fun y hy => by simpa using hW'.lt y (by simpa using hy)
  have harg0 : ∀ W' : World, Below W.heap.size W W' → DataW.Trod enc Tryd.prog W' 0 (fun b => decide (b < W.heap.size)) true 38 v0 d0 p0 :=
    fun W' hn => Below.trod Tryd.laidOut (by kernel_rfl) (of_decide_eq_true (by kernel_rfl)) h0 hn (fun y hy => hlt y (by simp [hy]))
  have harg1 : ∀ W' : World, Below W.heap.size W W' → DataW.Trod enc Tryd.prog W' 0 (fun b => decide (b < W.heap.size)) true 51 v1 d1 p1 :=
    fun W' hn => Below.trod Tryd.laidOut (by kernel_rfl) (of_decide_eq_true (by kernel_rfl)) h1 hn (fun y hy => hlt y (by simp [hy]))
  refine (law_callsE (C := C) tab_ok (f := 6) (d := 5) (tb := 4) (fn := Tryd.f6) rfl rfl (ti := ⟨.bool, 1, 1, false, [.bool], [.bool false]⟩) rfl rfl rfl (fun xs hx => by
    obtain ⟨k, s, t, n, d, c, p, ek, en, ea, to, rfl, hd, hto⟩ := args_told xs hx
    exact Led.c6 k s t n d c p ek en ea to hd hto) hxs hr).mono fun e W' ⟨he, hn⟩ => ?_
  subst he
  exact ⟨_, rfl, _, _, _, [], _, [], hW', trodAll_mk1 (shut_bool Tryd.underlying4 true), trodAll_mk2 (harg0 _ hn) (harg1 _ hn), rfl, hn.frame _, fun h => by cases h⟩

theorem settleEvent_row : Rows.FnExactSettleEventSaid :=
  OpenClaim.holds_of_wide 6 Tryd.f6 rfl rfl rfl rfl rfl rfl rfl ⟨rfl, rfl, rfl, rfl, rfl⟩ rfl rfl rfl rfl rfl (by kernel_rfl) Tryd.func6 (by kernel_rfl)
    (of_decide_eq_true (by kernel_rfl)) (by unfold Func.isWrapper; first | (rw [if_pos (by decide +kernel)]; kernel_rfl) | (rw [if_neg (by decide +kernel)]; exact ⟨rfl, rfl⟩))
    (fun os started H enc _ => settleEvent_lifted os started H enc)
theorem settleEvent_holds : Rows.FnExactSettleEventCardSaid :=
  Claim7.holds_tied_plain_at .later [] [.data, .pinned] true (true, "3befe14769bc51cef14bccf8393d2e1b4314e441c35692f600dd412f80d68da8") false
    settleEvent_row (fun _ h => by cases h) (by kernel_rfl) (fun _ h => by cases h) fnExactSettleEvent_row_tie rfl ⟨rfl, rfl⟩ (by kernel_rfl) rfl
    (fun f fn hf hfn => by
      obtain rfl : f = 6 := Option.some.inj ((show Tryd.prog.funcNamed Tryd.f6.name = some 6 by kernel_rfl).symm.trans hf) |>.symm
      obtain rfl : fn = Tryd.f6 := (Option.some.inj (Tryd.func6.symm.trans hfn)).symm
      exact ⟨by kernel_rfl, fun j t ht => by
        rw [Tryd.params6] at ht
        have hm : t ∈ [38, 51] := by simpa using Array.mem_of_getElem? ht
        have hall : ([38, 51].all fun u => !Tryd.prog.wantsStandIn u) = true := by kernel_rfl
        exact (show Tryd.prog.wantsStandIn t = false by simpa using List.all_eq_true.1 hall t hm)⟩)
    (by kernel_rfl)
#print axioms settleEvent_holds
end Go.Proofs.YtkjjneejmjfhlaaDoor
