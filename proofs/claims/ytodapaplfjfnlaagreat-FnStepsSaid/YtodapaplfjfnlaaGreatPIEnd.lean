/-
  PI: from the word without fuel to the call; what a reading of the arguments says of their cells.
-/
import Derived.Test.YtodapaplfjfnlaaGreatPIWords
namespace Go.PI
open Go
set_option linter.unusedVariables false
set_option linter.unusedSimpArgs false
section
variable {P : Program} {C : Cfg}
theorem law_callsE (hC : CfgOk2 P C) {f d tb : Nat} {ts : List Nat} {fn : Func} {ti : TI} (hf : C.code f = some fn) (hrt : fn.resultTypes.toList = [tb]) (hti : C.ty tb = some ti) (ha : ti.agg = false) (hlv : ti.leaves = [.bool])
    (hlaw : ∀ xs, TyAs C d ts xs → runE C f xs = some (.tup [.bool true])) {args : Array Value} {W : World} {xs : List V}
    (hx : TyAs C d ts xs) (hr : RlL [] (okW W) W xs args.toList) : Calls P f args W (fun e W' => e = .returned (.bool true) ∧ Go.RowKit.Below W.heap.size W W') := by
  obtain ⟨K, hK⟩ := lim_some.1 (hlaw xs hx)
  have hk := hK ⟨K, K, []⟩ rfl ⟨Nat.le_refl _, Nat.le_refl _, by simp⟩
  dsimp only at hk
  unfold runV at hk
  rw [hf] at hk
  simp only [need_some'] at hk
  have hS : St C (fun _ => False) 0 0 [] [] W :=
    ⟨rfl, Nat.zero_le _, fun _ _ h => by simp at h, fun _ _ _ _ _ h => by simp at h, fun _ _ _ _ _ _ h => by simp at h, fun _ _ _ _ _ _ h => by simp at h, fun _ _ _ _ _ _ _ h => by simp at h, fun _ _ _ _ _ h => by simp at h⟩
  obtain ⟨_, hc⟩ := run_sound hC K V f xs [] _ _ (fun _ => False) 0 [] W args hk hS (fun _ _ h => h)
    (RlL.mono ⟨fun _ _ h => h, fun b hb => ⟨hb, fun h => h, fun _ _ _ h => by simp at h⟩, fun _ _ => rfl⟩ xs hr)
  refine Calls.mono hc ?_
  rintro e W' ⟨vv, rfl, v, obs', A', hv, hA, hR⟩
  have hb : v = .bool true := by
    unfold giveRes at hv
    rw [hrt] at hv
    have hbig : bigRes C [tb] = false := by simp [bigRes, hti, ha]
    rw [hbig] at hv
    simp only [cond_false, resCells, resAll, hti, need_some', resOne, ha, leavesAll, hlv, List.append_nil, List.cons_append, List.nil_append] at hv
    simp only [giveLeaves] at hv
    cases hfl : flatV v with
    | false => rw [hfl] at hv; cases hv
    | true => rw [hfl] at hv; simpa using hv
  subst hb
  simp only [Rl] at hR
  exact ⟨by rw [hR], hA.os, hA.tape, hA.output, hA.size, fun b hb => hA.frame b hb (fun ⟨_, _, _, h, _⟩ => by simp at h)⟩
variable {d t : Nat} {ti : TI} {xs : List V}
theorem ty_int {k : IntKind} (h : C.ty t = some ti) (ht : ti.ty = .int k) (hx : TyV C (d + 1) t xs) : ∃ i, xs = [.int k i] ∧ k.min ≤ i ∧ i ≤ k.max := by
  simp only [TyV, h, ht] at hx; exact hx
theorem ty_slice {e : Nat} (h : C.ty t = some ti) (ht : ti.ty = .slice e) (hx : TyV C (d + 1) t xs) : ∃ rows : List (List V), xs = [.sl rows.length rows.flatten] ∧ rows.length ≤ Go.maxLen ∧ ∀ r ∈ rows, TyV C d e r := by
  simp only [TyV, h, ht] at hx; exact hx
theorem rows_told {α : Type} (enc : α → List V) : ∀ (rows : List (List V)), (∀ r ∈ rows, ∃ x, r = enc x) → ∃ l : List α, rows.flatten = l.flatMap enc ∧ l.length = rows.length
  | [], _ => ⟨[], rfl, rfl⟩
  | r :: rows, h => by
    obtain ⟨x, hx⟩ := h r (by simp)
    obtain ⟨l, h1, h2⟩ := rows_told enc rows (fun r hr => h r (by simp [hr]))
    exact ⟨x :: l, by simp [hx, h1], by simp [h2]⟩
theorem bytes_told (h : C.ty t = some ti) (ht : ti.ty = .int .u8) (rows : List (List V)) (hr : ∀ r ∈ rows, TyV C (d + 1) t r) : ∃ l : List UInt8, rows.flatten = bytesV l ∧ l.length = rows.length := by
  obtain ⟨l, h1, h2⟩ := rows_told (fun b : UInt8 => [V.int .u8 (b.toNat : Int)]) rows (fun r hm => by
    obtain ⟨i, e, h1, h2⟩ := ty_int h ht (hr r hm)
    have h1 : 0 ≤ i := h1
    have h2 : i ≤ 255 := h2
    refine ⟨b8 i, ?_⟩
    rw [e, ← wrap_b8, IntWalk.u8_in i ⟨h1, h2⟩])
  refine ⟨l, ?_, h2⟩
  rw [h1]
  unfold bytesV
  rw [List.map_eq_flatMap]
theorem ty_bytes {e : Nat} {te : TI} (h : C.ty t = some ti) (ht : ti.ty = .slice e) (he : C.ty e = some te) (hte : te.ty = .int .u8) (hx : TyV C (d + 2) t xs) : ∃ l : List UInt8, xs = [.sl l.length (bytesV l)] ∧ l.length ≤ Go.maxLen := by
  obtain ⟨rows, e1, e2, e3⟩ := ty_slice h ht hx
  obtain ⟨l, h1, h2⟩ := bytes_told he hte rows e3
  exact ⟨l, by rw [e1, h1, h2], by omega⟩
end
end Go.PI
