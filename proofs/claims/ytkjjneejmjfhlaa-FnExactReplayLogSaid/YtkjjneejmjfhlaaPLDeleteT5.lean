/-
  slices.Delete at a row of the call's own.
-/
import Derived.Test.YtkjjneejmjfhlaaPITab5
import Derived.WalkKit
import Derived.Deep.RegionLaw
import Derived.Lib.SliceRun
import Derived.Lib.ReflectliteSwap
namespace Go.Proofs.Ytkjjneejmjfhlaa
open Go Go.PI Go.RowKit

section
variable {P : Program}
theorem run_clear_rows (w : World) (t e ty : TypeId) (z : Value) (ht : P.underlying t = some (.slice e)) (hv : ∀ w, (zeroValue e).run P w = .ok z w) (b o n c : Nat) (hn : 0 < n)
    (h1 : ∀ v ∈ (Builtin.zeroCells z.cells n).toList, v.oneCell' = true)
    (hc : ∀ j, j < (Builtin.zeroCells z.cells n).toList.length → (w.cell? ⟨b, o + j, none⟩).isSome = true) (hf : ∀ j, j < (Builtin.zeroCells z.cells n).toList.length → w.frozen? ⟨b, o + j, none⟩ = false) :
    (Builtin.clear_ #[t] ty #[.slice (some ⟨b, o, none⟩) n c]).run P w = .ok (.tuple #[]) (w.setCells b o (Builtin.zeroCells z.cells n).toList) := by
  have hst := run_storeCells_cells (P := P) b o (Builtin.zeroCells z.cells n).toList 0 w (by simpa using hc) (by simpa using hf) h1
  simp only [Nat.add_zero] at hst
  obtain ⟨m, rfl⟩ : ∃ m, n = m + 1 := ⟨n - 1, by omega⟩
  simp [Builtin.clear_, run_underlying ht, hv, hst]
end

set_option maxHeartbeats 4000000 in
set_option maxRecDepth 1000000 in
theorem del_same (w : World) (n cap i : Nat) (a : Option Addr) (hi : i ≤ n) (hcap : n ≤ cap) :
    Calls Try.prog 83 #[.slice a n cap, .int .i64 i, .int .i64 i] w fun e w' => e = .returned (.slice a n cap) ∧ w' = w := by
  go_enter Try.func83, Try.ntmps83
  go_wp2
  all_goals (go_ret; exact ⟨rfl, rfl⟩)

theorem cell_of {w : World} {g t : Nat} {cur : Array Value} (hg : w.heap[g]? = some (.cells cur t (0, 0))) (o : Nat) : w.cell? ⟨g, o, none⟩ = cur[o]? ∧ w.frozen? ⟨g, o, none⟩ = false := by
  constructor
  · simp [World.cell?, hg]
  · simp [World.frozen?, hg]

set_option maxHeartbeats 4000000 in
set_option maxRecDepth 1000000 in
theorem del_lt (i0 : TypeInfo) (hi0 : Try.prog.info? 52 = some i0) (hi3 : i0.size = 3) (w : World) (g n cap i j : Nat) (cur : Array Value) (hg : w.heap[g]? = some (.cells cur 52 (0, 0))) (hcap : n ≤ cap) (hm : cap ≤ 9223372036854775807) (hcs : cur.size = cap * 3) (hlt : i < j) (hj : j ≤ n)
    (news zs : List Value) (hone : ∀ u ∈ news, u.oneCell' = true) (hnews : news = (cur.toList.drop (j * 3)).take ((n - j) * 3)) (hzs : zs = (Builtin.zeroCells (Value.agg #[.int .i64 0, .int .i64 0, .int .i64 0]).cells (n - (i + (n - j)))).toList) :
    Calls Try.prog 83 #[.slice (some ⟨g, 0, none⟩) n cap, .int .i64 i, .int .i64 j] w fun e w' => e = .returned (.slice (some ⟨g, 0, none⟩) (n - (j - i)) cap) ∧
      w' = (w.drew.setCells g (0 + i * 3) news).setCells g ((i + (n - j)) * 3) zs := by
  have hlen : news.length = (n - j) * 3 := by rw [hnews, List.length_take, List.length_drop, Array.length_toList]; omega
  have hzlen : zs.length = (n - (i + (n - j))) * 3 := by rw [hzs]; simp [Builtin.zeroCells, Value.cells]
  have hz1 : ∀ v ∈ zs, v.oneCell' = true := by
    rw [hzs]
    intro v hv
    simp only [Builtin.zeroCells, Value.cells, Array.toList_map, List.mem_map] at hv
    obtain ⟨x, _, rfl⟩ := hv
    have : x % 3 = 0 ∨ x % 3 = 1 ∨ x % 3 = 2 := by omega
    show ((#[Value.int .i64 0, .int .i64 0, .int .i64 0] : Array Value)[x % 3]!).oneCell' = true
    rcases this with e | e | e <;> rw [e] <;> rfl
  obtain ⟨A, hA, hsrc⟩ : ∃ A : Addr, (if cap = j then some (⟨g, 0, none⟩ : Addr) else some ⟨g, j * 3, none⟩) = some A ∧ Hid (∀ t u, news[t]? = some u → w.drew.cell? (A.add t) = some u) := by
    by_cases h : cap = j
    · refine ⟨⟨g, 0, none⟩, by simp [h], fun t u hu => ?_⟩
      have h0 : news.length = 0 := by rw [hlen]; omega
      rw [List.length_eq_zero_iff.1 h0] at hu
      simp at hu
    · refine ⟨⟨g, j * 3, none⟩, by simp [h], fun t u hu => ?_⟩
      have ht : t < (n - j) * 3 := by
        have := (List.getElem?_eq_some_iff.1 hu).1
        rwa [hlen] at this
      rw [hnews, List.getElem?_take, if_pos ht, List.getElem?_drop, Array.getElem?_toList] at hu
      rw [Addr.add_lit]
      exact (cell_of hg _).1.trans hu
  have s1 : Hid (news.length = (n - j) * 3) := hlen
  have s2 : Hid (∀ u ∈ news, u.oneCell' = true) := hone
  have s3 : Hid (∀ t, t < news.length → (w.drew.cell? ⟨g, 0 + i * 3 + t, none⟩).isSome = true ∧ w.drew.frozen? ⟨g, 0 + i * 3 + t, none⟩ = false) := by
    intro t ht
    rw [hlen] at ht
    have := cell_of hg (0 + i * 3 + t)
    refine ⟨?_, this.2⟩
    have h2 := this.1
    show (w.cell? _).isSome = true
    rw [h2, Array.getElem?_eq_getElem (by omega)]; rfl
  obtain ⟨W1, hW1⟩ : ∃ W1, W1 = w.drew.setCells g (0 + i * 3) news := ⟨_, rfl⟩
  have hcl : ∀ ty, (Builtin.clear_ #[27] ty #[.slice (some ⟨g, (i + (n - j)) * 3, none⟩) (n - (i + (n - j))) (cap - (i + (n - j)))]).run Try.prog W1 = .ok (.tuple #[]) (W1.setCells g ((i + (n - j)) * 3) zs) := by
    intro ty
    rw [hzs]
    refine run_clear_rows W1 _ 52 ty _ Try.underlying27 Try.zeroValue52 g _ _ _ (by omega) (by rw [← hzs]; exact hz1) ?_ ?_
    · intro t ht
      rw [← hzs, hzlen] at ht
      rw [hW1]
      refine Lib.isSome_setCells g _ _ _ _ ?_
      have h2 := (cell_of hg ((i + (n - j)) * 3 + t)).1
      show (w.cell? _).isSome = true
      rw [h2, Array.getElem?_eq_getElem (by omega)]; rfl
    · intro t ht
      rw [hW1, World.frozen?_setCells]
      exact (cell_of hg _).2
  have hW : Hid (W1 = w.drew.setCells g (0 + i * 3) news) := hW1
  have hic : i ≤ cap := by omega
  have hjc : j ≤ cap := by omega
  clear hW1 hg hnews hlen hzs hzlen hz1 hone hcs
  go_enter Try.func83, Try.ntmps83
  go_wp2_with fail
  go_region_law (refine step_append_room rfl (.tmp 22) (.tmp 25) 27 rfl 52 i0 3 Try.underlying27 hi0 hi3 g 0 i cap (by simp [Act.eval, Act.put]) A (n - j) (cap - j) news (by simp [Act.eval, Act.put]) s1.out hsrc.out s2.out (by omega) s3.out ?_; rw [← hW.out])
  go_wp2
  go_ret
  exact ⟨by rw [show n - (j - i) = i + (n - j) by omega]; rfl, by rw [hW.out]⟩

theorem setCells_row {w : World} {g t : Nat} {cur : Array Value} (hg : w.heap[g]? = some (.cells cur t (0, 0))) (o : Nat) (vs : List Value) (hl : o + vs.length ≤ cur.size) (h1 : ∀ v ∈ vs, v.oneCell' = true) :
    w.setCells g o vs = w.setRow g (cur.toList.take o ++ vs ++ cur.toList.drop (o + vs.length)).toArray := by
  have a := run_storeCells_at Try.prog g o t vs 0 cur w hg (by simpa using hl) h1
  have b := run_storeCells_cells (P := Try.prog) g o vs 0 w (fun j hj => by
    have := (cell_of hg (o + 0 + j)).1
    rw [this, Array.getElem?_eq_getElem (by omega)]; rfl) (fun j hj => (cell_of hg (o + 0 + j)).2) h1
  rw [a] at b
  simp only [Nat.add_zero] at b
  injection b with _ b
  exact b.symm
set_option maxRecDepth 1000000 in
theorem delete_ok : PrimOk Try.prog tab5.cfg 83 (primOf (tyFind tab5.tys) (.delete 52)) := by
  intro α args obs K r N s0 A w vals h hS hN hl
  have ht52 : tab5.cfg.ty 52 = some ⟨.struct [(0, 2), (1, 2), (2, 2)], 3, 24, true, [.int .i64, .int .i64, .int .i64], [.int .i64 0, .int .i64 0, .int .i64 0]⟩ := rfl
  obtain ⟨i0, z, d, hi0, hi3, _⟩ := (mkTI_sound (show mkTI Try.prog 52 = some ⟨.struct [(0, 2), (1, 2), (2, 2)], 3, 24, true, [.int .i64, .int .i64, .int .i64], [.int .i64 0, .int .i64 0, .int .i64 0]⟩ by kernel_rfl)).info
  have hi3 : i0.size = 3 := hi3
  simp only [primOf, primDelete] at h
  split at h
  · rename_i id i j
    split at h
    · rename_i t n cs ho
      obtain ⟨te, hte, h⟩ := need_some h
      obtain ⟨hb, h⟩ := must_some h
      simp only [Bool.and_eq_true, decide_eq_true_eq] at hb
      obtain ⟨⟨⟨hb1, hb2⟩, hb3⟩, hb4⟩ := hb
      have hb4 := Nat.eq_of_beq_eq_true hb4
      subst hb4
      have hte' : tab5.cfg.ty 52 = some te := hte
      rw [ht52] at hte'
      have hsz : te.size = 3 := by injection hte' with e; rw [← e]
      rw [hsz] at h
      obtain ⟨i, rfl⟩ := Int.eq_ofNat_of_zero_le hb1
      obtain ⟨j, rfl⟩ := Int.eq_ofNat_of_zero_le (Int.le_trans hb1 hb2)
      simp only [Int.toNat_natCast] at h
      have hij : i ≤ j := by omega
      have hjn : j ≤ n := by omega
      -- the arguments
      obtain ⟨v, hvals, hAv⟩ : ∃ v, vals = #[v, .int .i64 i, .int .i64 j] ∧ A[id]? = some v := by
        obtain ⟨l⟩ := vals
        match l, hl with
        | [v, a, b], hl =>
          simp only [RlL, Rl] at hl
          exact ⟨v, by rw [hl.2.1, hl.2.2.1], hl.1⟩
      subst hvals
      obtain ⟨ti, vs, hti, hpos, hown, hrl, hone⟩ := hS.row id _ n cs false v ho hAv
      rw [ht52] at hti
      have htsz : ti.size = 3 := by injection hti with e; rw [← e]
      rw [htsz] at hown
      have hvl : (A ++ [v]).length = obs.length + 1 := by simp [hS.len]
      have post : ∀ (v' : Value) (w' : World), w.heap.size ≤ w'.heap.size → (∀ b, b < w.heap.size → blockOf v ≠ some b → w'.heap[b]? = w.heap[b]?) → w'.os = w.os → w'.tape = w.tape → w'.output = w.output → (∀ b, blockOf v' = some b → blockOf v = some b) →
          w'.ownsRow 0 52 3 v' (n - (j - i)) (vs.take (i * 3) ++ vs.drop (j * 3)) → ∃ vv, Ending.returned v' = Ending.returned vv ∧ Post tab5.cfg N s0 0 A obs w K r vv w' := by
        intro v' w' q1 q2 q3 q4 q5 q6 q7
        refine ⟨v', rfl, _, _, A ++ [v'], h, hS.grow (Nat.zero_le _) ho hAv q1 q2 q3 q4 q5 (fun b hb => .inl (q6 b hb)) ⟨_, _, ht52, by decide, q7, (hrl.take _).append (hrl.drop _), fun x hx => ?_⟩, ?_⟩
        · rcases List.mem_append.1 hx with hx | hx
          · exact hone x (List.mem_of_mem_take hx)
          · exact hone x (List.mem_of_mem_drop hx)
        · simp only [Rl]
          rw [List.getElem?_append_right (by rw [hS.len]; exact Nat.le_refl _), hS.len]
          simp
      refine ⟨⟨Try.f83, _, Try.func83, by decide +kernel, rfl⟩, ?_⟩
      obtain ⟨hvlen, hown⟩ := hown
      by_cases e : i = j
      · subst e
        have hv' : ∃ a cap, v = .slice a n cap ∧ n ≤ cap ∧ cap ≤ 9223372036854775807 := by
          rcases hown with ⟨rfl, hn0⟩ | ⟨g, cap, cur, rfl, _, _, hc, hm, _⟩
          · exact ⟨none, 0, by rw [hn0], by omega, by decide⟩
          · exact ⟨_, cap, rfl, hc, hm⟩
        obtain ⟨a, cap, hv', hc, hm⟩ := hv'
        subst hv'
        refine Calls.mono (del_same w n cap i a hjn hc) ?_
        rintro en w' ⟨rfl, rfl⟩
        refine post _ w' (Nat.le_refl _) (fun _ _ _ => rfl) rfl rfl rfl (fun b hb => hb) ?_
        rw [Nat.sub_self, Nat.sub_zero, List.take_append_drop]
        exact ⟨hvlen, hown⟩
      · have hlt : i < j := by omega
        rcases hown with ⟨rfl, hn0⟩ | ⟨g, cap, cur, rfl, _, hg, hc, hm, hcs, htk⟩
        · omega
        · have hvd : (cur.toList.drop (j * 3)).take ((n - j) * 3) = vs.drop (j * 3) := by
            rw [← htk, List.drop_take]; congr 1; omega
          have hn1 : ∀ u ∈ (cur.toList.drop (j * 3)).take ((n - j) * 3), u.oneCell' = true := by
            rw [hvd]; exact fun u hu => hone u (List.mem_of_mem_drop hu)
          have hcl : cur.toList.length = cap * 3 := by rw [Array.length_toList]; exact hcs
          have hnl : ((cur.toList.drop (j * 3)).take ((n - j) * 3)).length = (n - j) * 3 := by rw [List.length_take, List.length_drop]; omega
          refine Calls.mono (del_lt i0 hi0 hi3 w g n cap i j cur hg hc hm hcs hlt hjn _ _ hn1 rfl rfl) ?_
          rintro en w' ⟨rfl, rfl⟩
          generalize hzs : (Builtin.zeroCells (Value.agg #[.int .i64 0, .int .i64 0, .int .i64 0]).cells (n - (i + (n - j)))).toList = zs
          have hzlen : zs.length = (n - (i + (n - j))) * 3 := by rw [← hzs]; simp [Builtin.zeroCells, Value.cells]
          have hz1 : ∀ v ∈ zs, v.oneCell' = true := by
            rw [← hzs]
            intro v hv
            simp only [Builtin.zeroCells, Value.cells, Array.toList_map, List.mem_map] at hv
            obtain ⟨x, _, rfl⟩ := hv
            have : x % 3 = 0 ∨ x % 3 = 1 ∨ x % 3 = 2 := by omega
            show ((#[Value.int .i64 0, .int .i64 0, .int .i64 0] : Array Value)[x % 3]!).oneCell' = true
            rcases this with e | e | e <;> rw [e] <;> rfl
          have hgd : w.drew.heap[g]? = some (.cells cur 52 (0, 0)) := hg
          rw [setCells_row hgd (0 + i * 3) _ (by omega) hn1]
          generalize hc1 : (cur.toList.take (0 + i * 3) ++ (cur.toList.drop (j * 3)).take ((n - j) * 3) ++ cur.toList.drop (0 + i * 3 + ((cur.toList.drop (j * 3)).take ((n - j) * 3)).length)).toArray = cur1
          have hg1 := setRow_heap w.drew g cur cur1 52 (0, 0) hgd
          have hs1 : cur1.size = cap * 3 := by rw [← hc1]; simp only [List.size_toArray, List.length_append, List.length_take, List.length_drop]; omega
          rw [setCells_row hg1 ((i + (n - j)) * 3) zs (by omega) hz1]
          generalize hc2 : (cur1.toList.take ((i + (n - j)) * 3) ++ zs ++ cur1.toList.drop ((i + (n - j)) * 3 + zs.length)).toArray = cur2
          have hg2 := setRow_heap (w.drew.setRow g cur1) g cur1 cur2 52 (0, 0) hg1
          have hs2 : cur2.size = cap * 3 := by rw [← hc2]; simp only [List.size_toArray, List.length_append, List.length_take, List.length_drop, Array.length_toList]; omega
          have hoth : ∀ b, b < w.heap.size → blockOf (.slice (some ⟨g, 0, none⟩) n cap) ≠ some b → ((w.drew.setRow g cur1).setRow g cur2).heap[b]? = w.heap[b]? := by
            intro b hb hne
            have hne : b ≠ g := fun e => hne (by rw [e]; rfl)
            rw [setRow_other _ g b _ hne, setRow_other _ g b _ hne]
            rfl
          refine post _ _ ?_ hoth rfl rfl rfl (fun b hb => hb) ⟨?_, .inr ⟨g, cap, cur2, rfl, Nat.zero_le _, hg2, by omega, hm, hs2, ?_⟩⟩
          · simp [World.setRow]
          · rw [List.length_append, List.length_take, List.length_drop, hvlen]; omega
          · rw [← hc2, ← hc1]
            simp only [Nat.zero_add]
            rw [hvd, show (n - (j - i)) * 3 = (i + (n - j)) * 3 by congr 1; omega]
            have hti : vs.take (i * 3) = cur.toList.take (i * 3) := by rw [← htk, List.take_take]; congr 1; omega
            rw [hti]
            have hl : (cur.toList.take (i * 3) ++ vs.drop (j * 3)).length = (i + (n - j)) * 3 := by
              rw [List.length_append, List.length_take, List.length_drop, hvlen]; omega
            have gen : ∀ (X Y Z U : List Value) (k : Nat), X.length = k → (((X ++ Y).take k ++ Z) ++ U).take k = X := by
              intro X Y Z U k h
              subst h; simp
            exact gen _ _ _ _ _ hl
    · cases h
  · cases h
#print axioms delete_ok
end Go.Proofs.Ytkjjneejmjfhlaa
