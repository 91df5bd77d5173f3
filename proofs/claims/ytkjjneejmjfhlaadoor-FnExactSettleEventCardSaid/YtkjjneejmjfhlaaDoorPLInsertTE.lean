/-
  slices.Insert of one number at a row of the call's own.
-/
import Derived.Test.YtkjjneejmjfhlaaDoorPITabE
import Derived.Shelf.Spec.SlicesInsert
import Derived.Lib.AppendZerosOnto
import Derived.Laws.NewBlocks
namespace Go.Proofs.YtkjjneejmjfhlaaDoor
open Go Go.PI Go.RowKit Go.Lib
set_option linter.unusedVariables false
set_option linter.unusedSimpArgs false
set_option maxHeartbeats 4000000 in
set_option maxRecDepth 100000 in
theorem ins_shift (i0 : TypeInfo) (hi0 : Tryd.prog.info? 2 = some i0) (hz0 : i0.zero = some (.int .i64 0)) (hzs : i0.size = 1) (hzb : i0.bytes = 8) (b off n c i vb voff m vc : Nat) (cs vs : List Value) (w : World) (hi : i < n) (hm : 0 < m) (hroom : n + m ≤ c) (hc63 : c ≤ 9223372036854775807) (hvb : vb ≠ b)
    (hcl : cs.length = n) (hvl : vs.length = m)
    (hcs : ∀ j v, cs[j]? = some v → w.cell? ⟨b, off + j, none⟩ = some v) (hsp : ∀ j, j < n + m → (w.cell? ⟨b, off + j, none⟩).isSome = true) (hfz : ∀ j, j < n + m → w.frozen? ⟨b, off + j, none⟩ = false)
    (hvs : ∀ j v, vs[j]? = some v → w.cell? ⟨vb, voff + j, none⟩ = some v) (h1c : ∀ v ∈ cs, v.oneCell' = true) (h1v : ∀ v ∈ vs, v.oneCell' = true)
    (tA tB : TypeId) (kA kB : Nat) (hsa : w.shape? vb = some (tA, kA)) (hsb : w.shape? b = some (tB, kB)) (hkB : kB ≠ 0) (hfa : w.frozen? ⟨vb, voff, none⟩ = false) (hfe : w.frozen? ⟨vb, kA, none⟩ = false) :
    Calls Tryd.prog 50 #[.slice (some ⟨b, off, none⟩) n c, .int .i64 i, .slice (some ⟨vb, voff, none⟩) m vc] w fun e w' =>
      e = .returned (.slice (some ⟨b, off, none⟩) (n + m) c) ∧ w' = (w.drew.setCells b (off + (i + m)) (cs.drop i)).setCells b (off + i) vs := by
  have hz1 : ¬ ((m : Int) = 0) := by omega
  have hz2 : ¬ ((i : Int) = (n : Int)) := by omega
  have hsz : (Tryd.prog.info? 2).map (·.size) = some 1 := by
    rw [hi0]; simp [hzs]
  have hov : ∀ lb cb, (callFunc 63 #[.slice (some ⟨vb, voff, none⟩) m vc, .slice (some ⟨b, off + (i + m), none⟩) lb cb]).run Tryd.prog w = .ok (.value (.bool false)) w := fun lb cb => by
    rw [run_callFunc_extern Tryd.func63 (by kernel_rfl) (by kernel_rfl) (by kernel_rfl) (e := Extern.SlicesOverlaps.overlaps #[24, 24] #[4]) (by kernel_rfl),
      Lib.run_overlaps_apart w 24 4 2 Tryd.underlying24 1 Tryd.sizeOf2 ⟨vb, voff, none⟩ ⟨b, off + (i + m), none⟩ m vc lb cb hvb tA tB kA kB hsa hsb hkB hfa hfe]
    rfl
  have hdl : (cs.drop i).length = n - i := by rw [List.length_drop, hcl]
  have mixed : Tryd.prog.follows .mixedOrders = true := by kernel_rfl
  have hw1 : IntKind.i64.wrap ((i : Int) + (m : Int)) = (i : Int) + (m : Int) := by rw [IntKind.wrap_i64]; omega
  have hb1 : (0 : Int) ≤ (i : Int) + (m : Int) := by omega
  have hin : i ≤ n := by omega
  have htn : ((i : Int) + (m : Int)).toNat = i + m := by omega
  have hb2 : ¬ (c = i + m) := by omega
  have hb3 : (i : Int) ≤ (n : Int) + (m : Int) := by omega
  have hb4 : ¬ (c = i) := by omega
  have hcp1 : ∀ ty dc sc, (Builtin.copy_ #[24, 24] ty #[.slice (some ⟨b, off + (i + m), none⟩) (n + m - (i + m)) dc, .slice (some ⟨b, off + i, none⟩) (n + m - i) sc]).run Tryd.prog w.drew = .ok (goInt (cs.drop i).length) (w.drew.setCells b (off + (i + m)) (cs.drop i)) := fun ty dc sc =>
    run_copy_cells w.drew _ _ ty 2 b (off + (i + m)) (n + m - (i + m)) dc ⟨b, off + i, none⟩ (n + m - i) sc (cs.drop i) Tryd.underlying24 hsz (by rw [hdl]; simp only [Nat.min_def]; split <;> omega)
      (fun j v hj => by rw [Addr.add_lit, Nat.add_assoc]; exact hcs (i + j) v (by rwa [List.getElem?_drop] at hj))
      (fun j hj => by rw [Nat.add_assoc]; exact hsp _ (by omega)) (fun j hj => by rw [Nat.add_assoc]; exact hfz _ (by omega)) (fun v hv => h1c v (List.mem_of_mem_drop hv))
  obtain ⟨W1, hW1⟩ : ∃ W1, W1 = w.drew.setCells b (off + (i + m)) (cs.drop i) := ⟨_, rfl⟩
  have hsp1 : ∀ k, k < n + m → (W1.cell? ⟨b, off + k, none⟩).isSome = true := fun k hk => by
    rw [hW1]
    exact isSome_setCells b _ _ _ (fun j hj => by rw [Nat.add_assoc]; exact hsp _ (by omega)) _ (hsp k hk)
  have hcp2 : ∀ (W : World), (∀ x, W.cell? x = W1.cell? x) → (∀ x, W.frozen? x = W1.frozen? x) → ∀ ty dc, (Builtin.copy_ #[24, 24] ty #[.slice (some ⟨b, off + i, none⟩) (n + m - i) dc, .slice (some ⟨vb, voff, none⟩) m vc]).run Tryd.prog W = .ok (goInt vs.length) (W.setCells b (off + i) vs) := fun W hWc hWf ty dc =>
    run_copy_cells W _ _ ty 2 b (off + i) (n + m - i) dc ⟨vb, voff, none⟩ m vc vs Tryd.underlying24 hsz (by rw [hvl]; simp only [Nat.min_def]; split <;> omega)
      (fun j v hj => by
        rw [Addr.add_lit, hWc, hW1, World.cell?_setCells_out b _ _ _ _ (fun h _ => absurd h hvb)]
        exact hvs j v hj)
      (fun j hj => by rw [hWc, Nat.add_assoc]; exact hsp1 _ (by omega)) (fun j hj => by rw [hWf, hW1, World.frozen?_setCells, Nat.add_assoc]; exact hfz _ (by omega)) h1v
  rw [← hW1] at hcp1
  go_enter Tryd.func50, Tryd.ntmps50
  go_wp2_with (simp only [hov])
  go_region_law_o (refine step_copy_runI rfl _ _ 24 24 rfl _ _ (by simp [Act.eval, Act.put]) (by simp [Act.eval, Act.put]) (hcp1 _ _ _) ?_)
  go_wp2_with (at_builtin; refine wpList_copy_runI _ rfl _ _ 24 24 rfl _ _ rfl rfl (hcp2 _ (fun _ => rfl) (fun _ => rfl) _ _) ?_)
  go_ret
  first | exact ⟨rfl, rfl⟩ | exact ⟨rfl, by rw [hW1]⟩

set_option maxHeartbeats 4000000 in
set_option maxRecDepth 100000 in
theorem ins_end_room (i0 : TypeInfo) (hi0 : Tryd.prog.info? 2 = some i0) (hz0 : i0.zero = some (.int .i64 0)) (hzs : i0.size = 1) (hzb : i0.bytes = 8) (b off n c vb voff m vc : Nat) (vs : List Value) (w : World) (hm : 0 < m) (hroom : n + m ≤ c) (hc63 : c ≤ 9223372036854775807)
    (hvl : vs.length = m) (hsp : ∀ j, j < m → (w.cell? ⟨b, off + n + j, none⟩).isSome = true) (hfz : ∀ j, j < m → w.frozen? ⟨b, off + n + j, none⟩ = false)
    (hvs : ∀ j v, vs[j]? = some v → w.cell? ⟨vb, voff + j, none⟩ = some v) (h1v : ∀ v ∈ vs, v.oneCell' = true) :
    Calls Tryd.prog 50 #[.slice (some ⟨b, off, none⟩) n c, .int .i64 n, .slice (some ⟨vb, voff, none⟩) m vc] w fun e w' =>
      e = .returned (.slice (some ⟨b, off, none⟩) (n + m) c) ∧ w' = w.setCells b (off + n) vs := by
  have mixed : Tryd.prog.follows .mixedOrders = true := by kernel_rfl
  have hz1 : ¬ ((m : Int) = 0) := by omega
  have hsrc : Src Tryd.prog 1 24 (.slice (some ⟨vb, voff, none⟩) m vc) m vs w := Src.ofSlice w Tryd.underlying24 ⟨vb, voff, none⟩ m vc vs (by omega) (fun j u hj => by rw [Addr.add_lit]; exact hvs j u hj) h1v
  go_enter Tryd.func50, Tryd.ntmps50
  go_wp2_with (at_builtin; refine wpList_append_room1 _ rfl _ _ 24 24 rfl 2 _ _ Tryd.underlying24 (show (Tryd.prog.info? 2).map (fun i => (i.zero, i.size, i.bytes)) = some (some (Value.int .i64 0), 1, 8) by rw [hi0]; simp [hz0, hzs, hzb]) b off n c rfl _ rfl m vs hsrc hroom (by rw [hvl]; exact hsp) (by rw [hvl]; exact hfz) ?_)
  go_ret
  exact ⟨rfl, rfl⟩

set_option maxHeartbeats 4000000 in
set_option maxRecDepth 100000 in
theorem ins_end_grow (i0 : TypeInfo) (hi0 : Tryd.prog.info? 2 = some i0) (hz0 : i0.zero = some (.int .i64 0)) (hzs : i0.size = 1) (hzb : i0.bytes = 8) (base : Option Addr) (n c vb voff m vc : Nat) (cs vs : List Value) (w : World) (hm : 0 < m) (hnc : n ≤ c) (hroom : c < n + m) (hbig : (n + m) * 8 ≤ 140737488355328)
    (hcl : cs.length = n) (hvl : vs.length = m) (hnil : base = none → n = 0)
    (hcs : ∀ a, base = some a → ∀ j v, cs[j]? = some v → w.cell? (a.add j) = some v)
    (hvs : ∀ j v, vs[j]? = some v → w.cell? ⟨vb, voff + j, none⟩ = some v) (h1v : ∀ v ∈ vs, v.oneCell' = true) :
    Calls Tryd.prog 50 #[.slice base n c, .int .i64 n, .slice (some ⟨vb, voff, none⟩) m vc] w fun e w' =>
      e = .returned (.slice (some ⟨w.heap.size, 0, none⟩) (n + m) (grownCap w (n + m) c 2)) ∧
      w' = w.drew.alloc (.cells ((cs ++ vs).toArray ++ Builtin.zeroCells (Value.int .i64 0).cells (grownCap w (n + m) c 2 - (n + m))) 2) := by
  have mixed : Tryd.prog.follows .mixedOrders = true := by kernel_rfl
  have hz1 : ¬ ((m : Int) = 0) := by omega
  have hsrc : Src Tryd.prog i0.size 24 (.slice (some ⟨vb, voff, none⟩) m vc) m vs w := by
    rw [hzs]
    exact Src.ofSlice w Tryd.underlying24 ⟨vb, voff, none⟩ m vc vs (by omega) (fun j u hj => by rw [Addr.add_lit]; exact hvs j u hj) h1v
  have hold : (Builtin.firstCells i0.size n (.slice base n c)).run Tryd.prog w.drew = .ok cs.toArray w.drew := by
    rw [hzs]
    cases base with
    | none =>
      have h0 := hnil rfl
      subst h0
      rw [List.length_eq_zero_iff.1 hcl]
      exact run_firstCells_none w.drew 1 0 0 c
    | some a => exact run_firstCells_some w.drew 1 n a n c cs (by omega) (fun j v hj => hcs a rfl j v hj)
  have hrun : ∀ ty, (Builtin.append_ #[24, 24] ty #[.slice base n c, .slice (some ⟨vb, voff, none⟩) m vc]).run Tryd.prog w = _ := fun ty =>
    run_append_grow_src w 24 24 ty 2 i0 _ Tryd.underlying24 hi0 hz0 base n c cs hold _ m vs hsrc hroom (by omega) (by rw [hzb]; exact growslice_fits hroom hbig)
  go_enter Tryd.func50, Tryd.ntmps50
  cases base with
  | none =>
    have h0 := hnil rfl
    subst h0
    go_wp2_with (at_builtin; refine Lib.wpList_append_run _ rfl _ _ _ _ rfl _ _ rfl rfl _ _ (hrun _) ?_)
    go_ret
    exact ⟨rfl, rfl⟩
  | some a =>
    obtain ⟨ab, ao, asp⟩ := a
    go_wp2_with (at_builtin; refine Lib.wpList_append_run _ rfl _ _ _ _ rfl _ _ rfl rfl _ _ (hrun _) ?_)
    all_goals (go_ret; exact ⟨rfl, rfl⟩)

set_option maxHeartbeats 4000000 in
set_option maxRecDepth 100000 in
theorem ins_grow (i0 : TypeInfo) (hi0 : Tryd.prog.info? 2 = some i0) (hz0 : i0.zero = some (.int .i64 0)) (hzs : i0.size = 1) (hzb : i0.bytes = 8) (b off n c i vb voff m vc : Nat) (cs vs : List Value) (w : World) (hi : i < n) (hm : 0 < m) (hnc : n ≤ c) (hroom : c < n + m) (hbig : (n + m) * 8 ≤ 140737488355328)
    (hcl : cs.length = n) (hvl : vs.length = m)
    (hcs : ∀ j v, cs[j]? = some v → w.cell? ⟨b, off + j, none⟩ = some v)
    (hvs : ∀ j v, vs[j]? = some v → w.cell? ⟨vb, voff + j, none⟩ = some v) (h1c : ∀ v ∈ cs, v.oneCell' = true) (h1v : ∀ v ∈ vs, v.oneCell' = true) :
    Calls Tryd.prog 50 #[.slice (some ⟨b, off, none⟩) n c, .int .i64 i, .slice (some ⟨vb, voff, none⟩) m vc] w fun e w' =>
      e = .returned (.slice (some ⟨w.heap.size, 0, none⟩) (n + m) (grownCap w (n + m) c 2)) ∧
      w' = (((w.alloc (.cells ((cs.take i).toArray ++ Builtin.zeroCells (Value.int .i64 0).cells (n + m - i) ++ Builtin.zeroCells (Value.int .i64 0).cells (grownCap w (n + m) c 2 - (n + m))) 2)).drew.setCells w.heap.size i vs).drew).setCells w.heap.size (i + m) (cs.drop i) := by
  have mixed : Tryd.prog.follows .mixedOrders = true := by kernel_rfl
  have hz1 : ¬ ((m : Int) = 0) := by omega
  have hz2 : ¬ ((i : Int) = (n : Int)) := by omega
  have hz3 : (c : Int) < (n : Int) + (m : Int) := by omega
  have hsz : (Tryd.prog.info? 2).map (·.size) = some 1 := by rw [hi0]; simp [hzs]
  have hbw : b < w.heap.size := block_lt_of_cell (hcs 0 _ (List.getElem?_eq_getElem (by omega)))
  have hvw : vb < w.heap.size := block_lt_of_cell (hvs 0 _ (List.getElem?_eq_getElem (by omega)))
  have hkk : (n : Int) + (m : Int) - (i : Int) = ((n + m - i : Nat) : Int) := by omega
  have hik : i + (n + m - i) = n + m := by omega
  have hold : (Builtin.firstCells i0.size i (.slice (some ⟨b, off, none⟩) i c)).run Tryd.prog w.drew = .ok (cs.take i).toArray w.drew := by
    rw [hzs]
    exact run_firstCells_some w.drew 1 i ⟨b, off, none⟩ i c (cs.take i) (by rw [List.length_take]; omega) (fun j v hj => by
      rw [Addr.add_lit]
      rw [List.getElem?_take] at hj
      split at hj
      · exact hcs j v hj
      · cases hj)
  have hrz : ∀ ty, (Builtin.append_ #[24, 3] ty #[.slice (some ⟨b, off, none⟩) i c, .int .i64 ((n : Int) + (m : Int) - (i : Int))]).run Tryd.prog w =
      .ok (.slice (some ⟨w.heap.size, 0, none⟩) (n + m) (grownCap w (n + m) c 2)) (w.drew.alloc (.cells ((cs.take i).toArray ++ Builtin.zeroCells (Value.int .i64 0).cells (n + m - i) ++ Builtin.zeroCells (Value.int .i64 0).cells (grownCap w (n + m) c 2 - (n + m))) 2)) := fun ty => by
    have h := Lib.run_append_grow_zeros w 24 3 ty 2 i0 _ .i64 .i64 Tryd.underlying24 Tryd.underlying3 hi0 hz0 (some ⟨b, off, none⟩) i c (cs.take i) hold (n + m - i) (by omega) (by omega) (by omega) (by omega) (by rw [hzb]; omega) (by rw [hzb, hik]; exact growslice_fits hroom hbig)
    rw [hik] at h
    rw [hkk]
    exact h
  obtain ⟨G, hG⟩ : ∃ G, G = grownCap w (n + m) c 2 := ⟨_, rfl⟩
  obtain ⟨ROW, hROW⟩ : ∃ ROW : Array Value, ROW = (cs.take i).toArray ++ Builtin.zeroCells (Value.int .i64 0).cells (n + m - i) ++ Builtin.zeroCells (Value.int .i64 0).cells (G - (n + m)) := ⟨_, rfl⟩
  rw [← hG] at hrz ⊢
  rw [← hROW] at hrz ⊢
  have hRl : n + m ≤ ROW.size := by
    rw [hROW]
    simp [Builtin.zeroCells, Value.cells]
    omega
  obtain ⟨W1, hW1⟩ : ∃ W1, W1 = w.drew.alloc (.cells ROW 2) := ⟨_, rfl⟩
  rw [← hW1] at hrz
  have hN : ∀ j, j < n + m → (W1.cell? ⟨w.heap.size, j, none⟩).isSome = true := fun j hj => by
    rw [hW1, World.cell?_alloc_at (w := w.drew) ROW _ w.heap.size j rfl, Array.getElem?_eq_getElem (by omega)]; rfl
  have hNf : ∀ j, W1.frozen? ⟨w.heap.size, j, none⟩ = false := fun j => by rw [hW1]; exact World.frozen?_alloc_at (w := w.drew) ROW _ w.heap.size j rfl
  have hOb : ∀ j v, w.cell? ⟨b, j, none⟩ = some v → W1.cell? ⟨b, j, none⟩ = some v := fun j v h => by rw [hW1, World.cell?_alloc_past (w := w.drew) _ b j hbw]; exact h
  have hOv : ∀ j v, w.cell? ⟨vb, j, none⟩ = some v → W1.cell? ⟨vb, j, none⟩ = some v := fun j v h => by rw [hW1, World.cell?_alloc_past (w := w.drew) _ vb j hvw]; exact h
  have hcpA : ∀ (W : World), (∀ x, W.cell? x = W1.cell? x) → (∀ x, W.frozen? x = W1.frozen? x) → ∀ ty dc, (Builtin.copy_ #[24, 24] ty #[.slice (some ⟨w.heap.size, i, none⟩) (n + m - i) dc, .slice (some ⟨vb, voff, none⟩) m vc]).run Tryd.prog W = .ok (goInt vs.length) (W.setCells w.heap.size i vs) := fun W hWc hWf ty dc =>
    run_copy_cells W _ _ ty 2 w.heap.size i (n + m - i) dc ⟨vb, voff, none⟩ m vc vs Tryd.underlying24 hsz (by rw [hvl]; simp only [Nat.min_def]; split <;> omega)
      (fun j v hj => by rw [Addr.add_lit, hWc]; exact hOv _ v (hvs j v hj))
      (fun j hj => by rw [hWc]; exact hN _ (by omega)) (fun j hj => by rw [hWf]; exact hNf _) h1v
  have hGn : n + m ≤ G := by rw [hG]; exact grownCap_ge w _ _ _
  have hG63 : G ≤ 9223372036854775807 := by
    have := grownCap_le_maxLen w (n + m) c 2 (by unfold maxLen; omega)
    rw [← hG] at this
    unfold maxLen at this
    omega
  have hGi : ¬ (G = i) := by omega
  have hGim : ¬ (G = i + m) := by omega
  have hci : ¬ (c = i) := by omega
  have hbN : b ≠ w.heap.size := by omega
  have hdl : (cs.drop i).length = n - i := by rw [List.length_drop, hcl]
  have hcpB : ∀ (W : World), (∀ x, W.cell? x = (W1.setCells w.heap.size i vs).cell? x) → (∀ x, W.frozen? x = (W1.setCells w.heap.size i vs).frozen? x) → ∀ ty dc sc, (Builtin.copy_ #[24, 24] ty #[.slice (some ⟨w.heap.size, i + m, none⟩) (n + m - (i + m)) dc, .slice (some ⟨b, off + i, none⟩) (n - i) sc]).run Tryd.prog W = .ok (goInt (cs.drop i).length) (W.setCells w.heap.size (i + m) (cs.drop i)) := fun W hWc hWf ty dc sc =>
    run_copy_cells W _ _ ty 2 w.heap.size (i + m) (n + m - (i + m)) dc ⟨b, off + i, none⟩ (n - i) sc (cs.drop i) Tryd.underlying24 hsz (by rw [hdl]; simp only [Nat.min_def]; split <;> omega)
      (fun j v hj => by
        rw [Addr.add_lit, hWc, World.cell?_setCells_out _ _ _ _ _ (fun h _ => absurd h hbN), Nat.add_assoc]
        exact hOb _ v (hcs (i + j) v (by rwa [List.getElem?_drop] at hj)))
      (fun j hj => by rw [hWc]; exact isSome_setCells _ _ _ _ (fun t ht => hN _ (by omega)) _ (hN _ (by omega)))
      (fun j hj => by rw [hWf, World.frozen?_setCells]; exact hNf _) (fun v hv => h1c v (List.mem_of_mem_drop hv))
  subst hW1
  have hE1 : ∀ x, ((w.alloc (.cells ROW 2)).drew).cell? x = (w.drew.alloc (.cells ROW 2)).cell? x := fun x => rfl
  have hE2 : ∀ x, ((w.alloc (.cells ROW 2)).drew).frozen? x = (w.drew.alloc (.cells ROW 2)).frozen? x := fun x => rfl
  have hF1 : ∀ x, (((w.alloc (.cells ROW 2)).drew.setCells w.heap.size i vs).drew).cell? x = ((w.drew.alloc (.cells ROW 2)).setCells w.heap.size i vs).cell? x := fun x => rfl
  have hF2 : ∀ x, (((w.alloc (.cells ROW 2)).drew.setCells w.heap.size i vs).drew).frozen? x = ((w.drew.alloc (.cells ROW 2)).setCells w.heap.size i vs).frozen? x := fun x => rfl
  have hw1 : IntKind.i64.wrap ((i : Int) + (m : Int)) = (i : Int) + (m : Int) := by rw [IntKind.wrap_i64]; omega
  have hb1 : (0 : Int) ≤ (i : Int) + (m : Int) := by omega
  have hin : i ≤ n := by omega
  have htn : ((i : Int) + (m : Int)).toNat = i + m := by omega
  have hb3 : (i : Int) ≤ (n : Int) := by omega
  clear hkk hik hold hROW hG hRl
  go_enter Tryd.func50, Tryd.ntmps50
  go_wp2_with (first
    | (at_builtin; refine Lib.wpList_append_run _ rfl _ _ _ _ rfl _ _ rfl rfl _ _ (hrz _) ?_)
    | (at_builtin; refine wpList_copy_runI _ rfl _ _ 24 24 rfl _ _ rfl rfl (hcpA _ hE1 hE2 _ _) ?_)
    | (at_builtin; refine wpList_copy_runI _ rfl _ _ 24 24 rfl _ _ rfl rfl (hcpB _ (fun _ => rfl) (fun _ => rfl) _ _ _) ?_))
  go_region_law_o (refine step_copy_runI rfl _ _ 24 24 rfl (.slice (some ⟨w.heap.size, i + m, none⟩) (n + m - (i + m)) (G - (i + m))) (.slice (some ⟨b, off + i, none⟩) (n - i) (c - i)) (by simp [Act.eval, Act.put]) (by simp [Act.eval, Act.put]) (hcpB _ hF1 hF2 2 (G - (i + m)) (c - i)) ?_)
  go_wp2
  go_ret
  exact ⟨rfl, rfl⟩

theorem cell_at {w : World} {g t : Nat} {cur : Array Value} (hg : w.heap[g]? = some (.cells cur t (0, 0))) (o : Nat) : w.cell? ⟨g, o, none⟩ = cur[o]? ∧ w.frozen? ⟨g, o, none⟩ = false := by
  constructor
  · simp [World.cell?, hg]
  · simp [World.frozen?, hg]
theorem setCells_at {w : World} {g t : Nat} {cur : Array Value} (hg : w.heap[g]? = some (.cells cur t (0, 0))) (o : Nat) (vs : List Value) (hl : o + vs.length ≤ cur.size) (h1 : ∀ v ∈ vs, v.oneCell' = true) :
    w.setCells g o vs = w.setRow g (cur.toList.take o ++ vs ++ cur.toList.drop (o + vs.length)).toArray := by
  have a := run_storeCells_at Tryd.prog g o t vs 0 cur w hg (by simpa using hl) h1
  have b := run_storeCells_cells (P := Tryd.prog) g o vs 0 w (fun j hj => by
    have := (cell_at hg (o + 0 + j)).1
    rw [this, Array.getElem?_eq_getElem (by omega)]; rfl) (fun j hj => (cell_at hg (o + 0 + j)).2) h1
  rw [a] at b
  simp only [Nat.add_zero] at b
  injection b with _ b
  exact b.symm
theorem shape_at {w : World} {g t : Nat} {cur : Array Value} (hg : w.heap[g]? = some (.cells cur t (0, 0))) : w.shape? g = some (t, cur.size) := by
  simp [World.shape?, hg]
theorem lists_shift {cur vs us : List Value} {n i : Nat} (h : cur.take n = vs) (hn : vs.length = n) (hi : i < n) (hu : us.length = 1) :
    ((((cur.take (0 + (i + 1)) ++ vs.drop i ++ cur.drop (0 + (i + 1) + (vs.drop i).length)).take (0 + i) ++ us ++ (cur.take (0 + (i + 1)) ++ vs.drop i ++ cur.drop (0 + (i + 1) + (vs.drop i).length)).drop (0 + i + us.length))).take (n + 1)) = vs.take i ++ us ++ vs.drop i := by
  have hc : n ≤ cur.length := by
    have := congrArg List.length h
    rw [List.length_take, hn] at this
    omega
  have eX : (cur.take (0 + (i + 1))).take i = vs.take i := by
    rw [List.take_take, ← h, List.take_take]; congr 1; omega
  have lX : (cur.take (0 + (i + 1))).length = i + 1 := by rw [List.length_take]; omega
  generalize cur.drop (0 + (i + 1) + (vs.drop i).length) = R
  generalize cur.take (0 + (i + 1)) = X at eX lX
  have a1 : (X ++ vs.drop i ++ R).take (0 + i) = vs.take i := by
    rw [Nat.zero_add, List.append_assoc, List.take_append_of_le_length (by omega), eX]
  have a2 : (X ++ vs.drop i ++ R).drop (0 + i + us.length) = vs.drop i ++ R := by
    rw [hu, Nat.zero_add, List.append_assoc, List.drop_append, List.drop_of_length_le (by omega), lX, Nat.sub_self]; rfl
  rw [a1, a2]
  have l2 : (vs.take i ++ us ++ vs.drop i).length = n + 1 := by simp [hn, hu]; omega
  rw [show vs.take i ++ us ++ (vs.drop i ++ R) = (vs.take i ++ us ++ vs.drop i) ++ R by simp, List.take_append_of_le_length (by omega), List.take_of_length_le (by omega)]
theorem lists_grow {vs us Z : List Value} {n i : Nat} (hn : vs.length = n) (hi : i < n) (hu : us.length = 1) (hZ : n + 1 - i ≤ Z.length) :
    (((((vs.take i ++ Z).take i ++ us ++ (vs.take i ++ Z).drop (i + us.length))).take (i + 1) ++ vs.drop i ++ (((vs.take i ++ Z).take i ++ us ++ (vs.take i ++ Z).drop (i + us.length))).drop (i + 1 + (vs.drop i).length)).take (n + 1)) = vs.take i ++ us ++ vs.drop i := by
  have l0 : (vs.take i).length = i := by rw [List.length_take]; omega
  have e0 : (vs.take i ++ Z).take i = vs.take i := by rw [List.take_append_of_le_length (by omega), List.take_of_length_le (by omega)]
  rw [e0]
  generalize (vs.take i ++ Z).drop (i + us.length) = D
  have l1 : (vs.take i ++ us).length = i + 1 := by rw [List.length_append, l0, hu]
  have b1 : (vs.take i ++ us ++ D).take (i + 1) = vs.take i ++ us := by rw [List.take_append_of_le_length (by omega), List.take_of_length_le (by omega)]
  rw [b1]
  generalize (vs.take i ++ us ++ D).drop (i + 1 + (vs.drop i).length) = R
  have l2 : (vs.take i ++ us ++ vs.drop i).length = n + 1 := by rw [List.length_append, l1, List.length_drop]; omega
  rw [List.take_append_of_le_length (by omega), List.take_of_length_le (by omega)]

set_option maxHeartbeats 4000000 in
set_option maxRecDepth 1000000 in
theorem insert_ok : PrimOk Tryd.prog tabE.cfg 50 (primOf (tyFind tabE.tys) (.insert 2)) := by
  intro α args obs K r N s0 A w vals h hS hN hl
  have ht : tabE.cfg.ty 2 = some ⟨.int .i64, 1, 8, false, [.int .i64], [.int .i64 0]⟩ := rfl
  obtain ⟨i0, z, d, hi0, hi1, hib, hz, hzl, _⟩ := (mkTI_sound (show mkTI Tryd.prog 2 = some ⟨.int .i64, 1, 8, false, [.int .i64], [.int .i64 0]⟩ by kernel_rfl)).info
  have hi1 : i0.size = 1 := hi1
  have hib : i0.bytes = 8 := hib
  have hzz : i0.zero = some (.int .i64 0) := by
    have h1 : Tryd.prog.info? 2 = some i0 := hi0
    have h2 : (Tryd.prog.info? 2).map (fun i => i.zero) = some (some (.int .i64 0)) := by kernel_rfl
    rw [h1] at h2
    simpa using h2
  simp only [primOf, primInsert] at h
  split at h
  · rename_i id i id2
    split at h
    · rename_i t n cs ho
      split at h
      · rename_i t2 m ys ho2
        obtain ⟨te, hte, hh⟩ := need_some h
        obtain ⟨hb, hfin⟩ := must_some hh
        clear h hh
        simp only [Bool.and_eq_true, decide_eq_true_eq, Bool.not_eq_true'] at hb
        obtain ⟨hb1, hb2, hb3, hb4, hb5, hb6, hb7⟩ := hb
        have hb3 := Nat.eq_of_beq_eq_true hb3
        have hb4 := Nat.eq_of_beq_eq_true hb4
        have hb6 := Nat.eq_of_beq_eq_true hb6
        have hb7 := Nat.le_of_ble_eq_true hb7
        have hne : id ≠ id2 := fun e => by rw [e, Nat.beq_refl] at hb5; cases hb5
        subst hb3 hb4 hb6
        have hte' : tabE.cfg.ty 2 = some te := hte
        rw [ht] at hte'
        have hbt : te.bytes = 8 := by injection hte' with e; rw [← e]
        rw [hbt] at hb7
        obtain ⟨i, rfl⟩ := Int.eq_ofNat_of_zero_le hb1
        simp only [Int.toNat_natCast] at hfin
        have hin : i ≤ n := by omega
        obtain ⟨v, y, hvals, hAv, hAy⟩ : ∃ v y, vals = #[v, .int .i64 i, y] ∧ A[id]? = some v ∧ A[id2]? = some y := by
          obtain ⟨l⟩ := vals
          match l, hl with
          | [v, a, b], hl =>
            simp only [RlL, Rl] at hl
            exact ⟨v, b, by rw [hl.2.1], hl.1, hl.2.2.1⟩
        subst hvals
        obtain ⟨ti, vs, hti, hpos, hown, hrl, hone⟩ := hS.row id _ n cs false v ho hAv
        rw [ht] at hti
        have htsz : ti.size = 1 := by injection hti with e; rw [← e]
        rw [htsz] at hown
        obtain ⟨ti2, us, hti2, _, hown2, hrl2, hone2⟩ := hS.row id2 _ 1 ys false y ho2 hAy
        rw [ht] at hti2
        have htsz2 : ti2.size = 1 := by injection hti2 with e; rw [← e]
        rw [htsz2] at hown2
        have post : ∀ (v' : Value) (w' : World), w.heap.size ≤ w'.heap.size → (∀ b, b < w.heap.size → blockOf v ≠ some b → w'.heap[b]? = w.heap[b]?) → w'.os = w.os → w'.tape = w.tape → w'.output = w.output → (∀ b, blockOf v' = some b → blockOf v = some b ∨ w.heap.size ≤ b) →
            w'.ownsRow 0 2 1 v' (n + 1) (vs.take i ++ us ++ vs.drop i) → ∃ vv, Ending.returned v' = Ending.returned vv ∧ Post tabE.cfg N s0 0 A obs w K r vv w' := by
          intro v' w' q1 q2 q3 q4 q5 q6 q7
          refine ⟨v', rfl, _, _, A ++ [v'], hfin, hS.grow (Nat.zero_le _) ho hAv q1 q2 q3 q4 q5 (fun b hb => (q6 b hb).imp (fun x => x) fun hl => ⟨hl, hN b hl⟩) ⟨_, _, ht, by decide, q7, ((hrl.take _).append hrl2).append (hrl.drop _), fun x hx => ?_⟩, ?_⟩
          · rcases List.mem_append.1 hx with hx | hx
            · rcases List.mem_append.1 hx with hx | hx
              · exact hone x (List.mem_of_mem_take hx)
              · exact hone2 x hx
            · exact hone x (List.mem_of_mem_drop hx)
          · simp only [Rl]
            rw [List.getElem?_append_right (by rw [hS.len]; exact Nat.le_refl _), hS.len]
            simp
        refine ⟨⟨Tryd.f50, _, Tryd.func50, by decide +kernel, rfl⟩, ?_⟩
        obtain ⟨hvlen, hown⟩ := hown
        obtain ⟨hulen, hown2⟩ := hown2
        have hvlen : vs.length = n := by omega
        have hulen : us.length = 1 := by omega
        obtain ⟨vb, vc, cur2, rfl, hg2, hc2, hs2, htk2⟩ : ∃ vb vc cur2, y = .slice (some ⟨vb, 0, none⟩) 1 vc ∧ w.heap[vb]? = some (.cells cur2 2 (0, 0)) ∧ 1 ≤ vc ∧ cur2.size = vc ∧ cur2.toList.take 1 = us := by
          rcases hown2 with ⟨_, h0⟩ | ⟨g, cap, cur, e1, _, e2, e3, _, e4, e5⟩
          · omega
          · exact ⟨g, cap, cur, e1, e2, e3, by omega, by simpa using e5⟩
        have hvs2 : ∀ j u, us[j]? = some u → w.cell? ⟨vb, 0 + j, none⟩ = some u := fun j u hj => by
          rw [(cell_at hg2 _).1, Nat.zero_add, ← Array.getElem?_toList]
          rw [← htk2, List.getElem?_take] at hj
          split at hj
          · exact hj
          · cases hj
        have alloc1 : ∀ (W : World) o, W.heap = w.heap → w.heap.size ≤ (W.alloc o).heap.size := fun W o e => by
          show w.heap.size ≤ (W.heap.push o).size
          rw [Array.size_push, e]; omega
        have g1 : ∀ o, w.heap.size ≤ (w.drew.alloc o).heap.size := fun o => alloc1 w.drew o rfl
        have g2 : ∀ o b, b < w.heap.size → (w.drew.alloc o).heap[b]? = w.heap[b]? := fun o b hb => heap_alloc_old w.drew o hb
        have g3 : ∀ o, (w.drew.alloc o).heap[w.heap.size]? = some o := fun o => heap_alloc_new w.drew o
        have zc : ∀ k, (Builtin.zeroCells (Value.int .i64 0).cells k).size = k := fun k => by unfold Builtin.zeroCells; simp [Value.cells]
        have fresh : ∀ (x : Value) (l c : Nat), x = .slice (some ⟨w.heap.size, 0, none⟩) l c → ∀ b, blockOf x = some b → blockOf v = some b ∨ w.heap.size ≤ b := fun x l c e b hb => by
          rw [e] at hb
          have hb : some w.heap.size = some b := hb
          cases hb; exact .inr (Nat.le_refl _)
        have hgcap := fun c => grownCap_le_maxLen w (n + 1) c 2 (by unfold maxLen; omega)
        have hgge := fun c => grownCap_ge w (n + 1) c 2
        have end_grow : ∀ (base : Option Addr) (c : Nat), n ≤ c → c < n + 1 → (base = none → n = 0) → (∀ a, base = some a → ∀ j u, vs[j]? = some u → w.cell? (a.add j) = some u) → i = n → v = .slice base n c →
            Calls Tryd.prog 50 #[.slice base n c, .int .i64 n, .slice (some ⟨vb, 0, none⟩) 1 vc] w fun en w' => ∃ vv, en = Ending.returned vv ∧ Post tabE.cfg N s0 0 A obs w K r vv w' := by
          intro base c q1 q2 q3 q4 q5 q6
          refine Calls.mono (ins_end_grow i0 hi0 hzz hi1 hib base n c vb 0 1 vc vs us w (by omega) q1 q2 (by omega) hvlen hulen q3 q4 hvs2 hone2) ?_
          rintro en w' ⟨rfl, rfl⟩
          refine post _ _ (g1 _) (fun b hb _ => g2 _ b hb) rfl rfl rfl (fresh _ _ _ rfl) ⟨by simp [hvlen, hulen]; omega, .inr ⟨w.heap.size, _, _, rfl, Nat.zero_le _, g3 _, hgge c, hgcap c, ?_, ?_⟩⟩
          · rw [Array.size_append, zc, List.size_toArray, List.length_append, hvlen, hulen]
            have := hgge c
            omega
          · rw [Array.toList_append, List.take_append_of_le_length (by simp [hvlen, hulen]), q5, Nat.mul_one]
            rw [List.take_of_length_le (by simp [hvlen, hulen]), List.take_of_length_le (l := vs) (by omega), List.drop_of_length_le (l := vs) (by omega), List.append_nil]
        by_cases e : i = n
        · subst e
          rcases hown with ⟨rfl, hn0⟩ | ⟨g, cap, cur, rfl, _, hg, hc, hm, hcs, htk⟩
          · subst hn0
            exact end_grow none 0 (Nat.le_refl _) (by omega) (fun _ => rfl) (fun a ha => by cases ha) rfl rfl
          · have hcs : cur.size = cap := by omega
            have htk : cur.toList.take i = vs := by simpa using htk
            have hcell : ∀ j u, vs[j]? = some u → w.cell? ⟨g, j, none⟩ = some u := fun j u hj => by
              rw [(cell_at hg _).1, ← Array.getElem?_toList]
              rw [← htk, List.getElem?_take] at hj
              split at hj
              · exact hj
              · cases hj
            by_cases hroom : i + 1 ≤ cap
            · refine Calls.mono (ins_end_room i0 hi0 hzz hi1 hib g 0 i cap vb 0 1 vc us w (by omega) hroom hm hulen (fun j hj => ?_) (fun j hj => (cell_at hg _).2) hvs2 hone2) ?_
              · rw [(cell_at hg _).1, Array.getElem?_eq_getElem (by omega)]; rfl
              · rintro en w' ⟨rfl, rfl⟩
                rw [setCells_at hg (0 + i) us (by omega) hone2]
                have hg1 := setRow_heap w g cur (cur.toList.take (0 + i) ++ us ++ cur.toList.drop (0 + i + us.length)).toArray 2 (0, 0) hg
                refine post _ _ (by simp [World.setRow]) (fun b hb hne => ?_) rfl rfl rfl (fun b hb => .inl hb) ⟨by simp [hvlen, hulen], .inr ⟨g, cap, _, rfl, Nat.zero_le _, hg1, hroom, hm, ?_, ?_⟩⟩
                · exact setRow_other _ g b _ (fun e => hne (by rw [e]; rfl))
                · simp only [List.size_toArray, List.length_append, List.length_take, List.length_drop, Array.length_toList]; omega
                · rw [Nat.zero_add, htk, Nat.mul_one, List.take_append_of_le_length (by simp [hvlen, hulen]), List.take_of_length_le (by simp [hvlen, hulen]), List.take_of_length_le (l := vs) (by omega), List.drop_of_length_le (l := vs) (by omega), List.append_nil]
            · exact end_grow (some ⟨g, 0, none⟩) cap hc (by omega) (fun h => by cases h) (fun a ha j u hj => by
                cases ha
                rw [Addr.add_lit, Nat.zero_add]
                exact hcell j u hj) rfl rfl
        · have hlt : i < n := by omega
          rcases hown with ⟨rfl, hn0⟩ | ⟨g, cap, cur, rfl, _, hg, hc, hm, hcs, htk⟩
          · omega
          · have hcs : cur.size = cap := by omega
            have htk : cur.toList.take n = vs := by simpa using htk
            have hcell : ∀ j u, vs[j]? = some u → w.cell? ⟨g, 0 + j, none⟩ = some u := fun j u hj => by
              rw [(cell_at hg _).1, Nat.zero_add, ← Array.getElem?_toList]
              rw [← htk, List.getElem?_take] at hj
              split at hj
              · exact hj
              · cases hj
            have hvg : vb ≠ g := fun e => hne (hS.inj id id2 _ _ _ _ g ho ho2 rfl rfl hAv hAy rfl (by rw [← e]; rfl))
            by_cases hroom : n + 1 ≤ cap
            · refine Calls.mono (ins_shift i0 hi0 hzz hi1 hib g 0 n cap i vb 0 1 vc vs us w hlt (by omega) hroom hm hvg hvlen hulen hcell (fun j hj => ?_) (fun j hj => (cell_at hg _).2) hvs2 hone hone2 2 2 cur2.size cur.size (shape_at hg2) (shape_at hg) (by omega) (cell_at hg2 _).2 (cell_at hg2 _).2) ?_
              · rw [(cell_at hg _).1, Array.getElem?_eq_getElem (by omega)]; rfl
              · rintro en w' ⟨rfl, rfl⟩
                have hgd : w.drew.heap[g]? = some (.cells cur 2 (0, 0)) := hg
                have hdl : (vs.drop i).length = n - i := by rw [List.length_drop, hvlen]
                rw [setCells_at hgd (0 + (i + 1)) (vs.drop i) (by omega) (fun x hx => hone x (List.mem_of_mem_drop hx))]
                generalize hc1 : (cur.toList.take (0 + (i + 1)) ++ vs.drop i ++ cur.toList.drop (0 + (i + 1) + (vs.drop i).length)).toArray = cur1
                have hg1 := setRow_heap w.drew g cur cur1 2 (0, 0) hgd
                have hs1 : cur1.size = cap := by rw [← hc1]; simp only [List.size_toArray, List.length_append, List.length_take, List.length_drop, Array.length_toList]; omega
                rw [setCells_at hg1 (0 + i) us (by omega) hone2]
                generalize hc3 : (cur1.toList.take (0 + i) ++ us ++ cur1.toList.drop (0 + i + us.length)).toArray = cur3
                have hg3 := setRow_heap (w.drew.setRow g cur1) g cur1 cur3 2 (0, 0) hg1
                have hs3 : cur3.size = cap := by rw [← hc3]; simp only [List.size_toArray, List.length_append, List.length_take, List.length_drop, Array.length_toList]; omega
                refine post _ _ (by simp [World.setRow]) (fun b hb hne => ?_) rfl rfl rfl (fun b hb => .inl hb) ⟨by simp [hvlen, hulen]; omega, .inr ⟨g, cap, cur3, rfl, Nat.zero_le _, hg3, hroom, hm, by omega, ?_⟩⟩
                · have hne : b ≠ g := fun e => hne (by rw [e]; rfl)
                  rw [setRow_other _ g b _ hne, setRow_other _ g b _ hne]
                  rfl
                · rw [← hc3, ← hc1, Nat.mul_one]
                  exact lists_shift htk hvlen hlt hulen
            · refine Calls.mono (ins_grow i0 hi0 hzz hi1 hib g 0 n cap i vb 0 1 vc vs us w hlt (by omega) hc (by omega) (by omega) hvlen hulen hcell hvs2 hone hone2) ?_
              rintro en w' ⟨rfl, rfl⟩
              have hG := hgge cap
              have hGm := hgcap cap
              generalize grownCap w (n + 1) cap 2 = G at hG hGm ⊢
              generalize hROW : (vs.take i).toArray ++ Builtin.zeroCells (Value.int .i64 0).cells (n + 1 - i) ++ Builtin.zeroCells (Value.int .i64 0).cells (G - (n + 1)) = ROW
              have hdl : (vs.drop i).length = n - i := by rw [List.length_drop, hvlen]
              have hRs : ROW.size = G := by rw [← hROW, Array.size_append, Array.size_append, zc, zc, List.size_toArray, List.length_take]; omega
              have h0 : ((w.alloc (.cells ROW 2)).drew).heap[w.heap.size]? = some (.cells ROW 2 (0, 0)) := heap_alloc_new w _
              rw [setCells_at h0 i us (by omega) hone2]
              generalize hc1 : (ROW.toList.take i ++ us ++ ROW.toList.drop (i + us.length)).toArray = cur1
              have hg1 := setRow_heap ((w.alloc (.cells ROW 2)).drew) w.heap.size ROW cur1 2 (0, 0) h0
              have hs1 : cur1.size = G := by rw [← hc1]; simp only [List.size_toArray, List.length_append, List.length_take, List.length_drop, Array.length_toList]; omega
              have hg1d : (((w.alloc (.cells ROW 2)).drew.setRow w.heap.size cur1).drew).heap[w.heap.size]? = some (.cells cur1 2 (0, 0)) := hg1
              rw [setCells_at hg1d (i + 1) (vs.drop i) (by omega) (fun x hx => hone x (List.mem_of_mem_drop hx))]
              generalize hc3 : (cur1.toList.take (i + 1) ++ vs.drop i ++ cur1.toList.drop (i + 1 + (vs.drop i).length)).toArray = cur3
              have hg3 := setRow_heap (((w.alloc (.cells ROW 2)).drew.setRow w.heap.size cur1).drew) w.heap.size cur1 cur3 2 (0, 0) hg1d
              have hs3 : cur3.size = G := by rw [← hc3]; simp only [List.size_toArray, List.length_append, List.length_take, List.length_drop, Array.length_toList]; omega
              refine post _ _ ?_ (fun b hb hne => ?_) rfl rfl rfl (fresh _ _ _ rfl) ⟨by simp [hvlen, hulen]; omega, .inr ⟨w.heap.size, G, cur3, rfl, Nat.zero_le _, hg3, hG, hGm, by omega, ?_⟩⟩
              · have := alloc1 w (.cells ROW 2) rfl
                simp [World.setRow]
              · have hne : b ≠ w.heap.size := by omega
                rw [setRow_other _ w.heap.size b _ hne]
                show ((w.alloc (.cells ROW 2)).drew.setRow w.heap.size cur1).heap[b]? = w.heap[b]?
                rw [setRow_other _ w.heap.size b _ hne]
                exact heap_alloc_old w _ hb
              · rw [← hc3, ← hc1, ← hROW, Nat.mul_one]
                have := lists_grow (Z := (Builtin.zeroCells (Value.int .i64 0).cells (n + 1 - i)).toList ++ (Builtin.zeroCells (Value.int .i64 0).cells (G - (n + 1))).toList) hvlen hlt hulen (by rw [List.length_append, Array.length_toList, zc]; omega)
                simpa only [Array.toList_append, List.append_assoc] using this
      · cases h
    · cases h
  · cases h
#print axioms insert_ok
end Go.Proofs.YtkjjneejmjfhlaaDoor
