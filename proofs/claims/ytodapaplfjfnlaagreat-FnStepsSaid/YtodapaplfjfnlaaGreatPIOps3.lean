/-
  PI: each operation of the interpreter is what the machine's operation does: conversions, append, make, literals.
-/
import Derived.Test.YtodapaplfjfnlaaGreatPIOps2
import Derived.Laws.BytesArg
namespace Go.PI
open Go
set_option linter.unusedVariables false
set_option linter.unusedSimpArgs false
section
variable {P : Program} {C : Cfg} {N : Nat → Prop} {s0 n0 : Nat} {A : List Value} {obs : Obs} {w : World} {α : Type} {r : α}
theorem St.grown (h : St C N s0 n0 A obs w) {w' : World} (hg : w.grownBy w' none) : After C N s0 n0 A obs w A obs w' :=
  h.ext w' hg.size (fun b hb => hg.block b hb (by simp)) hg.os hg.tape hg.output
theorem bytesV_rl {A : List Value} {ok : Nat → Prop} {w : World} : ∀ (l : List UInt8), RlL A ok w (bytesV l) (l.map fun b => Value.int .u8 b.toNat)
  | [] => by simp [bytesV, RlL]
  | b :: l => by
    have := bytesV_rl (A := A) (ok := ok) (w := w) l
    simp only [bytesV, List.map_cons, RlL, Rl] at this ⊢
    exact ⟨trivial, this⟩
theorem isU8_int {x : V} (h : isU8 x = true) : ∃ m, x = .int .u8 m := by
  unfold isU8 at h
  split at h
  · exact ⟨_, rfl⟩
  · cases h
theorem u8s_sound {A : List Value} {ok : Nat → Prop} {w : World} : ∀ (cs : List V) (vs : List Value), RlL A ok w cs vs → cs.all isU8 = true → ∃ xs : List Int, vs = xs.map (Value.int .u8) ∧ packB cs = strOfNums xs
  | [], [], _, _ => ⟨[], rfl, rfl⟩
  | [], _ :: _, h, _ => by simp [RlL] at h
  | _ :: _, [], h, _ => by simp [RlL] at h
  | x :: cs, v :: vs, hl, hall => by
    simp only [RlL] at hl
    simp only [List.all_cons, Bool.and_eq_true] at hall
    obtain ⟨xs, rfl, hp⟩ := u8s_sound cs vs hl.2 hall.2
    obtain ⟨m, rfl⟩ := isU8_int hall.1
    have hv := hl.1
    simp only [Rl] at hv
    refine ⟨m :: xs, by rw [hv]; rfl, ?_⟩
    simp only [packB, strOfNums, List.map_cons, u8Of] at hp ⊢
    have := congrArg (fun (s : ByteArray) => s.data.toList) hp
    simp only [List.toList_toArray] at this
    rw [this]
theorem convert_sound (hC : CfgOk P C) (hN : ∀ b, w.heap.size ≤ b → ¬ N b) {src dst : Nat} {x : V} {xv : Value} {K : V → Obs → Option α} (hS : St C N s0 n0 A obs w) (hx : Rl A (Ok N A obs w) w x xv) (h : convert C obs src dst x K = some r) :
    ∃ v obs' w' vv, K v obs' = some r ∧ (Go.convert src dst xv).run P w = .ok vv w' ∧ After C N s0 n0 A obs w A obs' w' ∧ Rl A (Ok N A obs' w') w' v vv := by
  unfold convert at h
  replace h := need_some h
  obtain ⟨ts, hts, h⟩ := h
  replace h := need_some h
  obtain ⟨td, htd, h⟩ := h
  obtain ⟨ds, hus⟩ := (hC.ty src ts hts).under_any
  split at h
  · rename_i k k' n hty
    simp only [Rl] at hx; subst hx
    have hu := (hC.ty dst td htd).under_int hty
    refine ⟨_, _, w, .int k (k.wrap n), h, ?_, After.refl hS, by simp only [Rl]⟩
    simp only [Go.convert, Sem.run_bind, run_underlying hus, run_underlying hu, Result.andThen_ok]
    rfl
  · rename_i e s hty
    simp only [Rl] at hx; subst hx
    have hu := (hC.ty dst td htd).under_slice hty
    replace h := need_some h
    obtain ⟨te, hte, h⟩ := h
    split at h
    · rename_i hte' hts'
      have hue := (hC.ty e te hte).under_int hte'
      replace h := must_some h
      obtain ⟨h1, h⟩ := h
      have hus' := (hC.ty src ts hts).under_str hts'
      have hrun := run_bytes_of_string (P := P) w src dst e s hus' hu hue
      have hg : w.grownBy (w.drew.alloc (.cells (bytesRow s (grownCap w s.size 0 e)) e ((bytesRow s (grownCap w s.size 0 e)).size, (bytesRow s (grownCap w s.size 0 e)).size + 1))) none :=
        ⟨rfl, rfl, rfl, by simp, fun k hk _ => heap_alloc_old w.drew _ k hk⟩
      have ha := hS.grown hg
      refine ⟨_, _, _, _, h, hrun, ha, ?_⟩
      simp only [Rl]
      refine ⟨_, _, _, rfl, grownCap_ge _ _ _ _, bytesV_rl s.data.toList, .inr ⟨w.heap.size, 0, rfl, ⟨by simp, hN _ (Nat.le_refl _), fun id o v h1 h2 h3 h4 => ?_⟩, fun i v hv => ?_⟩⟩
      · have := hS.foot_old (fun b hb => heap_alloc_old w.drew _ b hb) h1 (by cases o <;> simp_all [Ob.isOpen, Ob.isGone]) h2 h4
        omega
      · rw [Nat.zero_add, cell_of_row _ w.heap.size i _ e _ (heap_alloc_new w.drew _)]
        simp only [List.getElem?_map] at hv
        cases hb : s.data.toList[i]? with
        | none => rw [hb] at hv; simp at hv
        | some b =>
          rw [hb] at hv; simp at hv; subst hv
          refine ⟨?_, rfl⟩
          have hlt : i < s.data.size := by simpa using (List.getElem?_eq_some_iff.1 hb).1
          unfold bytesRow
          rw [Array.getElem?_append_left (by simpa using hlt)]
          simp only [Array.getElem?_map]
          rw [← Array.getElem?_toList, hb]; rfl
    · cases h
  · rename_i s hty
    simp only [Rl] at hx; subst hx
    have hu := (hC.ty dst td htd).under_str hty
    refine ⟨_, _, w, .string s, h, ?_, After.refl hS, by simp only [Rl]⟩
    simp only [Go.convert, Sem.run_bind, run_underlying hus, run_underlying hu, Result.andThen_ok]
    rfl
  · rename_i hty _
    have hu := (hC.ty dst td htd).under_str hty
    split at h
    · rename_i e hse
      have hus' := (hC.ty src ts hts).under_slice hse
      replace h := need_some h
      obtain ⟨te, hte, h⟩ := h
      split at h
      · rename_i hte'
        have hue := (hC.ty e te hte).under_int hte'
        obtain ⟨n, cs, h, a, c, vs, rfl, hnc, hl, hat, _⟩ := slOf_sound h hS hx
        replace h := must_some h
        obtain ⟨h1, h⟩ := h
        simp only [Bool.and_eq_true] at h1
        have hn : cs.length = n := Nat.eq_of_beq_eq_true h1.1
        obtain ⟨xs, rfl, hp⟩ := u8s_sound cs vs hl h1.2
        have hlen : xs.length = n := by have := hl.length; simp at this; omega
        refine ⟨_, _, w, .string (packB cs), h, ?_, After.refl hS, by simp only [Rl]⟩
        rw [hp]
        rcases hat with ⟨rfl, h0⟩ | ⟨b, o, rfl, hc⟩
        · have : xs = [] := List.eq_nil_of_length_eq_zero hlen
          subst this
          cases a with
          | none => exact run_convert_bytes_nil w src e hus' hue 0 c dst hu
          | some ad =>
            rw [run_convert_bytes_string w src dst e (some ad) 0 c hus' hue hu]
            simp [Conv.bytesToString, loadCells, loadCellsFrom, strOfNums]
            rfl
        · exact run_convert_bytes_arg w src e hus' hue b o n c xs hlen (fun i hi => (hc i _ (by simp [List.getElem?_eq_getElem (show i < xs.length by omega), List.getD_eq_getElem?_getD])).1) dst hu
      · cases h
    · cases h
  · cases h
theorem elemOf_some {t : Nat} {K : Nat → TI → Option α} (hC : CfgOk P C) (h : elemOf C t K = some r) : ∃ e te, P.underlying t = some (.slice e) ∧ C.ty e = some te ∧ TyOk P e te ∧ 0 < te.size ∧ K e te = some r := by
  unfold elemOf at h
  replace h := need_some h
  obtain ⟨ti, hti, h⟩ := h
  split at h
  · rename_i e hty
    replace h := need_some h
    obtain ⟨te, hte, h⟩ := h
    replace h := must_some h
    obtain ⟨h1, h⟩ := h
    refine ⟨e, te, (hC.ty t ti hti).under_slice hty, hte, hC.ty e te hte, ?_, h⟩
    have : te.size ≠ 0 := by intro h0; simp [h0] at h1
    omega
  · cases h
theorem run_append_zero {t ty e : Nat} (ht : P.underlying t = some (.slice e)) {te : TI} (hte : TyOk P e te) (base : Option Addr) (n cap : Nat) (hnc : n ≤ cap) (a : Option Addr) (c : Nat) :
    (Builtin.append_ #[t, t] ty #[.slice base n cap, .slice a 0 c]).run P w = .ok (.slice base n cap) w := by
  have hs := hte.size_ne (w := w)
  cases a <;> cases base <;> simp [Builtin.append_, run_underlying ht, hs, Builtin.lenOf, hnc, Builtin.firstCells, loadCells, loadCellsFrom, storeCells]
theorem append_run {t ty e : Nat} (ht : P.underlying t = some (.slice e)) {te : TI} (hte : TyOk P e te) (hp : 0 < te.size) {v : Value} {n : Nat} {xs : List Value} (hown : w.ownsRow 0 e te.size v n xs)
    {a : Option Addr} {m c : Nat} {ys : List Value} (hl : ys.length = m * te.size) (hat : At w m a ys) (hn : n + m ≤ 140737488355328) (hb : (n + m) * te.bytes ≤ 140737488355328) :
    ∃ v' w', (Builtin.append_ #[t, t] ty #[v, .slice a m c]).run P w = .ok v' w' ∧ w'.ownsRow 0 e te.size v' (n + m) (xs ++ ys) ∧ w.grownBy w' v.ownBlock ∧ (∀ b, blockOf v' = some b → blockOf v = some b ∨ w.heap.size ≤ b) := by
  obtain ⟨i, z, d, hi, hs, hby, hz, hzl, hu, hagg, hd, hone, hlv, hz1, hzlen⟩ := hte.info
  have hvs : ∃ base cap, v = .slice base n cap ∧ n ≤ cap := by
    rcases hown.2 with ⟨rfl, rfl⟩ | ⟨g, cap, cur, rfl, _, _, h, _⟩
    · exact ⟨none, 0, rfl, Nat.le_refl _⟩
    · exact ⟨_, cap, rfl, h⟩
  by_cases hm : m = 0
  · subst hm
    obtain ⟨base, cap, rfl, hnc⟩ := hvs
    have : ys = [] := List.eq_nil_of_length_eq_zero (by simpa using hl)
    subst this
    exact ⟨_, w, run_append_zero ht hte base n cap hnc a c, by simpa using hown, ⟨rfl, rfl, rfl, Nat.le_refl _, fun _ _ _ => rfl⟩, fun b h => .inl h⟩
  rcases hat with ⟨h0, _⟩ | ⟨b, o, rfl, hc⟩
  · exact absurd h0 hm
  have hnews : ∀ j u, ys[j]? = some u → w.cell? ((⟨b, o, none⟩ : Addr).add j) = some u := fun j u hj => by rw [add_at]; exact (hc j u hj).1
  have h1 : ∀ u ∈ ys, u.oneCell' = true := fun u hu => by
    obtain ⟨j, hj⟩ := List.getElem?_of_mem hu
    exact (hc j u hj).2
  have hzs : z.cells.size = te.size := by rw [← Array.length_toList, hzl]; exact hzlen
  obtain ⟨v', w', hr, h2, h3, h4⟩ := run_append_own (P := P) w 0 t ty e i z te.size te.bytes ht hi hz hs hby hzs hp v n xs hown ⟨b, o, none⟩ m c ys hl hnews h1 (by simp only [maxLen]; omega) hb (Nat.zero_le _)
  refine ⟨v', w', hr, h2, h3, ?_⟩
  rcases hown.2 with ⟨rfl, rfl⟩ | ⟨g, cap, cur, rfl, hbg, hg, hnc, hcm, hcs, htake⟩
  · have hr' := run_append_nil (P := P) w t ty e i z ht hi hz ⟨b, o, none⟩ m c ys (by rw [hs]; exact hl) hnews (by omega) (by omega) (by rw [hby]; simp only [Nat.zero_add] at hb; omega)
    rw [hr'] at hr
    injection hr with e1 e2
    intro b' hb'
    rw [← e1] at hb'
    simp [blockOf] at hb'
    exact .inr (by omega)
  · by_cases hroom : n + m ≤ cap
    · have hr' := run_append_room (P := P) w t ty e i ht hi g n cap cur hg ⟨b, o, none⟩ m c ys (by rw [hs]; exact hl) hnews h1 hroom (by rw [hs, hl, hcs, ← Nat.add_mul]; exact Nat.mul_le_mul_right _ hroom)
      rw [hr'] at hr
      injection hr with e1 e2
      intro b' hb'
      rw [← e1] at hb'
      exact .inl hb'
    · have holds : ∀ j u, xs[j]? = some u → w.cell? ((⟨g, 0, none⟩ : Addr).add j) = some u := hown.cells (g := g) rfl
      have hr' := run_append_grow (P := P) w t ty e i z ht hi hz ⟨g, 0, none⟩ n cap xs (by rw [hs]; exact hown.1) holds ⟨b, o, none⟩ m c ys (by rw [hs]; exact hl) hnews (by omega) (by omega) (growslice_fits (by omega) (by rw [hby]; exact hb))
      rw [hr'] at hr
      injection hr with e1 e2
      intro b' hb'
      rw [← e1] at hb'
      simp [blockOf] at hb'
      exact .inr (by omega)
theorem append_sound (hC : CfgOk P C) (hn0 : n0 ≤ obs.length) (hN : ∀ b, w.heap.size ≤ b → ¬ N b) {t ty : Nat} {x y : V} {xv yv : Value} {K : V → Obs → Option α} (hS : St C N s0 n0 A obs w) (hx : Rl A (Ok N A obs w) w x xv) (hy : Rl A (Ok N A obs w) w y yv)
    (h : append C obs t x y K = some r) :
    ∃ v obs' A' w' vv, K v obs' = some r ∧ (Builtin.append_ #[t, t] ty #[xv, yv]).run P w = .ok vv w' ∧ After C N s0 n0 A obs w A' obs' w' ∧ Rl A' (Ok N A' obs' w') w' v vv := by
  unfold append at h
  replace h := elemOf_some hC h
  obtain ⟨e, te, ht, hte', hte, hp, h⟩ := h
  replace h := slOf_sound h hS hy
  obtain ⟨m, ys, h, a, c, us, rfl, hmc, hl, hat, _⟩ := h
  replace h := must_some h
  obtain ⟨h1, h⟩ := h
  have h1 : ys.length = m * te.size := of_decide_eq_true h1
  have hus : us.length = m * te.size := by rw [← hl.length]; exact h1
  have hone : ∀ u ∈ us, u.oneCell' = true := fun u hu => by
    rcases hat with ⟨_, rfl⟩ | ⟨b, o, _, hc⟩
    · simp at hu
    · obtain ⟨j, hj⟩ := List.getElem?_of_mem hu
      exact (hc j u hj).2
  split at h
  · simp only [Rl] at hx; subst hx
    replace h := must_some h
    obtain ⟨h2, h⟩ := h
    simp only [Bool.and_eq_true] at h2
    have b1 := Nat.le_of_ble_eq_true h2.1
    have b2 := Nat.le_of_ble_eq_true h2.2
    simp only [roomB] at b1 b2
    obtain ⟨v', w', hr, ho, hg, hbk⟩ := append_run (ty := ty) ht hte hp (w.ownsRow_nil 0 e te.size) hus (c := c) hat (by omega) (by simpa using b2)
    rw [List.nil_append, Nat.zero_add] at ho
    have hg' : w.grownBy w' none := hg
    have ha : After C N s0 n0 A obs w (A ++ [v']) (obs ++ [.row e m ys false]) w' := by
      refine hS.push hn0 _ _ _ hg.size (fun b hb => hg'.block b hb (by simp)) hg.os hg.tape hg.output (fun b hb => ?_) (Place.of_own ho) ?_ ?_
      · rcases hbk b hb with h | h
        · simp [blockOf] at h
        · exact ⟨h, hN b h⟩
      · intro t1 cs1 sh1 e1; cases e1
      · intro t1 n1 cs1 sh1 e1; cases e1
        exact ⟨te, us, hte', hp, ho, hl, hone⟩
    refine ⟨_, _, _, w', v', h, hr, ha, ?_⟩
    simp only [Rl]
    rw [← hS.len]; simp
  · rename_i id
    simp only [Rl] at hx
    split at h
    · rename_i e' n xs ho
      replace h := must_some h
      obtain ⟨h2, h⟩ := h
      simp only [Bool.and_eq_true] at h2
      have ee := Nat.eq_of_beq_eq_true h2.1.1
      subst ee
      have b1 := Nat.le_of_ble_eq_true h2.1.2
      have b2 := Nat.le_of_ble_eq_true h2.2
      simp only [roomB] at b1 b2
      obtain ⟨ti, vs, hti, hp', hown, hl', hone'⟩ := hS.row id e n xs false xv ho hx
      rw [hte'] at hti; cases hti
      obtain ⟨v', w', hr, ho', hg, hbk⟩ := append_run (ty := ty) ht hte hp hown hus (c := c) hat b1 b2
      have ha : After C N s0 n0 A obs w (A ++ [v']) (setOb obs id .gone ++ [.row e (n + m) (xs ++ ys) false]) w' := by
        refine hS.grow hn0 ho hx hg.size (fun b hb hne => hg.block b hb (by rw [← blockOf_own hown]; exact fun e => hne e.symm)) hg.os hg.tape hg.output (fun b hb => ?_) ⟨te, vs ++ us, hte', hp, ho', hl'.append hl, ?_⟩
        · rcases hbk b hb with h | h
          · exact .inl h
          · exact .inr ⟨h, hN b h⟩
        · intro u hu
          rcases List.mem_append.1 hu with hu | hu
          · exact hone' u hu
          · exact hone u hu
      refine ⟨_, _, _, w', v', h, hr, ha, ?_⟩
      simp only [Rl]
      rw [← hS.len]; simp
    · cases h
  · cases h
theorem lenOf_sound (hC : CfgOk P C) {t ty : Nat} {x : V} {xv : Value} {K : V → Option α} (hS : St C N s0 n0 A obs w) (hx : Rl A (Ok N A obs w) w x xv) (h : lenOf C obs t x K = some r) :
    ∃ v vv, K v = some r ∧ (∀ w2 : World, (Builtin.len_ #[t] ty #[xv]).run P w2 = .ok vv w2) ∧ Rl A (Ok N A obs w) w v vv := by
  unfold lenOf at h
  replace h := need_some h
  obtain ⟨ti, hti, h⟩ := h
  have ht := hC.ty t ti hti
  split at h
  · rename_i hty
    have hu := ht.under_str hty
    split at h
    · rename_i s
      simp only [Rl] at hx; subst hx
      exact ⟨_, .int .i64 s.size, h, fun w2 => by simp [Builtin.len_, run_underlying hu, goInt], by simp only [Rl]⟩
    · cases h
  · rename_i e hty
    have hu := ht.under_slice hty
    obtain ⟨n, a, c, h, rfl, _⟩ := slLen_sound h hS hx
    exact ⟨_, .int .i64 n, h, fun w2 => by simp [Builtin.len_, run_underlying hu, goInt], by simp only [Rl]⟩
  · rename_i n e hty
    have hu := ht.under_arr hty
    exact ⟨_, .int .i64 n, h, fun w2 => by simp [Builtin.len_, run_underlying hu, goInt], by simp only [Rl]⟩
  · cases h
theorem reps_rl {A : List Value} {ok : Nat → Prop} {w : World} {zs : List V} {us : List Value} (h : RlL A ok w zs us) : ∀ n, RlL A ok w (reps n zs) ((List.replicate n us).flatten)
  | 0 => by simp [reps, RlL]
  | n + 1 => by simp only [reps, List.replicate_succ, List.flatten_cons]; exact h.append (reps_rl h n)
theorem madeCells_eq (z : Array Value) (k : Nat) (hz : z.size = k) (hk : 0 < k) : ∀ n, (madeCells z (n * k)).toList = (List.replicate n z.toList).flatten
  | 0 => by simp [madeCells]
  | n + 1 => by
    have ih := madeCells_eq z k hz hk n
    simp only [madeCells, Array.toList_map, Array.toList_range] at ih ⊢
    rw [Nat.succ_mul, List.range_add, List.map_append, ih, List.replicate_succ', List.flatten_append, List.map_map]
    congr 1
    simp only [List.flatten_cons, List.flatten_nil, List.append_nil]
    apply List.ext_getElem
    · simp [hz]
    · intro i h1 h2
      simp only [List.length_map, List.length_range] at h1
      simp only [List.getElem_map, List.getElem_range, Function.comp, Array.getElem_toList]
      have e : (n * k + i) % z.size = i := by rw [hz, Nat.add_comm, Nat.add_mul_mod_self_right, Nat.mod_eq_of_lt h1]
      rw [e, getElem!_pos z i (by omega)]
theorem nz_rl {A : List Value} {ok : Nat → Prop} {w : World} : ∀ (x : V) (v : Value), Rl A ok w x v → Rl A ok w (nz x) v := by
  intro x v h
  cases x <;> first | exact h | skip
  simp only [Rl] at h
  subst h
  exact ⟨none, 0, [], rfl, Nat.le_refl _, trivial, .inl ⟨rfl, rfl⟩⟩
theorem nzL_rl {A : List Value} {ok : Nat → Prop} {w : World} : ∀ (xs : List V) (vs : List Value), RlL A ok w xs vs → RlL A ok w (nzL xs) vs
  | [], [], _ => trivial
  | x :: xs, v :: vs, h => ⟨nz_rl x v h.1, nzL_rl xs vs h.2⟩
theorem nzs_rl {A : List Value} {ok : Nat → Prop} {w : World} (ls : List Leaf) {xs : List V} {vs : List Value} (h : RlL A ok w xs vs) : RlL A ok w (nzs ls xs) vs := by
  unfold nzs
  split
  · exact nzL_rl xs vs h
  · exact h
theorem zeroCells_eq (z : Array Value) (k : Nat) (hz : z.size = k) (hk : 0 < k) (n : Nat) : (Builtin.zeroCells z n).toList = (List.replicate n z.toList).flatten := by
  have := madeCells_eq z k hz hk n
  rw [← this]
  subst hz
  rfl
section
variable {t u ty e : Nat} {i : TypeInfo} {z : Value} {ki kj : IntKind}
theorem runZ_nil0 (w : World) (ht : P.underlying t = some (.slice e)) (hu : P.underlying u = some (.int ki)) (hi : P.info? e = some i) (hz : i.zero = some z) :
    (Builtin.append_ #[t, u] ty #[.slice none 0 0, .int kj 0]).run P w = .ok (.slice none 0 0) w := by
  have hw : IntKind.i64.wrap 0 = 0 := rfl
  simp [Builtin.append_, run_underlying ht, run_underlying hu, sizeOf, typeInfo, zeroValue, hi, hz, Go.asInt, Go.asIntOf, hw]
theorem runZ_nil (w : World) (ht : P.underlying t = some (.slice e)) (hu : P.underlying u = some (.int ki)) (hi : P.info? e = some i) (hz : i.zero = some z) (hs : 0 < i.size)
    (m : Nat) (h0 : 0 < m) (hm : m ≤ 140737488355328) (hb : m * i.bytes ≤ 140737488355328) :
    (Builtin.append_ #[t, u] ty #[.slice none 0 0, .int kj m]).run P w =
      .ok (.slice (some ⟨w.heap.size, 0, none⟩) m (grownCap w m 0 e)) (w.drew.alloc (.cells (Builtin.zeroCells z.cells m ++ Builtin.zeroCells z.cells (grownCap w m 0 e - m)) e)) := by
  have hw : IntKind.i64.wrap (m : Int) = (m : Int) := by rw [IntKind.wrap_i64]; omega
  have hn : m ≠ 0 := by omega
  have hn1 : ¬ ((m : Int) < 0) := by omega
  have hn2 : ¬ (281474976710656 < (m : Int) * (i.bytes : Int)) := by rw [← Int.natCast_mul]; omega
  have h63' : ¬ (9223372036854775807 < (m : Int)) := by omega
  have h48' : ¬ (281474976710656 < Builtin.nextslicecap m 0 * i.bytes) := by rw [nextslicecap_zero h0]; omega
  have hz0 : ¬ (m * i.size = 0) := Nat.mul_ne_zero (by omega) (by omega)
  simp [Builtin.append_, run_underlying ht, run_underlying hu, sizeOf, typeInfo, zeroValue, hi, hz, Go.asInt, Go.asIntOf, hw, hn, hn1, hn2, h63', h48', hz0, Question.forced, run_firstCells_none, newRow, grownCap]
  try exact fun h => absurd h hz0
theorem runZ_room (w : World) (ht : P.underlying t = some (.slice e)) (hu : P.underlying u = some (.int ki)) (hi : P.info? e = some i) (hz : i.zero = some z) (hs : 0 < i.size) (hzs : z.cells.size = i.size)
    (g sLen sCap : Nat) (cur : Array Value) (hg : w.heap[g]? = some (.cells cur e (0, 0))) (m : Nat) (hm : m ≤ 140737488355328) (hb : m * i.bytes ≤ 140737488355328) (h1 : ∀ u ∈ (Builtin.zeroCells z.cells m).toList, u.oneCell' = true)
    (hroom : sLen + m ≤ sCap) (hfit : sLen * i.size + m * i.size ≤ cur.size) :
    (Builtin.append_ #[t, u] ty #[.slice (some ⟨g, 0, none⟩) sLen sCap, .int kj m]).run P w =
      .ok (.slice (some ⟨g, 0, none⟩) (sLen + m) sCap) (w.setRow g (cur.toList.take (sLen * i.size) ++ (Builtin.zeroCells z.cells m).toList ++ cur.toList.drop (sLen * i.size + m * i.size)).toArray) := by
  have hl : (Builtin.zeroCells z.cells m).toList.length = m * i.size := by rw [Array.length_toList, size_zeroCells, hzs]
  have hw : IntKind.i64.wrap (m : Int) = (m : Int) := by rw [IntKind.wrap_i64]; omega
  have hn1 : ¬ ((m : Int) < 0) := by omega
  have hn2 : ¬ (281474976710656 < (m : Int) * (i.bytes : Int)) := by rw [← Int.natCast_mul]; omega
  have hst := run_storeCells_at P g (sLen * i.size) e (Builtin.zeroCells z.cells m).toList 0 cur w hg (by rw [hl]; simpa using hfit) h1
  simp only [Nat.add_zero, hl] at hst
  by_cases h0 : m = 0
  · subst h0
    have he : Builtin.zeroCells z.cells 0 = #[] := by simp [Builtin.zeroCells]
    have hw0 : IntKind.i64.wrap 0 = 0 := rfl
    have hroom' : sLen ≤ sCap := by omega
    have hst' := setRow_self w g cur e (0, 0) hg
    simp [Builtin.append_, run_underlying ht, run_underlying hu, sizeOf, typeInfo, zeroValue, hi, hz, Go.asInt, Go.asIntOf, hw0, hroom', Addr.add_lit, he, storeCells, hst']
  · have hz0 : ¬ (m * i.size = 0) := Nat.mul_ne_zero (by omega) (by omega)
    simp [Builtin.append_, run_underlying ht, run_underlying hu, sizeOf, typeInfo, zeroValue, hi, hz, Go.asInt, Go.asIntOf, hw, hn1, hn2, hz0, hroom, Addr.add_lit, hst]
    try exact fun h => absurd h hz0
theorem runZ_grow (w : World) (ht : P.underlying t = some (.slice e)) (hu : P.underlying u = some (.int ki)) (hi : P.info? e = some i) (hz : i.zero = some z) (hs : 0 < i.size)
    (b : Addr) (sLen sCap : Nat) (olds : List Value) (hlo : olds.length = sLen * i.size) (holds : ∀ j v, olds[j]? = some v → w.cell? (b.add j) = some v)
    (m : Nat) (h0 : 0 < m) (hm : m ≤ 140737488355328) (hb : m * i.bytes ≤ 140737488355328)
    (hg : sCap < sLen + m) (h63 : ((sLen + m : Nat) : Int) ≤ 9223372036854775807) (hfit : Builtin.nextslicecap (sLen + m) sCap * i.bytes ≤ 281474976710656) :
    (Builtin.append_ #[t, u] ty #[.slice (some b) sLen sCap, .int kj m]).run P w =
      .ok (.slice (some ⟨w.heap.size, 0, none⟩) (sLen + m) (grownCap w (sLen + m) sCap e))
        (w.drew.alloc (.cells (olds.toArray ++ Builtin.zeroCells z.cells m ++ Builtin.zeroCells z.cells (grownCap w (sLen + m) sCap e - (sLen + m))) e)) := by
  have hn : ¬ (sLen + m ≤ sCap) := by omega
  have hw : IntKind.i64.wrap (m : Int) = (m : Int) := by rw [IntKind.wrap_i64]; omega
  have hn1 : ¬ ((m : Int) < 0) := by omega
  have hn2 : ¬ (281474976710656 < (m : Int) * (i.bytes : Int)) := by rw [← Int.natCast_mul]; omega
  have h63' : ¬ (9223372036854775807 < ((sLen : Int) + (m : Int))) := by omega
  have h48' : ¬ (281474976710656 < Builtin.nextslicecap (sLen + m) sCap * i.bytes) := by omega
  have hz0 : ¬ (m * i.size = 0) := Nat.mul_ne_zero (by omega) (by omega)
  have hfo := run_firstCells_some (P := P) w.drew i.size sLen b sLen sCap olds hlo (by simpa using holds)
  simp [Builtin.append_, run_underlying ht, run_underlying hu, sizeOf, typeInfo, zeroValue, hi, hz, Go.asInt, Go.asIntOf, hw, hn, hn1, hn2, hz0, h63', h48', Question.forced, hfo, newRow, grownCap]
  try exact fun h => absurd h hz0
end
theorem appendZ_run {t u ty e : Nat} {ki kj : IntKind} (ht : P.underlying t = some (.slice e)) (hu : P.underlying u = some (.int ki)) {te : TI} (hte : TyOk P e te) (hp : 0 < te.size) {v : Value} {n : Nat} {xs : List Value} (hown : w.ownsRow 0 e te.size v n xs)
    (m : Nat) (hn : n + m ≤ 140737488355328) (hb : (n + m) * te.bytes ≤ 140737488355328) :
    ∃ v' w', (Builtin.append_ #[t, u] ty #[v, .int kj m]).run P w = .ok v' w' ∧ w'.ownsRow 0 e te.size v' (n + m) (xs ++ (List.replicate m te.zero).flatten) ∧ w.grownBy w' v.ownBlock ∧ (∀ b, blockOf v' = some b → blockOf v = some b ∨ w.heap.size ≤ b) := by
  obtain ⟨i, z, d, hi, hs, hby, hz, hzl, hu0, hagg, hd, hone, hlv, hz1, hzlen⟩ := hte.info
  have hzs : z.cells.size = te.size := by rw [← Array.length_toList, hzl]; exact hzlen
  have hzc : (Builtin.zeroCells z.cells m).toList = (List.replicate m te.zero).flatten := by rw [zeroCells_eq z.cells te.size hzs hp m, hzl]
  have hl : ((List.replicate m te.zero).flatten).length = m * te.size := by rw [← hzc, Array.length_toList, size_zeroCells, hzs]
  have h1 : ∀ u ∈ (List.replicate m te.zero).flatten, u.oneCell' = true := fun u hu => by
    obtain ⟨l, hl1, hl2⟩ := List.mem_flatten.1 hu
    rw [(List.mem_replicate.1 hl1).2] at hl2
    exact hone u hl2
  generalize hnews : (List.replicate m te.zero).flatten = news at hzc hl h1 ⊢
  have hza : news.toArray = Builtin.zeroCells z.cells m := by rw [← hzc]
  have hlen : (xs ++ news).length = (n + m) * te.size := by rw [List.length_append, hown.1, hl, Nat.add_mul]
  have hmb : m * te.bytes ≤ 140737488355328 := Nat.le_trans (Nat.mul_le_mul_right _ (by omega)) hb
  have grown : ∀ (old : Nat) (row : Option Nat),
      (w.drew.alloc (.cells (xs.toArray ++ news.toArray ++ Builtin.zeroCells z.cells (grownCap w (n + m) old e - (n + m))) e)).ownsRow 0 e te.size
        (.slice (some ⟨w.heap.size, 0, none⟩) (n + m) (grownCap w (n + m) old e)) (n + m) (xs ++ news) ∧
      w.grownBy (w.drew.alloc (.cells (xs.toArray ++ news.toArray ++ Builtin.zeroCells z.cells (grownCap w (n + m) old e - (n + m))) e)) row := by
    intro old row
    have hge := grownCap_ge w (n + m) old e
    have hcm : grownCap w (n + m) old e ≤ maxLen := grownCap_le_maxLen w (n + m) old e (by simp only [maxLen]; omega)
    refine ⟨⟨hlen, .inr ⟨w.heap.size, _, _, rfl, Nat.zero_le _, heap_alloc_new w.drew _, hge, hcm, ?_, ?_⟩⟩, ⟨rfl, rfl, rfl, by simp, fun k hk _ => heap_alloc_old w.drew _ k hk⟩⟩
    · simp only [Array.size_append, List.size_toArray, size_zeroCells, hzs, hown.1, hl, ← Nat.add_mul]
      congr 1
      omega
    · simp only [Array.toList_append, List.append_assoc]
      rw [← List.append_assoc, ← hlen]
      exact List.take_left
  rcases hown.2 with ⟨rfl, rfl⟩ | ⟨g, cap, cur, rfl, hbg, hg, hnc, hcm, hcs, htake⟩
  · have hx : xs = [] := List.eq_nil_of_length_eq_zero (by simpa using hown.1)
    subst hx
    by_cases hm : m = 0
    · subst hm
      have hn : news = [] := List.eq_nil_of_length_eq_zero (by simpa using hl)
      subst hn
      exact ⟨.slice none 0 0, w, runZ_nil0 w ht hu hi hz, World.ownsRow_nil w 0 e te.size, ⟨rfl, rfl, rfl, Nat.le_refl _, fun _ _ _ => rfl⟩, fun b h => .inl h⟩
    · have hr := runZ_nil (ty := ty) (kj := kj) w ht hu hi hz (by omega) m (by omega) (by omega) (by rw [hby]; exact hmb)
      have hgr := grown 0 (Value.ownBlock (.slice none 0 0))
      simp only [Nat.zero_add, List.nil_append, Array.empty_append, hza] at hgr ⊢
      exact ⟨_, _, hr, hgr.1, hgr.2, fun b h => by simp [blockOf] at h; exact .inr (by omega)⟩
  · by_cases hroom : n + m ≤ cap
    · have hfit : n * te.size + m * te.size ≤ cur.size := by rw [hcs, ← Nat.add_mul]; exact Nat.mul_le_mul_right _ hroom
      have hr := runZ_room (ty := ty) (kj := kj) w ht hu hi hz (by omega) (by omega) g n cap cur hg m (by omega) (by rw [hby]; exact hmb) (by rw [hzc]; exact h1) hroom (by rw [hs]; exact hfit)
      rw [hzc, hs] at hr
      refine ⟨_, _, hr, ⟨hlen, .inr ⟨g, cap, _, rfl, hbg, setRow_heap w g cur _ e _ hg, hroom, hcm, ?_, ?_⟩⟩, ⟨rfl, rfl, rfl, by simp, fun k _ hk => setRow_other w g k _ (fun e => hk (by simp [Value.ownBlock, e]))⟩, fun b h => .inl h⟩
      · simp only [List.size_toArray, List.length_append, List.length_take, List.length_drop, Array.length_toList, hl]
        omega
      · rw [htake, ← hlen]
        exact List.take_left
    · have holds : ∀ j u, xs[j]? = some u → w.cell? ((⟨g, 0, none⟩ : Addr).add j) = some u := hown.cells (g := g) rfl
      have hr := runZ_grow (ty := ty) (kj := kj) w ht hu hi hz (by omega) ⟨g, 0, none⟩ n cap xs (by rw [hs]; exact hown.1) holds m (by omega) (by omega) (by rw [hby]; exact hmb) (by omega) (by omega) (growslice_fits (by omega) (by rw [hby]; exact hb))
      rw [← hza] at hr
      have hgr := grown cap (Value.ownBlock (.slice (some ⟨g, 0, none⟩) n cap))
      exact ⟨_, _, hr, hgr.1, hgr.2, fun b h => by simp [blockOf] at h; exact .inr (by omega)⟩
theorem appendZ_sound (hC : CfgOk P C) (hn0 : n0 ≤ obs.length) (hN : ∀ b, w.heap.size ≤ b → ¬ N b) {t t' ty : Nat} {x y : V} {xv yv : Value} {K : V → Obs → Option α} (hS : St C N s0 n0 A obs w) (hx : Rl A (Ok N A obs w) w x xv) (hy : Rl A (Ok N A obs w) w y yv)
    (h : appendZ C obs t t' x y K = some r) :
    ∃ v obs' A' w' vv, K v obs' = some r ∧ (Builtin.append_ #[t, t'] ty #[xv, yv]).run P w = .ok vv w' ∧ After C N s0 n0 A obs w A' obs' w' ∧ Rl A' (Ok N A' obs' w') w' v vv := by
  unfold appendZ at h
  replace h := elemOf_some hC h
  obtain ⟨e, te, ht, hte', hte, hp, h⟩ := h
  replace h := need_some h
  obtain ⟨tn, htn, h⟩ := h
  split at h
  · rename_i ki kj m hty
    have hu := (hC.ty t' tn htn).under_int hty
    replace h := must_some h
    obtain ⟨h1, h⟩ := h
    simp only [Bool.and_eq_true, decide_eq_true_eq] at h1
    obtain ⟨m, rfl⟩ := Int.eq_ofNat_of_zero_le h1.1
    simp only [Rl] at hy; subst hy
    split at h
    · rename_i id
      simp only [Rl] at hx
      split at h
      · rename_i e' n xs ho
        replace h := must_some h
        obtain ⟨h2, h⟩ := h
        simp only [Bool.and_eq_true, decide_eq_true_eq, Int.toNat_natCast] at h2 h
        have ee := Nat.eq_of_beq_eq_true h2.1.1
        subst ee
        have b1 : n + m ≤ 140737488355328 := by have := h2.1.2; simp only [roomB] at this; omega
        have b2 : (n + m) * te.bytes ≤ 140737488355328 := by have := h2.2; simp only [roomB] at this; exact_mod_cast this
        obtain ⟨ti, vs, hti, hp', hown, hl', hone'⟩ := hS.row id e n xs false xv ho hx
        rw [hte'] at hti; cases hti
        obtain ⟨v', w', hr, ho', hg, hbk⟩ := appendZ_run (ty := ty) (kj := kj) ht hu hte hp hown m b1 b2
        have ha : After C N s0 n0 A obs w (A ++ [v']) (setOb obs id .gone ++ [.row e (n + m) (xs ++ reps m (nzs te.leaves (ofConsts te.zero))) false]) w' := by
          refine hS.grow hn0 ho hx hg.size (fun b hb hne => hg.block b hb (by rw [← blockOf_own hown]; exact fun e => hne e.symm)) hg.os hg.tape hg.output (fun b hb => ?_) ⟨te, vs ++ (List.replicate m te.zero).flatten, hte', hp, ho', hl'.append (reps_rl (nzs_rl te.leaves (ofConsts_rl te.zero)) m), ?_⟩
          · rcases hbk b hb with h | h
            · exact .inl h
            · exact .inr ⟨h, hN b h⟩
          · intro u hu
            rcases List.mem_append.1 hu with hu | hu
            · exact hone' u hu
            · obtain ⟨l, hl1, hl2⟩ := List.mem_flatten.1 hu
              rw [(List.mem_replicate.1 hl1).2] at hl2
              obtain ⟨i, z, d, hi, hs, hby, hz, hzl, hu0, hagg, hd, hone, hlv, hz1, hzlen⟩ := hte.info
              exact hone u hl2
        refine ⟨_, _, _, w', v', h, hr, ha, ?_⟩
        simp only [Rl]
        rw [← hS.len]; simp
      · cases h
    · cases h
  · cases h
theorem makeSlice_sound (hC : CfgOk P C) (hn0 : n0 ≤ obs.length) (hN : ∀ b, w.heap.size ≤ b → ¬ N b) {t : Nat} {x y : V} {xv yv : Value} {K : V → Obs → Option α} (hS : St C N s0 n0 A obs w) (hx : Rl A (Ok N A obs w) w x xv) (hy : Rl A (Ok N A obs w) w y yv)
    (h : makeSlice C obs t x y K = some r) :
    ∃ v obs' A' w' vv, K v obs' = some r ∧ (Instr.makeSlice t xv yv).run P w = .ok vv w' ∧ After C N s0 n0 A obs w A' obs' w' ∧ Rl A' (Ok N A' obs' w') w' v vv := by
  unfold makeSlice at h
  replace h := elemOf_some hC h
  obtain ⟨e, te, ht, hte', hte, hp, h⟩ := h
  obtain ⟨i, z, d, hi, hs, hby, hz, hzl, hu, hagg, hd, hone, hlv, hz1, hzlen⟩ := hte.info
  have hzs : z.cells.size = te.size := by rw [← Array.length_toList, hzl]; exact hzlen
  split at h
  · rename_i n m
    simp only [Rl] at hx hy; subst hx hy
    replace h := must_some h
    obtain ⟨h1, h⟩ := h
    simp only [Bool.and_eq_true, decide_eq_true_eq] at h1
    obtain ⟨⟨⟨rfl, h0⟩, hr1⟩, hr2⟩ := h1
    obtain ⟨n, rfl⟩ := Int.eq_ofNat_of_zero_le h0
    simp only [Int.toNat_natCast, roomB] at h hr1 hr2
    have hb : te.bytes * n ≤ 281474976710656 := by
      have : ((n * te.bytes : Nat) : Int) ≤ 140737488355328 := by rw [Int.natCast_mul]; exact hr2
      rw [Nat.mul_comm]; omega
    obtain ⟨w', hr, ho, hg⟩ := run_make_full (P := P) w 0 t e i z te.size ht hi hz hs .i64 .i64 n (by rw [hby]; exact hb) (by simp only [maxLen]; omega) (Nat.zero_le _)
    have hcells : (madeCells z.cells (n * te.size)).toList = (List.replicate n te.zero).flatten := by rw [madeCells_eq z.cells te.size hzs hp n, hzl]
    rw [hcells] at ho
    have hpl := hS.push hn0 (.row e n (reps n (nzs te.leaves (ofConsts te.zero))) false) (.slice (some ⟨w.heap.size, 0, none⟩) n n) w' hg.size (fun b hb => hg.block b hb (by simp)) hg.os hg.tape hg.output (fun b hb => by simp [blockOf] at hb; exact ⟨by omega, hN b (by omega)⟩) (.inl ⟨_, _, _, rfl⟩)
      (fun t1 cs1 sh1 e1 => by cases e1)
      (fun t1 n1 cs1 sh1 e1 => by
        cases e1
        refine ⟨te, _, hte', hp, ho, reps_rl (nzs_rl te.leaves (ofConsts_rl te.zero)) n, fun u hu => ?_⟩
        obtain ⟨l, hl1, hl2⟩ := List.mem_flatten.1 hu
        rw [(List.mem_replicate.1 hl1).2] at hl2
        exact hone u hl2)
    refine ⟨_, _, _, w', _, h, hr, hpl, ?_⟩
    simp only [Rl]
    rw [← hS.len]; simp
  · cases h
theorem makeSliceN_sound (hC : CfgOk P C) (hn0 : n0 ≤ obs.length) (hN : ∀ b, w.heap.size ≤ b → ¬ N b) {t : Nat} {x y : V} {xv yv : Value} {K : V → Obs → Option α} (hS : St C N s0 n0 A obs w) (hx : Rl A (Ok N A obs w) w x xv) (hy : Rl A (Ok N A obs w) w y yv)
    (h : makeSliceN C obs t x y K = some r) :
    ∃ v obs' A' w' vv, K v obs' = some r ∧ (Instr.makeSlice t xv yv).run P w = .ok vv w' ∧ After C N s0 n0 A obs w A' obs' w' ∧ Rl A' (Ok N A' obs' w') w' v vv := by
  unfold makeSliceN at h
  replace h := elemOf_some hC h
  obtain ⟨e, te, ht, hte', hte, hp, h⟩ := h
  obtain ⟨i, z, d, hi, hs, hby, hz, hzl, hu, hagg, hd, hone, hlv, hz1, hzlen⟩ := hte.info
  have hzs : z.cells.size = te.size := by rw [← Array.length_toList, hzl]; exact hzlen
  split at h
  · rename_i n m
    simp only [Rl] at hx hy; subst hx hy
    replace h := must_some h
    obtain ⟨h1, h⟩ := h
    simp only [Bool.and_eq_true, decide_eq_true_eq] at h1
    obtain ⟨⟨⟨rfl, h0⟩, hr1⟩, hr2⟩ := h1
    obtain ⟨n, rfl⟩ := Int.eq_ofNat_of_zero_le h0
    simp only [Int.toNat_natCast, roomB] at h hr1 hr2
    have hb : te.bytes * n ≤ 281474976710656 := by
      have : ((n * te.bytes : Nat) : Int) ≤ 140737488355328 := by rw [Int.natCast_mul]; exact hr2
      rw [Nat.mul_comm]; omega
    obtain ⟨w', hr, ho, hg⟩ := run_make_full (P := P) w 0 t e i z te.size ht hi hz hs .i64 .i64 n (by rw [hby]; exact hb) (by simp only [maxLen]; omega) (Nat.zero_le _)
    have hcells : (madeCells z.cells (n * te.size)).toList = (List.replicate n te.zero).flatten := by rw [madeCells_eq z.cells te.size hzs hp n, hzl]
    rw [hcells] at ho
    have hR : RlL [] NoB w' (reps n (ofConsts te.zero)) (List.replicate n te.zero).flatten := reps_rl (ofConsts_rl te.zero) n
    obtain ⟨f1, f2, f3⟩ := RowL_flat hR
    have hcl : cellsOf w' (.slice (some ⟨w.heap.size, 0, none⟩) n n) (reps n (ofConsts te.zero)).length = (List.replicate n te.zero).flatten := by rw [hR.length]; exact cellsOf_own ho
    have hpl := hS.pushO hn0 (.nrow [] e n (reps n (ofConsts te.zero))) (.slice (some ⟨w.heap.size, 0, none⟩) n n) w' hg.size (fun b hb => hg.block b hb (by simp)) hg.os hg.tape hg.output (fun b hb => by
        rcases hb with hb | hb
        · simp [blockOf] at hb; exact ⟨by omega, hN b (by omega)⟩
        · dsimp only [plug] at hb
          rw [hcl] at hb
          exact (f3 b hb).elim) (.inl ⟨_, _, _, rfl⟩)
      (fun t1 cs1 sh1 e1 => by cases e1) (fun t1 n1 cs1 sh1 e1 => by cases e1)
      (fun h0 t1 n1 cs1 e1 => by
        cases e1
        refine ⟨te, hte', hp, ?_⟩
        simp only [plug]
        rw [hcl]
        refine ⟨ho, f1, fun u hu => ?_, f2, fun b _ q => f3 b q, by simp⟩
        obtain ⟨l, hl1, hl2⟩ := List.mem_flatten.1 hu
        rw [(List.mem_replicate.1 hl1).2] at hl2
        exact hone u hl2)
    refine ⟨_, _, _, w', _, h, hr, hpl, ?_⟩
    simp only [Rl]
    rw [← hS.len]; simp
  · cases h
theorem row_append {xs ys : List V} {vs us : List Value} (h1 : RowL w xs vs) (s1 : sepL w xs vs) (h2 : RowL w ys us) (s2 : sepL w ys us) (hd : ∀ b, footL w xs vs b → ¬ footL w ys us b) :
    RowL w (xs ++ ys) (vs ++ us) ∧ sepL w (xs ++ ys) (vs ++ us) ∧ ∀ b, footL w (xs ++ ys) (vs ++ us) b → footL w xs vs b ∨ footL w ys us b := by
  have e1 := RowL.length h1
  have e2 := RowL.length h2
  have cl : ∀ (i : Nat) (z : V) (u : Value), (xs ++ ys)[i]? = some z → (vs ++ us)[i]? = some u → (i < xs.length ∧ xs[i]? = some z ∧ vs[i]? = some u) ∨ (xs.length ≤ i ∧ ys[i - xs.length]? = some z ∧ us[i - xs.length]? = some u) := fun i z u k1 k2 => by
    by_cases c : i < xs.length
    · rw [List.getElem?_append_left c] at k1
      rw [List.getElem?_append_left (by omega)] at k2
      exact .inl ⟨c, k1, k2⟩
    · rw [List.getElem?_append_right (by omega)] at k1 k2
      exact .inr ⟨by omega, k1, by rw [e1]; exact k2⟩
  refine ⟨(RowL_iff _ _).2 ⟨by simp [e1, e2], fun i z u k1 k2 => ?_⟩, (sepL_iff _ _).2 fun i j x y v u b hij k1 k2 k3 k4 f1 f2 => ?_, fun b hb => ?_⟩
  · rcases cl i z u k1 k2 with ⟨_, a, b⟩ | ⟨_, a, b⟩
    · exact ((RowL_iff _ _).1 h1).2 i z u a b
    · exact ((RowL_iff _ _).1 h2).2 _ z u a b
  · rcases cl i x v k1 k2 with ⟨a0, a1, a2⟩ | ⟨a0, a1, a2⟩
    · rcases cl j y u k3 k4 with ⟨b0, b1, b2⟩ | ⟨b0, b1, b2⟩
      · exact s1.ne (by omega) a1 a2 b1 b2 f1 f2
      · exact hd b ((footL_iff _ _ _).2 ⟨_, _, _, a1, a2, f1⟩) ((footL_iff _ _ _).2 ⟨_, _, _, b1, b2, f2⟩)
    · rcases cl j y u k3 k4 with ⟨b0, b1, b2⟩ | ⟨b0, b1, b2⟩
      · omega
      · exact s2.ne (by omega) a1 a2 b1 b2 f1 f2
  · obtain ⟨i, x, v, k1, k2, f⟩ := (footL_iff _ _ _).1 hb
    rcases cl i x v k1 k2 with ⟨_, a1, a2⟩ | ⟨_, a1, a2⟩
    · exact .inl ((footL_iff _ _ _).2 ⟨_, _, _, a1, a2, f⟩)
    · exact .inr ((footL_iff _ _ _).2 ⟨_, _, _, a1, a2, f⟩)
theorem appendN_sound (hC : CfgOk P C) (hn0 : n0 ≤ obs.length) (hN : ∀ b, w.heap.size ≤ b → ¬ N b) {t ty : Nat} {x y : V} {xv yv : Value} {K : V → Obs → Option α} (hS : St C N s0 n0 A obs w) (hx : Rl A (Ok N A obs w) w x xv) (hy : Rl A (Ok N A obs w) w y yv)
    (h : appendN C obs t x y K = some r) :
    ∃ v obs' A' w' vv, K v obs' = some r ∧ (Builtin.append_ #[t, t] ty #[xv, yv]).run P w = .ok vv w' ∧ After C N s0 n0 A obs w A' obs' w' ∧ Rl A' (Ok N A' obs' w') w' v vv := by
  unfold appendN at h
  replace h := elemOf_some hC h
  obtain ⟨e, te, ht, hte', hte, hp, h⟩ := h
  split at h
  · rename_i j
    split at h
    · rename_i e2 m ys hj
      replace h := must_some h
      obtain ⟨h1, h⟩ := h
      simp only [Bool.and_eq_true, decide_eq_true_eq] at h1
      have ee := Nat.eq_of_beq_eq_true h1.1
      subst ee
      have hm := h1.2
      simp only [Rl] at hy
      have hNj := hS.nrow j [] e m ys yv hj hy
      obtain ⟨ti, hti, _, hown, hl, hone, hsep, hself, _⟩ := hNj
      rw [hte'] at hti; cases hti
      simp only [plug] at hl hsep hself
      generalize hus : cellsOf w yv ys.length = us at hown hl hone hsep hself
      have hul : us.length = m * te.size := hown.1
      obtain ⟨a, c, rfl, hmc, hat⟩ : ∃ a c, yv = .slice a m c ∧ m ≤ c ∧ At w m a us := by
        rcases hown.2 with ⟨rfl, rfl⟩ | ⟨g, cap, cur, rfl, _, hh, hnc, _, _, ht9⟩
        · exact ⟨none, 0, rfl, Nat.le_refl _, .inl ⟨rfl, List.eq_nil_of_length_eq_zero (by simpa using hul)⟩⟩
        · refine ⟨_, cap, rfl, hnc, .inr ⟨g, 0, rfl, fun i v hv => ⟨?_, hone v (List.mem_of_getElem? hv)⟩⟩⟩
          rw [Nat.zero_add, cell_of_row w g i cur e (0, 0) hh]
          rw [← ht9, List.getElem?_take] at hv
          split at hv
          · simpa using hv
          · cases hv
      have fj : ∀ b, footL w ys us b → foot w (.nrow [] e m ys) (.slice a m c) b := fun b hb => .inr (by dsimp only [plug]; rw [hus]; exact hb)
      split at h
      ·
        simp only [Rl] at hx; subst hx
        replace h := must_some h
        obtain ⟨h2, h⟩ := h
        simp only [Bool.and_eq_true] at h2
        have b1 := Nat.le_of_ble_eq_true h2.1
        have b2 := Nat.le_of_ble_eq_true h2.2
        simp only [roomB] at b1 b2
        obtain ⟨v', w', hr, ho', hg, hbk⟩ := append_run (ty := ty) ht hte hp (w.ownsRow_nil 0 e te.size) hul (c := c) hat (by omega) (by simpa using b2)
        rw [List.nil_append, Nat.zero_add] at ho'
        have hg' : w.grownBy w' none := hg
        have keep : ∀ b, b < w.heap.size → w'.heap[b]? = w.heap[b]? := fun b hb => hg'.block b hb (by simp)
        have flt : ∀ b, footL w ys us b → b < w.heap.size := fun b hb => RowL.foot_lt _ _ hl b hb
        have same : ∀ b, footL w ys us b → w'.heap[b]? = w.heap[b]? := fun b hb => keep b (flt b hb)
        have hcl : cellsOf w' v' ys.length = us := by rw [RowL.length hl]; exact cellsOf_own ho'
        have fresh : ∀ b, blockOf v' = some b → w.heap.size ≤ b := fun b hb => (hbk b hb).resolve_left (by simp [blockOf])
        have ha : After C N s0 n0 A obs w (A ++ [v']) (setOb obs j .gone ++ [.nrow [] e m ys]) w' := by
          refine hS.growO hn0 hj rfl rfl rfl rfl hy hg.size (fun b hb _ => keep b hb) hg.os hg.tape hg.output (fun b hb => ?_) (Place.of_own ho') (fun _ _ _ _ e1 => by cases e1) (fun h0 t1 n1 cs1 e1 => ?_)
          · rcases hb with hb | hb
            · exact .inr ⟨fresh b hb, hN b (fresh b hb)⟩
            · dsimp only [plug] at hb
              rw [hcl] at hb
              exact .inl (fj b ((footL_same _ _ same b).1 hb))
          · cases e1
            refine ⟨te, hte', hp, ?_⟩
            simp only [plug]
            rw [hcl]
            refine ⟨ho', RowL.same _ _ same hl, hone, sepL_same _ _ same hsep, fun b k1 k2 => ?_, by simp⟩
            have := fresh b k1
            have := flt b ((footL_same _ _ same b).1 k2)
            omega
        refine ⟨_, _, _, w', v', h, hr, ha, ?_⟩
        simp only [Rl]
        rw [← hS.len]; simp
      · rename_i i
        simp only [Rl] at hx
        split at h
        · rename_i e' n xs hi
          replace h := must_some h
          obtain ⟨h2, h⟩ := h
          simp only [Bool.and_eq_true] at h2
          have ee := Nat.eq_of_beq_eq_true h2.1.1
          subst ee
          have b1 := Nat.le_of_ble_eq_true h2.1.2
          have b2 := Nat.le_of_ble_eq_true h2.2
          simp only [roomB] at b1 b2
          have hij : i ≠ j := fun e0 => by rw [setOb_get, if_pos e0, e0, hj] at hi; simp at hi
          rw [setOb_get, if_neg hij] at hi
          obtain ⟨ti, hti, _, hownx, hlx, honex, hsepx, hselfx, _⟩ := hS.nrow i [] e n xs xv hi hx
          rw [hte'] at hti; cases hti
          simp only [plug] at hlx hsepx hselfx
          generalize hvs : cellsOf w xv xs.length = vs at hownx hlx honex hsepx hselfx
          have fi : ∀ b, footL w xs vs b → foot w (.nrow [] e n xs) xv b := fun b hb => .inr (by dsimp only [plug]; rw [hvs]; exact hb)
          obtain ⟨v', w', hr, ho', hg, hbk⟩ := append_run (ty := ty) ht hte hp hownx hul (c := c) hat b1 b2
          have far : ∀ b, foot w (.nrow [] e n xs) xv b → ¬ foot w (.nrow [] e m ys) (.slice a m c) b := fun b k1 k2 => hij (hS.inj i j _ _ xv _ b hi hj rfl rfl hx hy k1 k2)
          obtain ⟨r1, r2, r3⟩ := row_append hlx hsepx hl hsep (fun b k1 k2 => far b (fi b k1) (fj b k2))
          have keep : ∀ b, b < w.heap.size → blockOf xv ≠ some b → w'.heap[b]? = w.heap[b]? := fun b hb hne => hg.block b hb (by rw [← blockOf_own hownx]; exact fun e => hne e.symm)
          have flt : ∀ b, footL w (xs ++ ys) (vs ++ us) b → b < w.heap.size := fun b hb => RowL.foot_lt _ _ r1 b hb
          have nblk : ∀ b, footL w (xs ++ ys) (vs ++ us) b → blockOf xv ≠ some b := fun b hb e0 => by
            rcases r3 b hb with hb | hb
            · exact hselfx b e0 hb
            · exact far b (.inl e0) (fj b hb)
          have same : ∀ b, footL w (xs ++ ys) (vs ++ us) b → w'.heap[b]? = w.heap[b]? := fun b hb => keep b (flt b hb) (nblk b hb)
          have hcl : cellsOf w' v' (xs ++ ys).length = vs ++ us := by rw [RowL.length r1]; exact cellsOf_own ho'
          have hlen : (setOb (setOb obs j Ob.gone) i Ob.gone).length = obs.length := by rw [setOb_length, setOb_length]
          have ha : After C N s0 n0 A obs w (A ++ [v']) (setOb (setOb obs j .gone) i .gone ++ [.nrow [] e (n + m) (xs ++ ys)]) w' := by
            refine hS.remake (fun q => q = i ∨ q = j) (fun q hq => ?_) (o2 := .nrow [] e (n + m) (xs ++ ys)) (v' := v') obs.length ?_ (fun q z hz => ?_) (fun q z hz => ?_) (fun q o z k1 k2 => ?_) rfl rfl hg.size (fun b hb hno => keep b hb fun e0 => hno i _ _ (.inl rfl) hi hx (.inl e0)) hg.os hg.tape hg.output (fun b hb => ?_) (fun _ _ _ _ e1 => by cases e1) (fun h0 t1 n1 cs1 e1 => ?_)
            · rcases hq with rfl | rfl
              · exact ⟨_, _, hi, hx, rfl, rfl⟩
              · exact ⟨_, _, hj, hy, rfl, rfl⟩
            · simp [hlen, hS.len]
            · rw [List.getElem?_append_left (List.getElem?_eq_some_iff.1 hz).1]; exact hz
            · by_cases hq : q < A.length
              · rw [List.getElem?_append_left hq] at hz; exact hS.one q z hz
              · rw [List.getElem?_append_right (by omega)] at hz
                have e0 : q - A.length = 0 := by
                  have := (List.getElem?_eq_some_iff.1 hz).1
                  simp at this; omega
                rw [e0] at hz; simp at hz; rw [← hz]; exact Place.of_own ho'
            · by_cases hq : q < obs.length
              · rw [List.getElem?_append_left (by rw [hlen]; exact hq), setOb_get, setOb_get] at k1
                rw [List.getElem?_append_left (by rw [hS.len]; exact hq)] at k2
                by_cases e1 : q = i
                · subst e1
                  rw [if_pos rfl, if_neg hij, hi] at k1
                  simp at k1; exact .inr (.inl k1.symm)
                · by_cases e2 : q = j
                  · subst e2
                    rw [if_neg e1, if_pos rfl, hj] at k1
                    simp at k1; exact .inr (.inl k1.symm)
                  · rw [if_neg e1, if_neg e2] at k1
                    exact .inl ⟨fun h => h.elim e1 e2, k1, k2⟩
              · rw [List.getElem?_append_right (by rw [hlen]; omega)] at k1
                rw [List.getElem?_append_right (by rw [hS.len]; omega)] at k2
                rw [hlen] at k1; rw [hS.len] at k2
                have e0 : q - obs.length = 0 := by
                  have := (List.getElem?_eq_some_iff.1 k1).1
                  simp at this; omega
                rw [e0] at k1 k2
                simp at k1 k2
                exact .inr (.inr ⟨by omega, k1.symm, k2.symm⟩)
            · rcases hb with hb | hb
              · rcases hbk b hb with h | h
                · exact .inl ⟨i, _, _, .inl rfl, hi, hx, .inl h⟩
                · exact .inr ⟨h, hN b h⟩
              · dsimp only [plug] at hb
                rw [hcl] at hb
                rcases r3 b ((footL_same _ _ same b).1 hb) with hb | hb
                · exact .inl ⟨i, _, _, .inl rfl, hi, hx, fi b hb⟩
                · exact .inl ⟨j, _, _, .inr rfl, hj, hy, fj b hb⟩
            · cases e1
              refine ⟨te, hte', hp, ?_⟩
              simp only [plug]
              rw [hcl]
              refine ⟨ho', RowL.same _ _ same r1, fun u hu => ?_, sepL_same _ _ same r2, fun b k1 k2 => ?_, by simp⟩
              · rcases List.mem_append.1 hu with hu | hu
                · exact honex u hu
                · exact hone u hu
              · have k2 := (footL_same _ _ same b).1 k2
                rcases hbk b k1 with h | h
                · exact nblk b k2 h
                · have := flt b k2; omega
          refine ⟨_, _, _, w', v', h, hr, ha, ?_⟩
          simp only [Rl]
          rw [← hS.len]; simp
        · cases h
      · cases h
    · cases h
  · cases h
theorem minI_sound {x y : V} {xv yv : Value} {ty : Nat} {ts : Array Nat} {K : V → Option α} (hx : Rl A (Ok N A obs w) w x xv) (hy : Rl A (Ok N A obs w) w y yv) (h : minI [x, y] K = some r) :
    ∃ v vv, K v = some r ∧ (∀ w2 : World, (Builtin.min_ ts ty #[xv, yv]).run P w2 = .ok vv w2) ∧ Rl A (Ok N A obs w) w v vv := by
  unfold minI at h
  split at h
  · rename_i a b heq
    injection heq with e1 e2; injection e2 with e2 e3; subst e1 e2
    simp only [Rl] at hx hy; subst hx hy
    exact ⟨_, _, h, fun w2 => by simp [Builtin.min_, Builtin.min2]; rfl, by simp only [Rl]⟩
  · cases h
theorem maxI_sound {x y : V} {xv yv : Value} {ty : Nat} {ts : Array Nat} {K : V → Option α} (hx : Rl A (Ok N A obs w) w x xv) (hy : Rl A (Ok N A obs w) w y yv) (h : maxI [x, y] K = some r) :
    ∃ v vv, K v = some r ∧ (∀ w2 : World, (Builtin.max_ ts ty #[xv, yv]).run P w2 = .ok vv w2) ∧ Rl A (Ok N A obs w) w v vv := by
  unfold maxI at h
  split at h
  · rename_i a b heq
    injection heq with e1 e2; injection e2 with e2 e3; subst e1 e2
    simp only [Rl] at hx hy; subst hx hy
    exact ⟨_, _, h, fun w2 => by simp [Builtin.max_, Builtin.max2]; rfl, by simp only [Rl]⟩
  · cases h
end
end Go.PI
