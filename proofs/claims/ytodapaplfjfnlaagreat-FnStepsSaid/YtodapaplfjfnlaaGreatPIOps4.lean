/-
  PI: each operation of the interpreter is what the machine's operation does: literals.
-/
import Derived.Test.YtodapaplfjfnlaaGreatPIOps3
import Derived.Great.FillDense
import Derived.Great.BuildSlice
import Derived.Laws.Tables
namespace Go.PI
open Go
set_option linter.unusedVariables false
set_option linter.unusedSimpArgs false
section
variable {P : Program} {C : Cfg} {N : Nat → Prop} {s0 n0 : Nat} {A : List Value} {obs : Obs} {w : World} {α : Type} {r : α}
def PartsR (A : List Value) (ok : Nat → Prop) (w : World) (place : Nat → Option (Nat × Nat)) : List (Nat × Value) → List (Nat × Nat × List V) → Prop
  | [], [] => True
  | (i, v) :: l, (off, size, xs) :: m => place i = some (off, size) ∧ RlL A ok w xs v.cells.toList ∧ (∀ y ∈ v.cells.toList, y.oneCell' = true) ∧ PartsR A ok w place l m
  | _, _ => False
theorem foldl_splice (off : Nat) (v : Array Value) (cells : Array Value) (h : off + v.size ≤ cells.size) :
    (v.zipIdx.foldl (fun cs (x : Value × Nat) => cs.setIfInBounds (off + x.2) x.1) cells).toList = cells.toList.take off ++ v.toList ++ cells.toList.drop (off + v.toList.length) := by
  obtain ⟨h1, h2⟩ := Go.Great.foldl_set off v.toList 0 cells
  have e : v.zipIdx.foldl (fun cs (x : Value × Nat) => cs.setIfInBounds (off + x.2) x.1) cells = (v.toList.zipIdx 0).foldl (fun cs (x : Value × Nat) => cs.setIfInBounds (off + x.2) x.1) cells := by
    rw [← Array.foldl_toList, Array.toList_zipIdx]
  rw [e]
  apply List.ext_getElem?
  intro i
  rw [Array.getElem?_toList, h2]
  simp only [Nat.add_zero, Array.length_toList, List.append_assoc]
  rw [List.getElem?_append, List.getElem?_append]
  simp only [List.length_take, Array.length_toList, List.getElem?_take, List.getElem?_drop, Array.getElem?_toList]
  by_cases c1 : i < off
  · rw [if_neg (by omega), if_pos (by omega), if_pos c1]
  · by_cases c2 : i < off + v.size
    · rw [if_pos (by omega), if_neg (by omega), if_pos (by omega)]
      congr 1
      omega
    · rw [if_neg (by omega), if_neg (by omega), if_neg (by omega)]
      congr 1
      omega
theorem fill_sound {ok : Nat → Prop} (place : Nat → Option (Nat × Nat)) : ∀ (parts : List (Nat × Value)) (ps : List (Nat × Nat × List V)) (cs out : List V) (cells : Array Value), PartsR A ok w place parts ps → RlL A ok w cs cells.toList →
    (∀ y ∈ cells.toList, y.oneCell' = true) → fillAt cs ps = some out → ∃ cells', Instr.fill place cells parts = some cells' ∧ RlL A ok w out cells'.toList ∧ (∀ y ∈ cells'.toList, y.oneCell' = true) ∧ cells'.size = cells.size
  | [], [], cs, out, cells, _, hl, h1, h => by
    simp only [fillAt, Option.some.injEq] at h
    subst h
    exact ⟨cells, rfl, hl, h1, rfl⟩
  | [], _ :: _, _, _, _, hp, _, _, _ => by simp [PartsR] at hp
  | _ :: _, [], _, _, _, hp, _, _, _ => by simp [PartsR] at hp
  | (i, v) :: parts, (off, size, xs) :: ps, cs, out, cells, hp, hl, h1, h => by
    simp only [PartsR] at hp
    obtain ⟨hpl, hx, hone, hrest⟩ := hp
    simp only [fillAt] at h
    cases hb : Nat.beq xs.length size && Nat.ble (off + xs.length) cs.length with
    | false => rw [hb] at h; cases h
    | true =>
      rw [hb] at h; simp only [cond_true] at h
      simp only [Bool.and_eq_true] at hb
      have e1 := Nat.eq_of_beq_eq_true hb.1
      have e2 := Nat.le_of_ble_eq_true hb.2
      have hxl := hx.length
      have hcl := hl.length
      simp only [Array.length_toList] at hxl hcl
      have hs := foldl_splice off v.cells cells (by omega)
      obtain ⟨cells', q1, q2, q3, q4⟩ := fill_sound place parts ps (splice cs off xs) out (v.cells.zipIdx.foldl (fun cs (x : Value × Nat) => cs.setIfInBounds (off + x.2) x.1) cells) hrest (by rw [hs]; exact hl.splice off hx) (fun y hy => by
          rw [hs] at hy
          simp only [List.mem_append, List.append_assoc] at hy
          rcases hy with hy | hy | hy
          · exact h1 y (List.mem_of_mem_take hy)
          · exact hone y hy
          · exact h1 y (List.mem_of_mem_drop hy)) h
      refine ⟨cells', ?_, q2, q3, ?_⟩
      · unfold Instr.fill
        simp only [hpl]
        rw [if_neg (by simp; omega)]
        exact q1
      · rw [q4]
        have := congrArg List.length hs
        simp only [Array.length_toList, List.length_append, List.length_take, List.length_drop] at this
        omega
def PsR (A : List Value) (ok : Nat → Prop) (w : World) : List (Nat × V) → List (Nat × Value) → Prop
  | [], [] => True
  | (i, x) :: l, (j, v) :: m => i = j ∧ Rl A ok w x v ∧ PsR A ok w l m
  | _, _ => False
theorem unprj_sound {x : V} {v : Value} {K : V → Option α} {ok : Nat → Prop} (hx : Rl A ok w x v) (h : unprj x K = some r) : ∃ y, K y = some r ∧ Rl A ok w y v ∧ (∀ cs o, y ≠ .prj cs o) := by
  unfold unprj at h
  split at h
  · replace h := asSl_some h
    obtain ⟨n, c, e, h⟩ := h
    simp only [Rl] at hx
    obtain ⟨y, hy, hr⟩ := hx.get
    rw [e] at hy; cases hy
    exact ⟨_, h, hr, by simp⟩
  · rename_i hne
    exact ⟨_, h, hx, fun cs o e => hne cs o e⟩
theorem unprjs_sound {ok : Nat → Prop} : ∀ (ps : List (Nat × V)) (vs : List (Nat × Value)) {K : List (Nat × V) → Option α}, PsR A ok w ps vs → unprjs ps K = some r → ∃ qs, K qs = some r ∧ PsR A ok w qs vs
  | [], [], K, _, h => ⟨[], by simpa [unprjs] using h, by simp [PsR]⟩
  | [], _ :: _, _, h, _ => by simp [PsR] at h
  | _ :: _, [], _, h, _ => by simp [PsR] at h
  | (i, x) :: ps, (j, v) :: vs, K, hp, h => by
    simp only [PsR] at hp
    simp only [unprjs] at h
    obtain ⟨y, h, hy, _⟩ := unprj_sound hp.2.1 h
    obtain ⟨qs, h, hq⟩ := unprjs_sound ps vs hp.2.2 h
    exact ⟨_, h, by simp only [PsR]; exact ⟨hp.1, hy, hq⟩⟩
theorem cells_sound (hS : St C N s0 n0 A obs w) {x : V} {v : Value} {ok : Nat → Prop} (hx : Rl A ok w x v) (hs : (∃ cs, x = .agg cs) ∨ x.solid = true) : RlL A ok w x.cells v.cells.toList ∧ ∀ y ∈ v.cells.toList, y.oneCell' = true := by
  rcases hs with ⟨cs, rfl⟩ | hs
  · simp only [Rl] at hx
    obtain ⟨a, rfl, hl, h1⟩ := hx
    exact ⟨hl, h1⟩
  · obtain ⟨o1, c1⟩ := oneCell_of_solid hS hx hs
    rw [c1]
    refine ⟨?_, by simpa using o1⟩
    have : x.cells = [x] := by cases x <;> simp_all [V.cells, V.solid]
    rw [this]
    simp only [RlL]
    exact ⟨hx, trivial⟩
theorem allSolid_split {i : Nat} {x : V} {l : List (Nat × V)} (h : allSolid ((i, x) :: l) = true) : ((∃ cs, x = .agg cs) ∨ x.solid = true) ∧ allSolid l = true := by
  unfold allSolid at h
  split at h
  · rename_i heq; cases heq
  · rename_i heq; cases heq; exact ⟨.inl ⟨_, rfl⟩, h⟩
  · rename_i heq; cases heq
    simp only [Bool.and_eq_true] at h
    exact ⟨.inr h.1, h.2⟩
theorem placesE_sound (hS : St C N s0 n0 A obs w) {ok : Nat → Prop} (size : Nat) : ∀ (ps : List (Nat × V)) (vs : List (Nat × Value)), PsR A ok w ps vs → allSolid ps = true → PartsR A ok w (fun i => some (i * size, size)) vs (placesE size ps)
  | [], [], _, _ => by simp [placesE, PartsR]
  | [], _ :: _, h, _ => by simp [PsR] at h
  | _ :: _, [], h, _ => by simp [PsR] at h
  | (i, x) :: ps, (j, v) :: vs, hp, hs => by
    simp only [PsR] at hp
    obtain ⟨hx, hs⟩ := allSolid_split hs
    obtain ⟨h1, h2⟩ := cells_sound hS hp.2.1 hx
    simp only [placesE, PartsR]
    exact ⟨by rw [hp.1], h1, h2, placesE_sound hS size ps vs hp.2.2 hs⟩
theorem places_sound (hC : CfgOk P C) (hS : St C N s0 n0 A obs w) {ok : Nat → Prop} (fields : List Field) (pl : List (Nat × Nat)) (hpl : fields.mapM (fun f => (P.info? f.type).map fun i => (f.offset, i.size)) = some pl) :
    ∀ (ps : List (Nat × V)) (vs : List (Nat × Value)) (qs : List (Nat × Nat × List V)), PsR A ok w ps vs → allSolid ps = true → places C (fields.map fun f => (f.offset, f.type)) ps = some qs → PartsR A ok w (fun i => pl[i]?) vs qs
  | [], [], qs, _, _, h => by simp [places] at h; subst h; simp [PartsR]
  | [], _ :: _, _, h, _, _ => by simp [PsR] at h
  | _ :: _, [], _, h, _, _ => by simp [PsR] at h
  | (i, x) :: ps, (j, v) :: vs, qs, hp, hs, h => by
    simp only [PsR] at hp
    obtain ⟨hx, hs⟩ := allSolid_split hs
    obtain ⟨h1, h2⟩ := cells_sound hS hp.2.1 hx
    simp only [places] at h
    cases hf : (fields.map fun f => (f.offset, f.type))[i]? with
    | none => rw [hf] at h; cases h
    | some ot =>
      obtain ⟨off, t⟩ := ot
      rw [hf] at h; dsimp only at h
      cases ht : C.ty t with
      | none => rw [ht] at h; cases h
      | some ti =>
        rw [ht] at h; dsimp only at h
        cases hr : places C (fields.map fun f => (f.offset, f.type)) ps with
        | none => rw [hr] at h; cases h
        | some l =>
          rw [hr] at h
          simp only [Option.some.injEq] at h
          subst h
          simp only [PartsR]
          refine ⟨?_, h1, h2, places_sound hC hS fields pl hpl ps vs l hp.2.2 hs hr⟩
          rw [← hp.1]
          obtain ⟨it, _, _, hi, hsz, _⟩ := (hC.ty t ti ht).info
          rw [List.getElem?_map] at hf
          cases hfi : fields[i]? with
          | none => rw [hfi] at hf; simp at hf
          | some f =>
            rw [hfi] at hf; simp at hf
            obtain ⟨rfl, rfl⟩ := hf
            have key : ∀ (fs : List Field) (pl : List (Nat × Nat)) (i : Nat) (f : Field), fs.mapM (fun f => (P.info? f.type).map fun i => (f.offset, i.size)) = some pl → fs[i]? = some f → pl[i]? = (P.info? f.type).map fun i => (f.offset, i.size) := by
              intro fs
              induction fs with
              | nil => intro pl i f _ h; simp at h
              | cons f0 fs ih =>
                intro pl i f h hi
                simp only [List.mapM_cons, Option.bind_eq_bind, Option.pure_def] at h
                cases h0 : (P.info? f0.type).map fun i => (f0.offset, i.size) with
                | none => rw [h0] at h; simp at h
                | some p0 =>
                  cases hr : fs.mapM (fun f => (P.info? f.type).map fun i => (f.offset, i.size)) with
                  | none => rw [h0, hr] at h; simp at h
                  | some rest =>
                    rw [h0, hr] at h
                    simp at h; subst h
                    cases i with
                    | zero => simp at hi; subst hi; simp [h0]
                    | succ i => simpa using ih rest i f hr (by simpa using hi)
            rw [key fields pl i f hpl hfi, hi]
            simp [hsz]
theorem build_sound (hC : CfgOk P C) {t : Nat} {ps : List (Nat × V)} {vs : Array (Nat × Value)} {K : V → Option α} (hS : St C N s0 n0 A obs w) (hp : PsR A (Ok N A obs w) w ps vs.toList) (h : build C t ps K = some r) :
    ∃ v vv, K v = some r ∧ (∀ w2 : World, (Instr.build t vs).run P w2 = .ok vv w2) ∧ Rl A (Ok N A obs w) w v vv := by
  unfold build at h
  obtain ⟨qs, h, hq⟩ := unprjs_sound ps vs.toList hp h
  replace h := must_some h
  obtain ⟨hsol, h⟩ := h
  replace h := need_some h
  obtain ⟨ti, hti, h⟩ := h
  have ht := hC.ty t ti hti
  obtain ⟨i, z, d, hi, hs, hby, hz, hzl, hu, hagg, hd, hone, hlv, hz1, hzlen⟩ := ht.info
  split at h
  · rename_i fs hty
    obtain ⟨fields, hu', e, hsome⟩ := ht.under_struct hty
    replace h := need_some h
    obtain ⟨l, hl, h⟩ := h
    replace h := need_some h
    obtain ⟨cs, hcs, h⟩ := h
    rw [e] at hl
    cases hpl : fields.toList.mapM (fun f => (P.info? f.type).map fun i => (f.offset, i.size)) with
    | none =>
      have key : ∀ (fs : List Field), (∀ f ∈ fs, (P.info? f.type).isSome = true) → (fs.mapM (fun f => (P.info? f.type).map fun i => (f.offset, i.size))) ≠ none := by
        intro fs
        induction fs with
        | nil => intro _; simp
        | cons f fs ih =>
          intro h
          have h1 := h f (by simp)
          have h2 := ih (fun g hg => h g (by simp [hg]))
          cases hi : P.info? f.type with
          | none => rw [hi] at h1; simp at h1
          | some i =>
            cases hr : fs.mapM (fun f => (P.info? f.type).map fun i => (f.offset, i.size)) with
            | none => exact absurd hr h2
            | some l => simp [List.mapM_cons, hi, hr]
      exact absurd hpl (key _ hsome)
    | some pl =>
      have hpr := places_sound hC hS fields.toList pl hpl qs vs.toList l hq hsol hl
      obtain ⟨cells', q1, q2, q3, q4⟩ := fill_sound (fun i => pl[i]?) vs.toList l (ofConsts ti.zero) cs z.cells hpr (by rw [hzl]; exact ofConsts_rl _) (by rw [hzl]; exact hone) hcs
      have hbuilt : P.built t vs.toList = some cells' := by
        unfold Program.built
        simp only [hi, hu', hz, hpl]
        simpa using q1
      exact ⟨_, _, h, fun w2 => run_build w2 t vs cells' hbuilt, by simp only [Rl]; exact ⟨cells', rfl, q2, q3⟩⟩
  · rename_i n e hty
    have hu' := ht.under_arr hty
    replace h := need_some h
    obtain ⟨te, hte, h⟩ := h
    replace h := need_some h
    obtain ⟨cs, hcs, h⟩ := h
    obtain ⟨ie, _, _, hie, hse, _⟩ := (hC.ty e te hte).info
    have hpr := placesE_sound hS te.size qs vs.toList hq hsol
    obtain ⟨cells', q1, q2, q3, q4⟩ := fill_sound (fun i => some (i * te.size, te.size)) vs.toList _ (ofConsts ti.zero) cs z.cells hpr (by rw [hzl]; exact ofConsts_rl _) (by rw [hzl]; exact hone) hcs
    have hbuilt : P.built t vs.toList = some cells' := by
      unfold Program.built
      simp only [hi, hu', hz, hie, hse]
      exact q1
    exact ⟨_, _, h, fun w2 => run_build w2 t vs cells' hbuilt, by simp only [Rl]; exact ⟨cells', rfl, q2, q3⟩⟩
  · cases h
theorem intoParts_sound : ∀ (ps : List (Nat × V)) (vs : List (Nat × Value)) {obs : Obs} {K : List (Nat × V) → Obs → Option α}, St C N s0 n0 A obs w → PsR A (Ok N A obs w) w ps vs → intoParts obs ps K = some r →
    ∃ qs obs', K qs obs' = some r ∧ After C N s0 n0 A obs w A obs' w ∧ (∀ size, PartsR [] (Ok N A obs' w) w (fun i => some (i * size, size)) vs (placesE size qs))
  | [], [], obs, K, hS, _, h => ⟨[], obs, by simpa [intoParts] using h, After.refl hS, fun _ => by simp [placesE, PartsR]⟩
  | [], _ :: _, _, _, _, h, _ => by simp [PsR] at h
  | _ :: _, [], _, _, _, h, _ => by simp [PsR] at h
  | (i, x) :: ps, (j, v) :: vs, obs, K, hS, hp, h => by
    simp only [PsR] at hp
    simp only [intoParts] at h
    have cl : ∃ us : List Value, RlL A (Ok N A obs w) w x.cells us ∧ ((∀ u ∈ us, u.cells = #[u]) → v.cells.toList = us) := by
      have hx := hp.2.1
      cases x with
      | agg xs =>
        simp only [Rl] at hx
        obtain ⟨a, rfl, hl, ho1⟩ := hx
        exact ⟨a.toList, hl, fun _ => rfl⟩
      | _ => exact ⟨[v], by simp only [V.cells, RlL]; exact ⟨hx, trivial⟩, fun h => by rw [h v (by simp)]⟩
    obtain ⟨us, hus, hcl⟩ := cl
    obtain ⟨ys, obs1, h1, a1, r1, o1, c1⟩ := intoRows_sound hS hus h
    have hcl := hcl c1
    have hrest : PsR A (Ok N A obs1 w) w ps vs := by
      have : ∀ (ps : List (Nat × V)) (vs : List (Nat × Value)), PsR A (Ok N A obs w) w ps vs → PsR A (Ok N A obs1 w) w ps vs := by
        intro ps
        induction ps with
        | nil => intro vs h; cases vs <;> first | (simp [PsR]; done) | (simp [PsR] at h)
        | cons p ps ih =>
          intro vs h
          obtain ⟨k, y⟩ := p
          cases vs with
          | nil => simp [PsR] at h
          | cons q vs => obtain ⟨k', u⟩ := q; simp only [PsR] at h ⊢; exact ⟨h.1, Rl.mono a1.mono y h.2.1, ih vs h.2.2⟩
      exact this ps vs hp.2.2
    obtain ⟨qs, obs2, h2, a2, p2⟩ := intoParts_sound ps vs a1.st hrest h1
    refine ⟨_, obs2, h2, a1.trans a2, fun size => ?_⟩
    simp only [placesE, PartsR, V.cells]
    exact ⟨by rw [hp.1], by rw [hcl]; exact RlL.mono a2.mono.nil ys r1, by rw [hcl]; exact o1, p2 size⟩
theorem buildSlice_sound (hC : CfgOk P C) (hn0 : n0 ≤ obs.length) (hN : ∀ b, w.heap.size ≤ b → ¬ N b) {t len : Nat} {ps : List (Nat × V)} {vs : Array (Nat × Value)} {K : V → Obs → Option α} (hS : St C N s0 n0 A obs w) (hp : PsR A (Ok N A obs w) w ps vs.toList) (h : buildSlice C obs t len ps K = some r) :
    ∃ v obs' A' w' vv, K v obs' = some r ∧ (Instr.buildSlice t len vs).run P w = .ok vv w' ∧ After C N s0 n0 A obs w A' obs' w' ∧ Rl A' (Ok N A' obs' w') w' v vv := by
  unfold buildSlice at h
  replace h := elemOf_some hC h
  obtain ⟨e, te, ht, hte', hte, hpos, h⟩ := h
  obtain ⟨i, z, d, hi, hs, hby, hz, hzl, hu, hagg, hd, hone, hlv, hz1, hzlen⟩ := hte.info
  have hzs : z.cells.size = te.size := by rw [← Array.length_toList, hzl]; exact hzlen
  obtain ⟨qs, obs1, h, a1, p1⟩ := intoParts_sound ps vs.toList hS hp h
  replace h := must_some h
  obtain ⟨hsm, h⟩ := h
  replace h := need_some h
  obtain ⟨cs, hcs, h⟩ := h
  have hsm := Nat.le_of_ble_eq_true hsm
  have hlen1 : n0 ≤ obs1.length := by rw [← a1.st.len, hS.len]; exact hn0
  have hcur : ((Array.range (len * te.size)).map (z.cells[· % z.cells.size]!)).toList = (List.replicate len te.zero).flatten := by
    have := madeCells_eq z.cells te.size hzs hpos len
    rw [hzl] at this
    exact this
  obtain ⟨cells', q1, q2, q3, q4⟩ := fill_sound (fun i => some (i * te.size, te.size)) vs.toList _ (reps len (ofConsts te.zero)) cs ((Array.range (len * te.size)).map (z.cells[· % z.cells.size]!)) (p1 te.size)
    (by rw [hcur]; exact reps_rl (ofConsts_rl te.zero) len) (fun u hu => by
      rw [hcur] at hu
      obtain ⟨l, hl1, hl2⟩ := List.mem_flatten.1 hu
      rw [(List.mem_replicate.1 hl1).2] at hl2
      exact hone u hl2) hcs
  have hsz : cells'.size = len * te.size := by rw [q4]; simp
  have hr : (Instr.buildSlice t len vs).run P w = .ok (.slice (some ⟨w.heap.size, 0, none⟩) len len) (w.alloc (.cells cells' e)) := by
    by_cases h0 : len * i.size = 0
    · have hl0 : len = 0 := by
        rcases Nat.mul_eq_zero.1 h0 with h | h
        · exact h
        · omega
      subst hl0
      have hse := hte.size_ne (w := w)
      have hf : Instr.fill (fun i => some (i * te.size, te.size)) #[] vs.toList = some cells' := by
        have e0 : (Array.range (0 * te.size)).map (z.cells[· % z.cells.size]!) = #[] := by simp
        rw [e0] at q1
        exact q1
      have hf' : Instr.fill (fun i => some (i * te.size, te.size)) (Array.map (fun _ => (default : Value)) (Array.range 0)) vs.toList = some cells' := by
        have e0 : Array.map (fun _ => (default : Value)) (Array.range 0) = #[] := by simp
        rw [e0]; exact hf
      simp [Instr.buildSlice, run_underlying ht, hse, hf', newRow, newObj, Sem.run]
    · exact run_buildSlice w t e len vs cells' i z ht hi hz (by rw [hs]; omega) h0 (by rw [hs]; exact q1)
  have hpl := a1.st.push hlen1 (.row e len (nzs te.leaves cs) false) (.slice (some ⟨w.heap.size, 0, none⟩) len len) (w.alloc (.cells cells' e)) (by simp) (fun b hb => heap_alloc_old w _ b hb) rfl rfl rfl (fun b hb => by simp [blockOf] at hb; exact ⟨by omega, hN b (by omega)⟩) (.inl ⟨_, _, _, rfl⟩)
    (fun t1 cs1 sh1 e1 => by cases e1)
    (fun t1 n1 cs1 sh1 e1 => by
      cases e1
      refine ⟨te, cells'.toList, hte', hpos, ⟨by simp [hsz], .inr ⟨w.heap.size, len, cells', rfl, Nat.zero_le _, heap_alloc_new w _, Nat.le_refl _, ?_, hsz, ?_⟩⟩, nzs_rl te.leaves q2, q3⟩
      · simp only [maxLen]
        have : len ≤ len * te.size := Nat.le_mul_of_pos_right _ hpos
        omega
      · rw [← hsz, ← Array.length_toList, List.take_length])
  refine ⟨_, _, _, _, _, h, hr, a1.trans hpl, ?_⟩
  simp only [Rl]
  rw [← a1.st.len]; simp
theorem buildSliceN_sound (hC : CfgOk P C) (hn0 : n0 ≤ obs.length) (hN : ∀ b, w.heap.size ≤ b → ¬ N b) {t len : Nat} {ps : List (Nat × V)} {vs : Array (Nat × Value)} {K : V → Obs → Option α} (hS : St C N s0 n0 A obs w) (hp : PsR A (Ok N A obs w) w ps vs.toList) (h : buildSliceN C obs t len ps K = some r) :
    ∃ v obs' A' w' vv, K v obs' = some r ∧ (Instr.buildSlice t len vs).run P w = .ok vv w' ∧ After C N s0 n0 A obs w A' obs' w' ∧ Rl A' (Ok N A' obs' w') w' v vv := by
  unfold buildSliceN at h
  replace h := elemOf_some hC h
  obtain ⟨e, te, ht, hte', hte, hpos, h⟩ := h
  obtain ⟨i, z, d, hi, hs, hby, hz, hzl, hu, hagg, hd, hone, hlv, hz1, hzlen⟩ := hte.info
  have hzs : z.cells.size = te.size := by rw [← Array.length_toList, hzl]; exact hzlen
  have fin : ∀ (cells' : Array Value) (xs : List V) (obs1 : Obs) (D : List Nat), cells'.size = len * te.size → len * te.size ≤ 4096 → (Instr.buildSlice t len vs).run P w = .ok (.slice (some ⟨w.heap.size, 0, none⟩) len len) (w.alloc (.cells cells' e)) →
      Owned A w obs obs1 xs cells'.toList D → (∀ y ∈ cells'.toList, y.oneCell' = true) → K (.ref obs1.length) (obs1 ++ [.nrow [] e len xs]) = some r →
      ∃ v obs' A' w' vv, K v obs' = some r ∧ (Instr.buildSlice t len vs).run P w = .ok vv w' ∧ After C N s0 n0 A obs w A' obs' w' ∧ Rl A' (Ok N A' obs' w') w' v vv := by
    intro cells' xs obs1 D hsz hsm hr q hone' hk
    have hown : (w.alloc (.cells cells' e)).ownsRow 0 e te.size (.slice (some ⟨w.heap.size, 0, none⟩) len len) len cells'.toList := by
      refine ⟨by simp [hsz], .inr ⟨w.heap.size, len, cells', rfl, Nat.zero_le _, heap_alloc_new w _, Nat.le_refl _, ?_, hsz, ?_⟩⟩
      · simp only [maxLen]
        have : len ≤ len * te.size := Nat.le_mul_of_pos_right _ hpos
        omega
      · rw [← hsz, ← Array.length_toList, List.take_length]
    have hcl : cellsOf (w.alloc (.cells cells' e)) (.slice (some ⟨w.heap.size, 0, none⟩) len len) xs.length = cells'.toList := by rw [RowL.length q.row]; exact cellsOf_own hown
    have keep : ∀ b, b < w.heap.size → (w.alloc (.cells cells' e)).heap[b]? = w.heap[b]? := fun b hb => heap_alloc_old w _ b hb
    have flt : ∀ b, footL w xs cells'.toList b → b < w.heap.size := fun b hb => RowL.foot_lt _ _ q.row b hb
    have same : ∀ b, footL w xs cells'.toList b → (w.alloc (.cells cells' e)).heap[b]? = w.heap[b]? := fun b hb => keep b (flt b hb)
    have ha : After C N s0 n0 A obs w (A ++ [.slice (some ⟨w.heap.size, 0, none⟩) len len]) (obs1 ++ [.nrow [] e len xs]) (w.alloc (.cells cells' e)) := by
      refine hS.remake (fun j => j ∈ D) (fun j hj => q.objs j hj) (o2 := .nrow [] e len xs) (v' := .slice (some ⟨w.heap.size, 0, none⟩) len len) obs.length ?_ (fun j y hy => ?_) (fun j y hy => ?_) (fun j o y k1 k2 => ?_) rfl rfl (by simp) (fun b hb _ => keep b hb) rfl rfl rfl (fun b hb => ?_) (fun _ _ _ _ e1 => by cases e1) (fun h0 t1 n1 cs1 e1 => ?_)
      · simp [q.len, hS.len]
      · rw [List.getElem?_append_left (List.getElem?_eq_some_iff.1 hy).1]; exact hy
      · by_cases hj : j < A.length
        · rw [List.getElem?_append_left hj] at hy; exact hS.one j y hy
        · rw [List.getElem?_append_right (by omega)] at hy
          have e0 : j - A.length = 0 := by
            have := (List.getElem?_eq_some_iff.1 hy).1
            simp at this; omega
          rw [e0] at hy; simp at hy; rw [← hy]; exact .inl ⟨_, _, _, rfl⟩
      · by_cases hj : j < obs.length
        · rw [List.getElem?_append_left (by rw [q.len]; exact hj), q.get j] at k1
          rw [List.getElem?_append_left (by rw [hS.len]; exact hj)] at k2
          split at k1
          · cases k1; exact .inr (.inl rfl)
          · rename_i hd; exact .inl ⟨hd, k1, k2⟩
        · rw [List.getElem?_append_right (by rw [q.len]; omega)] at k1
          rw [List.getElem?_append_right (by rw [hS.len]; omega)] at k2
          rw [q.len] at k1; rw [hS.len] at k2
          have e0 : j - obs.length = 0 := by
            have := (List.getElem?_eq_some_iff.1 k1).1
            simp at this; omega
          rw [e0] at k1 k2
          simp at k1 k2
          exact .inr (.inr ⟨by omega, k1.symm, k2.symm⟩)
      · rcases hb with hb | hb
        · simp [blockOf] at hb; exact .inr ⟨by omega, hN b (by omega)⟩
        · dsimp only [plug] at hb
          rw [hcl] at hb
          obtain ⟨d, hd, o, u, a, b', c⟩ := q.feet b ((footL_same _ _ same b).1 hb)
          exact .inl ⟨d, o, u, hd, a, b', c⟩
      · cases e1
        refine ⟨te, hte', hpos, ?_⟩
        simp only [plug]
        rw [hcl]
        refine ⟨hown, RowL.same _ _ same q.row, hone', sepL_same _ _ same q.sep, fun b k1 k2 => ?_, by simp⟩
        have := flt b ((footL_same _ _ same b).1 k2)
        simp [blockOf] at k1; omega
    refine ⟨_, _, _, _, _, hk, hr, ha, ?_⟩
    simp only [Rl]
    rw [q.len, ← hS.len]; simp
  split at h
  ·
    replace h := must_some h
    obtain ⟨h1, h⟩ := h
    have h0 := Nat.eq_of_beq_eq_true h1
    subst h0
    have hv0 : vs.toList = [] := by
      cases hvs : vs.toList with
      | nil => rfl
      | cons q l => rw [hvs] at hp; simp [PsR] at hp
    have hr : (Instr.buildSlice t 0 vs).run P w = .ok (.slice (some ⟨w.heap.size, 0, none⟩) 0 0) (w.alloc (.cells #[] e)) := by
      have hse := hte.size_ne (w := w)
      have hf' : Instr.fill (fun i => some (i * te.size, te.size)) (Array.map (fun _ => (default : Value)) (Array.range 0)) vs.toList = some #[] := by
        rw [hv0]; simp [Instr.fill]
      simp [Instr.buildSlice, run_underlying ht, hse, hf', newRow, newObj, Sem.run]
    exact fin #[] [] obs [] (by simp) (by simp) hr ⟨by simp [RowL], by simp [sepL], by simp [footL], by simp, by simp, rfl⟩ (by simp) h
  · rename_i j x
    replace h := must_some h
    obtain ⟨h1, h⟩ := h
    simp only [Bool.and_eq_true] at h1
    have ej := Nat.eq_of_beq_eq_true h1.1
    have el := Nat.eq_of_beq_eq_true h1.2
    subst ej; subst el
    obtain ⟨v, hvs, hx⟩ : ∃ v, vs.toList = [(0, v)] ∧ Rl A (Ok N A obs w) w x v := by
      cases hvs : vs.toList with
      | nil => rw [hvs] at hp; simp [PsR] at hp
      | cons q l =>
        obtain ⟨k, v⟩ := q
        rw [hvs] at hp
        simp only [PsR] at hp
        obtain ⟨rfl, h2, h3⟩ := hp
        cases l with
        | nil => exact ⟨v, rfl, h2⟩
        | cons => simp [PsR] at h3
    have cl : ∃ us : List Value, RlL A (Ok N A obs w) w x.cells us ∧ ((∀ u ∈ us, u.cells = #[u]) → v.cells.toList = us) := by
      cases x with
      | agg xs =>
        simp only [Rl] at hx
        obtain ⟨a, rfl, hl, ho1⟩ := hx
        exact ⟨a.toList, hl, fun _ => rfl⟩
      | _ => exact ⟨[v], by simp only [V.cells, RlL]; exact ⟨hx, trivial⟩, fun h => by rw [h v (by simp)]⟩
    obtain ⟨us, hus, hcl⟩ := cl
    obtain ⟨ys, obs1, D, h, q, o1, c1⟩ := ownIn_sound hS (obsK := obs) (fun _ _ h _ => h) hus h
    have hcl := hcl c1
    replace h := must_some h
    obtain ⟨h2, h⟩ := h
    simp only [Bool.and_eq_true] at h2
    have hsz := Nat.eq_of_beq_eq_true h2.1
    have hsm := Nat.le_of_ble_eq_true h2.2
    have hvl : v.cells.size = te.size := by
      have h3 : v.cells.size = us.length := by rw [← hcl, Array.length_toList]
      have h4 := RowL.length q.row
      omega
    have hcur : ((Array.range (1 * te.size)).map (z.cells[· % z.cells.size]!)).size = te.size := by simp
    have hs2 := foldl_splice 0 v.cells ((Array.range (1 * te.size)).map (z.cells[· % z.cells.size]!)) (by rw [hcur]; omega)
    have hout : (v.cells.zipIdx.foldl (fun cs (x : Value × Nat) => cs.setIfInBounds (0 * te.size + x.2) x.1) ((Array.range (1 * te.size)).map (z.cells[· % z.cells.size]!))) = v.cells := by
      rw [Nat.zero_mul]
      apply Array.toList_inj.1
      rw [hs2]
      simp only [List.take_zero, List.nil_append, Nat.zero_add]
      rw [List.drop_eq_nil_of_le (by simp [hvl]), List.append_nil]
    have hr : (Instr.buildSlice t 1 vs).run P w = .ok (.slice (some ⟨w.heap.size, 0, none⟩) 1 1) (w.alloc (.cells v.cells e)) := by
      refine run_buildSlice w t e 1 vs v.cells i z ht hi hz (by rw [hs]; omega) (by rw [hs]; omega) ?_
      rw [hs, hvs]
      unfold Instr.fill
      simp only []
      rw [if_neg (by simp [hvl])]
      rw [hout]
      rfl
    exact fin v.cells ys obs1 D (by rw [hvl]; omega) (by omega) hr (by rw [hcl]; exact q) (by rw [hcl]; exact o1) h
  · cases h
end
end Go.PI
