/-
  PI: from a reading of the arguments to abstract values; from the interpreter's word to the call.
-/
import Derived.Test.YtodapaplfjfnlaaGreatPIRun
import Derived.ProofKit
namespace Go.PI
open Go
set_option linter.unusedVariables false
set_option linter.unusedSimpArgs false
def catV (F : Nat → List V → Prop) : List Nat → List V → Prop
  | [], xs => xs = []
  | t :: ts, xs => ∃ a b, xs = a ++ b ∧ F t a ∧ catV F ts b
def TyV (C : Cfg) : Nat → Nat → List V → Prop
  | 0, _, _ => False
  | d + 1, t, xs => match C.ty t with
    | none => False
    | some ti => match ti.ty with
      | .int k => ∃ i, xs = [.int k i] ∧ k.min ≤ i ∧ i ≤ k.max
      | .bool => ∃ b, xs = [.bool b]
      | .str => ∃ s : ByteArray, xs = [.str s] ∧ s.size ≤ Go.maxLen
      | .slice e => ∃ rows : List (List V), xs = [.sl rows.length rows.flatten] ∧ rows.length ≤ Go.maxLen ∧ ∀ r ∈ rows, TyV C d e r
      | .struct fs => catV (TyV C d) (fs.map (·.2)) xs
      | .arr n e => ∃ rows : List (List V), xs = rows.flatten ∧ rows.length = n ∧ ∀ r ∈ rows, TyV C d e r
      | _ => False
def sizeC (C : Cfg) (t : Nat) : Nat := match C.ty t with | some ti => ti.size | none => 0
def tilesC (C : Cfg) : List (Nat × Nat) → Nat → Nat → Bool
  | [], off, n => Nat.beq off n
  | (o, t) :: r, off, n => Nat.beq o off && tilesC C r (off + sizeC C t) n
def okD (C : Cfg) : Nat → Nat → Bool
  | 0, _ => false
  | d + 1, t => match C.ty t with
    | none => false
    | some ti => match ti.ty with
      | .int _ => true
      | .bool => true
      | .str => true
      | .slice e => okD C d e && Nat.ble 1 (sizeC C e)
      | .struct fs => tilesC C fs 0 ti.size && fs.all fun f => okD C d f.2
      | .arr n e => okD C d e && Nat.beq (n * sizeC C e) ti.size && Nat.ble 1 (sizeC C e)
      | _ => false
def TyA (C : Cfg) (d t : Nat) (x : V) : Prop := ∃ xs, TyV C d t xs ∧ match C.ty t with
  | some ti => (ti.agg = true ∧ x = .agg xs) ∨ (ti.agg = false ∧ xs = [x])
  | none => False
def TyAs (C : Cfg) (d : Nat) : List Nat → List V → Prop
  | [], xs => xs = []
  | t :: ts, xs => ∃ x r, xs = x :: r ∧ TyA C d t x ∧ TyAs C d ts r
section
variable {P : Program} {C : Cfg} {H : Type} {enc : TypeId × Value → H} {w : World}
theorem cellsOf_ty {t : Nat} {ti : TI} (ht : TyOk P t ti) : P.cellsOf t = ti.size := by
  obtain ⟨i, z, d, hi, hs, _⟩ := ht.info
  simp [Program.cellsOf, hi, hs]
theorem cellsOf_sizeC (hC : CfgOk P C) {t : Nat} {ti : TI} (h : C.ty t = some ti) : P.cellsOf t = sizeC C t := by
  rw [cellsOf_ty (hC.ty t ti h)]; simp [sizeC, h]
abbrev okW (w : World) : Nat → Prop := fun b => b < w.heap.size
theorem mapM_list {α β : Type} {f : α → Option β} : ∀ {l : List α} {r : List β}, l.mapM f = some r → r.length = l.length ∧ ∀ (i : Nat) (x : α), l[i]? = some x → ∃ y, f x = some y ∧ r[i]? = some y
  | [], r, h => by simp at h; subst h; simp
  | x :: l, r, h => by
    simp only [List.mapM_cons, Option.bind_eq_bind, Option.pure_def] at h
    cases hx : f x with
    | none => rw [hx] at h; simp at h
    | some y =>
      cases hl : l.mapM f with
      | none => rw [hx, hl] at h; simp at h
      | some ys =>
        rw [hx, hl] at h; simp at h; subst h
        obtain ⟨h1, h2⟩ := mapM_list hl
        refine ⟨by simp [h1], fun i z hz => ?_⟩
        cases i with
        | zero => simp at hz; subst hz; exact ⟨y, hx, rfl⟩
        | succ i => simpa using h2 i z (by simpa using hz)
theorem cells?_some {base : Nat} {a : Addr} {n : Nat} {cs : List Value} (h : w.cells? base a n = some cs) : cs.length = n ∧ ∀ i v, cs[i]? = some v → w.cell? (a.add i) = some v := by
  unfold World.cells? at h
  split at h
  · obtain ⟨h1, h2⟩ := mapM_list h
    simp only [List.length_range] at h1
    refine ⟨h1, fun i v hv => ?_⟩
    have hi : i < n := by rw [← h1]; exact (List.getElem?_eq_some_iff.1 hv).1
    obtain ⟨y, hy, hr⟩ := h2 i i (by rw [List.getElem?_range hi])
    rw [hr] at hv; cases hv
    exact hy
  · cases h
theorem cell?_lt {a : Addr} {v : Value} (h : w.cell? a = some v) : a.block < w.heap.size ∧ a.spot = none := by
  unfold World.cell? at h
  split at h
  · rename_i c t fr hb
    refine ⟨(Array.getElem?_eq_some_iff.1 hb).1, ?_⟩
    cases hs : a.spot with
    | none => rfl
    | some s => rw [hs] at h; simp at h
  · cases h
theorem catV_rl {F : Nat → List V → Prop} {A : List Value} {ok : Nat → Prop} (fields : List Field) (n : Nat) (cs : List Value) (hlen : cs.length = n)
    (hf : ∀ f ∈ fields, ∃ xs, F f.type xs ∧ RlL A ok w xs ((cs.drop f.offset).take (P.cellsOf f.type))) :
    ∀ (off : Nat), (hsz : ∀ f ∈ fields, P.cellsOf f.type = sizeC C f.type) → tilesC C (fields.map fun f => (f.offset, f.type)) off n = true → off ≤ n → ∃ xs, catV F ((fields.map fun f => (f.offset, f.type)).map (·.2)) xs ∧ RlL A ok w xs (cs.drop off) := by
  induction fields with
  | nil =>
    intro off _ ht hle
    simp only [List.map_nil, tilesC] at ht
    have := Nat.eq_of_beq_eq_true ht
    refine ⟨[], rfl, ?_⟩
    rw [List.drop_eq_nil_of_le (by omega)]; simp [RlL]
  | cons f fields ih =>
    intro off hsz ht hle
    simp only [List.map_cons, tilesC, Bool.and_eq_true] at ht
    have ho := Nat.eq_of_beq_eq_true ht.1
    obtain ⟨xs, hx, hr⟩ := hf f (by simp)
    rw [← hsz f (by simp)] at ht
    rw [ho] at hr
    have hle' : off + P.cellsOf f.type ≤ n := by
      have key : ∀ (l : List (Nat × Nat)) (off n : Nat), tilesC C l off n = true → off ≤ n := by
        intro l
        induction l with
        | nil => intro off n h; have := Nat.eq_of_beq_eq_true h; omega
        | cons p l ih =>
          intro off n h
          obtain ⟨o, t⟩ := p
          simp only [tilesC, Bool.and_eq_true] at h
          have := ih _ _ h.2; omega
      exact key _ _ _ ht.2
    obtain ⟨ys, hy, hr2⟩ := ih (fun f hf' => hf f (by simp [hf'])) (off + P.cellsOf f.type) (fun f hf' => hsz f (by simp [hf'])) ht.2 hle'
    refine ⟨xs ++ ys, ⟨xs, ys, rfl, hx, hy⟩, ?_⟩
    have : cs.drop off = (cs.drop off).take (P.cellsOf f.type) ++ cs.drop (off + P.cellsOf f.type) := by
      rw [← List.drop_drop]; exact (List.take_append_drop _ _).symm
    rw [this]
    exact hr.append hr2
theorem rows_rl {F : List V → Prop} {A : List Value} {ok : Nat → Prop} (sz : Nat) : ∀ (n : Nat) (cs : List Value), cs.length = n * sz → (∀ i, i < n → ∃ xs, F xs ∧ RlL A ok w xs ((cs.drop (i * sz)).take sz)) → ∃ rows : List (List V), rows.length = n ∧ (∀ r ∈ rows, F r) ∧ RlL A ok w rows.flatten cs
  | 0, cs, hl, _ => ⟨[], rfl, by simp, by
      have : cs = [] := List.eq_nil_of_length_eq_zero (by simpa using hl)
      subst this; simp [RlL]⟩
  | n + 1, cs, hl, h => by
    obtain ⟨xs, hx, hr⟩ := h 0 (by omega)
    simp only [Nat.zero_mul, List.drop_zero] at hr
    obtain ⟨rows, h1, h2, h3⟩ := rows_rl sz n (cs.drop sz) (by simp [hl, Nat.succ_mul]) (fun i hi => by
      obtain ⟨ys, hy, hr'⟩ := h (i + 1) (by omega)
      refine ⟨ys, hy, ?_⟩
      rw [List.drop_drop]
      rwa [show sz + i * sz = (i + 1) * sz by rw [Nat.succ_mul]; omega])
    refine ⟨xs :: rows, by simp [h1], ?_, ?_⟩
    · intro r hr'; rcases List.mem_cons.1 hr' with rfl | hr'
      · exact hx
      · exact h2 r hr'
    · have : cs = cs.take sz ++ cs.drop sz := (List.take_append_drop _ _).symm
      rw [this]
      simp only [List.flatten_cons]
      exact hr.append h3
theorem all_one_of_parts {cs : List Value} (h : ∀ (i : Nat) (v : Value), cs[i]? = some v → v.oneCell' = true) : ∀ v ∈ cs, v.oneCell' = true := fun v hv => by
  obtain ⟨i, hi⟩ := List.getElem?_of_mem hv
  exact h i v hi
theorem tiles_all (p : Value → Prop) (fields : List Field) (n : Nat) (cs : List Value) (hlen : cs.length = n) (hf : ∀ f ∈ fields, ∀ v ∈ (cs.drop f.offset).take (P.cellsOf f.type), p v) :
    ∀ (off : Nat), (∀ f ∈ fields, P.cellsOf f.type = sizeC C f.type) → tilesC C (fields.map fun f => (f.offset, f.type)) off n = true → ∀ v ∈ cs.drop off, p v := by
  induction fields with
  | nil =>
    intro off _ ht v hv
    simp only [List.map_nil, tilesC] at ht
    have := Nat.eq_of_beq_eq_true ht
    rw [List.drop_eq_nil_of_le (by omega)] at hv; simp at hv
  | cons f fields ih =>
    intro off hsz ht v hv
    simp only [List.map_cons, tilesC, Bool.and_eq_true] at ht
    have ho := Nat.eq_of_beq_eq_true ht.1
    rw [← hsz f (by simp)] at ht
    have hs : cs.drop off = (cs.drop off).take (P.cellsOf f.type) ++ cs.drop (off + P.cellsOf f.type) := by
      rw [← List.drop_drop]; exact (List.take_append_drop _ _).symm
    rw [hs] at hv
    rcases List.mem_append.1 hv with hv | hv
    · exact hf f (by simp) v (by rw [ho]; exact hv)
    · exact ih (fun f hf' => hf f (by simp [hf'])) _ (fun f hf' => hsz f (by simp [hf'])) ht.2 v hv
theorem trod_V (hC : CfgOk P C) {spare : Nat → Bool} {held : Bool} : ∀ (d t : Nat) (cs : List Value) (fuel : Nat) (x : DataW H × List MemPlace), okD C d t = true → DataW.trod enc P w 0 spare held fuel t cs = some x →
    cs.length = P.cellsOf t ∧ ∃ xs, TyV C d t xs ∧ RlL [] (okW w) w xs cs ∧ ∀ v ∈ cs, v.oneCell' = true := by
  intro d
  induction d with
  | zero => intro t cs fuel x hd; simp [okD] at hd
  | succ d ih =>
    intro t cs fuel x hd h
    cases fuel with
    | zero => simp [DataW.trod] at h
    | succ fuel =>
      simp only [okD] at hd
      cases ht : C.ty t with
      | none => rw [ht] at hd; cases hd
      | some ti =>
        rw [ht] at hd
        have hT := hC.ty t ti ht
        have hcz := cellsOf_ty hT
        obtain ⟨inf, z, desc, hi, hs, hby, hz, hzl, hu, hagg, hdsc, hone, hlv, hz1, hzlen⟩ := hT.info
        dsimp only at hd
        simp only [TyV, ht]
        unfold DataW.trod at h
        rw [hu] at h
        have flat1 : ∀ (z0 : Value), z = z0 → ti.agg = false → P.cellsOf t = 1 := fun z0 _ ha => by
          have := hz1 ha
          rw [hcz, ← hzlen, ← hzl, this]; rfl
        split at hd
        · rename_i k hty
          rw [hty] at hdsc; dsimp only at hdsc; subst hdsc
          have ha : ti.agg = false := hagg
          have hcs : ∃ k' n, cs = [.int k' n] := by
            cases cs with
            | nil => cases h
            | cons v r => cases r with
              | nil => cases v <;> first | exact ⟨_, _, rfl⟩ | (cases h; done)
              | cons _ _ => cases v <;> cases h
          obtain ⟨k', n, rfl⟩ := hcs
          · dsimp only at h
            split at h
            · rename_i hk
              obtain ⟨rfl, hwf⟩ := hk
              simp only [Lit.wf, Bool.and_eq_true, decide_eq_true_eq] at hwf
              exact ⟨by rw [flat1 z rfl ha]; rfl, [.int _ _], ⟨_, rfl, hwf.1, hwf.2⟩, by simp [RlL, Rl], by simp [Value.oneCell']⟩
            · cases h
        · rename_i hty
          rw [hty] at hdsc; dsimp only at hdsc; subst hdsc
          have ha : ti.agg = false := hagg
          have hcs : ∃ b, cs = [.bool b] := by
            cases cs with
            | nil => cases h
            | cons v r => cases r with
              | nil => cases v <;> first | exact ⟨_, rfl⟩ | (cases h; done)
              | cons _ _ => cases v <;> cases h
          obtain ⟨b, rfl⟩ := hcs
          · exact ⟨by rw [flat1 z rfl ha]; rfl, [.bool b], ⟨_, rfl⟩, by simp [RlL, Rl], by simp [Value.oneCell']⟩
        · rename_i hty
          rw [hty] at hdsc; dsimp only at hdsc; subst hdsc
          have ha : ti.agg = false := hagg
          have hcs : ∃ b, cs = [.string b] := by
            cases cs with
            | nil => cases h
            | cons v r => cases r with
              | nil => cases v <;> first | exact ⟨_, rfl⟩ | (cases h; done)
              | cons _ _ => cases v <;> cases h
          obtain ⟨b, rfl⟩ := hcs
          · dsimp only at h
            split at h
            · rename_i hsz
              exact ⟨by rw [flat1 z rfl ha]; rfl, [.str _], ⟨_, rfl, hsz⟩, by simp [RlL, Rl], by simp [Value.oneCell']⟩
            · cases h
        · rename_i e hty
          rw [hty] at hdsc; dsimp only at hdsc; subst hdsc
          have ha : ti.agg = false := hagg
          simp only [Bool.and_eq_true] at hd
          have hcs : cs = [.slice none 0 0] ∨ ∃ a l c, cs = [.slice (some a) l c] := by
            cases cs with
            | nil => cases h
            | cons v r => cases r with
              | nil => cases v with
                | slice a l c => cases a with
                  | none => cases l with
                    | zero => cases c with
                      | zero => exact .inl rfl
                      | succ c => cases h
                    | succ l => cases h
                  | some a => exact .inr ⟨_, _, _, rfl⟩
                | _ => cases h
              | cons _ _ => cases v with
                | slice a l c => cases a with
                  | none => cases l with
                    | zero => cases c <;> cases h
                    | succ l => cases h
                  | some a => cases h
                | _ => cases h
          rcases hcs with rfl | ⟨a, len, cap, rfl⟩
          · exact ⟨by rw [flat1 z rfl ha]; rfl, [.sl 0 []], ⟨[], rfl, by simp, by simp⟩, by simp only [RlL, Rl]; exact ⟨⟨none, 0, [], rfl, Nat.le_refl _, by simp [RlL], .inl ⟨rfl, rfl⟩⟩, trivial⟩, by simp [Value.oneCell']⟩
          · dsimp only at h
            split at h
            · rename_i hb
              obtain ⟨_, hlc, hcm⟩ := hb
              cases hm : (List.range len).mapM fun i => (w.cells? 0 (a.add (i * P.cellsOf e)) (P.cellsOf e)).bind (DataW.trod enc P w 0 spare held fuel e) with
              | none => rw [hm] at h; cases h
              | some elems =>
                obtain ⟨hel, hev⟩ := mapM_list hm
                cases hte : C.ty e with
                | none => simp [sizeC, hte] at hd
                | some te =>
                  have hsz : P.cellsOf e = te.size := cellsOf_ty (hC.ty e te hte)
                  have hpos : 0 < te.size := by have := Nat.le_of_ble_eq_true hd.2; simp only [sizeC, hte] at this; omega
                  have each : ∀ i, i < len → ∃ csi y, (w.cells? 0 (a.add (i * te.size)) te.size) = some csi ∧ DataW.trod enc P w 0 spare held fuel e csi = some y := fun i hi => by
                    obtain ⟨y, hy, _⟩ := hev i i (by rw [List.getElem?_range hi])
                    rw [hsz] at hy
                    cases hc : w.cells? 0 (a.add (i * te.size)) te.size with
                    | none => rw [hc] at hy; cases hy
                    | some csi => rw [hc] at hy; exact ⟨csi, y, rfl, hy⟩
                  by_cases hl0 : len = 0
                  · subst hl0
                    exact ⟨by rw [flat1 z rfl ha]; rfl, [.sl 0 []], ⟨[], rfl, by simp, by simp⟩, by simp only [RlL, Rl]; exact ⟨⟨_, cap, [], rfl, Nat.zero_le _, by simp [RlL], .inl ⟨rfl, rfl⟩⟩, trivial⟩, by simp [Value.oneCell']⟩
                  · obtain ⟨cs0, y0, hc0, ht0⟩ := each 0 (by omega)
                    obtain ⟨hn0, hg0⟩ := cells?_some hc0
                    have hfirst : w.cell? a = some (cs0[0]'(by omega)) := by
                      have := hg0 0 cs0[0] (List.getElem?_eq_getElem (by omega))
                      simpa [Addr.add] using this
                    obtain ⟨hblt, hspot⟩ := cell?_lt hfirst
                    obtain ⟨b, o, sp⟩ := a
                    dsimp only at hblt hspot
                    subst hspot
                    have cellAt : ∀ j, j < len * te.size → ∃ v, w.cell? ⟨b, o + j, none⟩ = some v := fun j hj => by
                      have hi : j / te.size < len := by rw [Nat.div_lt_iff_lt_mul hpos]; exact hj
                      obtain ⟨csi, y, hc, _⟩ := each _ hi
                      obtain ⟨hn, hg⟩ := cells?_some hc
                      have hk : j % te.size < csi.length := by rw [hn]; exact Nat.mod_lt _ hpos
                      have := hg _ _ (List.getElem?_eq_getElem hk)
                      rw [add_at, add_at] at this
                      refine ⟨csi[j % te.size], ?_⟩
                      rw [← this, Nat.add_assoc, Nat.mul_comm, Nat.div_add_mod]
                    have hvs : ∃ vs : List Value, vs.length = len * te.size ∧ ∀ j, j < len * te.size → w.cell? ⟨b, o + j, none⟩ = vs[j]? := by
                      refine ⟨(List.range (len * te.size)).map fun j => (w.cell? ⟨b, o + j, none⟩).getD undef, by simp, fun j hj => ?_⟩
                      obtain ⟨v, hv⟩ := cellAt j hj
                      simp [List.getElem?_range hj, hv]
                    obtain ⟨vs, hvl, hvc⟩ := hvs
                    have part : ∀ i, i < len → ∀ csi, w.cells? 0 (Addr.add ⟨b, o, none⟩ (i * te.size)) te.size = some csi → (vs.drop (i * te.size)).take te.size = csi := fun i hi csi hc => by
                      obtain ⟨hn, hg⟩ := cells?_some hc
                      have hmul : (i + 1) * te.size ≤ len * te.size := Nat.mul_le_mul_right _ hi
                      rw [Nat.succ_mul] at hmul
                      apply List.ext_getElem?
                      intro k
                      rw [List.getElem?_take, List.getElem?_drop]
                      split
                      · rename_i hk
                        have hkc : k < csi.length := by omega
                        have := hg k _ (List.getElem?_eq_getElem hkc)
                        rw [add_at, add_at, Nat.add_assoc, hvc _ (by omega)] at this
                        rw [this, List.getElem?_eq_getElem hkc]
                      · rw [List.getElem?_eq_none (by omega)]
                    have each2 : ∀ i, i < len → (∃ xs, TyV C d e xs ∧ RlL [] (okW w) w xs ((vs.drop (i * te.size)).take te.size)) ∧ ∀ v ∈ (vs.drop (i * te.size)).take te.size, v.oneCell' = true := fun i hi => by
                      obtain ⟨csi, y, hc, ht'⟩ := each i hi
                      rw [part i hi csi hc]
                      obtain ⟨_, xs, q1, q2, q3⟩ := ih e csi fuel y hd.1 ht'
                      exact ⟨⟨xs, q1, q2⟩, q3⟩
                    obtain ⟨rows, r1, r2, r3⟩ := rows_rl (w := w) (F := TyV C d e) te.size len vs hvl (fun i hi => (each2 i hi).1)
                    refine ⟨by rw [flat1 z rfl ha]; rfl, [.sl rows.length rows.flatten], ⟨rows, rfl, by omega, r2⟩, ?_, by simp [Value.oneCell']⟩
                    simp only [RlL, Rl]
                    refine ⟨⟨some ⟨b, o, none⟩, cap, vs, by rw [r1], by omega, r3, .inr ⟨b, o, rfl, hblt, fun i v hv => ?_⟩⟩, trivial⟩
                    have hil : i < len * te.size := by rw [← hvl]; exact (List.getElem?_eq_some_iff.1 hv).1
                    refine ⟨by rw [hvc i hil]; exact hv, ?_⟩
                    have hi : i / te.size < len := by rw [Nat.div_lt_iff_lt_mul hpos]; exact hil
                    refine (each2 _ hi).2 v (List.mem_of_getElem? (i := i % te.size) ?_)
                    rw [List.getElem?_take, if_pos (Nat.mod_lt _ hpos), List.getElem?_drop, Nat.mul_comm, Nat.div_add_mod]
                    exact hv
            · cases h
        · rename_i fs hty
          rw [hty] at hdsc; dsimp only at hdsc
          obtain ⟨fields, rfl, hfs, _⟩ := hdsc
          simp only [Bool.and_eq_true] at hd
          replace h : (if cs.length = P.cellsOf t then (fields.toList.mapM fun f => DataW.trod enc P w 0 spare held fuel f.type ((cs.drop f.offset).take (P.cellsOf f.type))).map fun xs => (DataW.agg (xs.map (·.1)), xs.flatMap (·.2)) else none) = some x := by
            cases cs with
            | nil => exact h
            | cons v r => cases r with
              | nil => cases v <;> exact h
              | cons _ _ => cases v <;> exact h
          · split at h
            · rename_i hlen
              cases hm : fields.toList.mapM (fun f => DataW.trod enc P w 0 spare held fuel f.type ((cs.drop f.offset).take (P.cellsOf f.type))) with
              | none => rw [hm] at h; cases h
              | some parts =>
                obtain ⟨_, hev⟩ := mapM_list hm
                have hfo : ∀ f ∈ fields.toList, okD C d f.type = true := fun f hf => by
                  have := List.all_eq_true.1 hd.2 (f.offset, f.type) (by rw [hfs]; exact List.mem_map.2 ⟨f, hf, rfl⟩)
                  exact this
                have hsz : ∀ f ∈ fields.toList, P.cellsOf f.type = sizeC C f.type := fun f hf => by
                  have := hfo f hf
                  cases d with
                  | zero => simp [okD] at this
                  | succ d =>
                    simp only [okD] at this
                    cases htf : C.ty f.type with
                    | none => rw [htf] at this; cases this
                    | some tf => exact cellsOf_sizeC hC htf
                have each : ∀ f ∈ fields.toList, (∃ xs, TyV C d f.type xs ∧ RlL [] (okW w) w xs ((cs.drop f.offset).take (P.cellsOf f.type))) ∧ ∀ v ∈ (cs.drop f.offset).take (P.cellsOf f.type), v.oneCell' = true := fun f hf => by
                  obtain ⟨i, hi⟩ := List.getElem?_of_mem hf
                  obtain ⟨y, hy, _⟩ := hev i f hi
                  obtain ⟨_, xs, q1, q2, q3⟩ := ih f.type _ fuel y (hfo f hf) hy
                  exact ⟨⟨xs, q1, q2⟩, q3⟩
                have htl : tilesC C (fields.toList.map fun f => (f.offset, f.type)) 0 (P.cellsOf t) = true := by rw [← hfs, hcz]; exact hd.1
                obtain ⟨xs, hx, hr⟩ := catV_rl (w := w) (A := []) (ok := okW w) (F := TyV C d) fields.toList (P.cellsOf t) cs hlen (fun f hf => (each f hf).1) 0 hsz htl (Nat.zero_le _)
                refine ⟨hlen, xs, by rw [hfs]; exact hx, by simpa using hr, ?_⟩
                exact tiles_all (fun v => v.oneCell' = true) fields.toList (P.cellsOf t) cs hlen (fun f hf => (each f hf).2) 0 hsz htl
            · cases h
        · rename_i n e hty
          rw [hty] at hdsc; dsimp only at hdsc; subst hdsc
          simp only [Bool.and_eq_true] at hd
          replace h : (if cs.length = P.cellsOf t then ((List.range n).mapM fun i => DataW.trod enc P w 0 spare held fuel e ((cs.drop (i * P.cellsOf e)).take (P.cellsOf e))).map fun xs => (DataW.agg (xs.map (·.1)), xs.flatMap (·.2)) else none) = some x := by
            cases cs with
            | nil => exact h
            | cons v r => cases r with
              | nil => cases v <;> exact h
              | cons _ _ => cases v <;> exact h
          · split at h
            · rename_i hlen
              cases hm : (List.range n).mapM (fun i => DataW.trod enc P w 0 spare held fuel e ((cs.drop (i * P.cellsOf e)).take (P.cellsOf e))) with
              | none => rw [hm] at h; cases h
              | some parts =>
                obtain ⟨_, hev⟩ := mapM_list hm
                cases hte : C.ty e with
                | none => simp [sizeC, hte] at hd
                | some te =>
                  have hsz : P.cellsOf e = te.size := cellsOf_ty (hC.ty e te hte)
                  have hpos : 0 < te.size := by have := Nat.le_of_ble_eq_true hd.2; simp only [sizeC, hte] at this; omega
                  have htot : cs.length = n * te.size := by
                    rw [hlen, hcz]
                    have := Nat.eq_of_beq_eq_true hd.1.2
                    simpa [sizeC, hte] using this.symm
                  have each : ∀ i, i < n → (∃ xs, TyV C d e xs ∧ RlL [] (okW w) w xs ((cs.drop (i * te.size)).take te.size)) ∧ ∀ v ∈ (cs.drop (i * te.size)).take te.size, v.oneCell' = true := fun i hi => by
                    obtain ⟨y, hy, _⟩ := hev i i (by rw [List.getElem?_range hi])
                    rw [hsz] at hy
                    obtain ⟨_, xs, q1, q2, q3⟩ := ih e _ fuel y hd.1.1 hy
                    exact ⟨⟨xs, q1, q2⟩, q3⟩
                  obtain ⟨rows, r1, r2, r3⟩ := rows_rl (w := w) (F := TyV C d e) te.size n cs htot (fun i hi => (each i hi).1)
                  refine ⟨hlen, rows.flatten, ⟨rows, rfl, r1, r2⟩, r3, all_one_of_parts fun i v hv => ?_⟩
                  have hil : i < n * te.size := by rw [← htot]; exact (List.getElem?_eq_some_iff.1 hv).1
                  have hi : i / te.size < n := by rw [Nat.div_lt_iff_lt_mul hpos]; exact hil
                  refine (each _ hi).2 v (List.mem_of_getElem? (i := i % te.size) ?_)
                  rw [List.getElem?_take, if_pos (Nat.mod_lt _ hpos), List.getElem?_drop, Nat.mul_comm, Nat.div_add_mod]
                  exact hv
            · cases h
        · cases hd
theorem open_arg (hC : CfgOk P C) {spare : Nat → Bool} {held : Bool} {base d t : Nat} {v : Value} {dd : DataW H} {p : List MemPlace} (hd : okD C d t = true) (h : DataW.Trod enc P w 0 spare held t v dd p) (hok : Value.okWide P w .any base t v) :
    ∃ x, TyA C d t x ∧ Rl [] (okW w) w x v := by
  obtain ⟨fuel, h⟩ := h
  obtain ⟨hlen, xs, hx, hr, ho⟩ := trod_V hC d t _ fuel _ hd h
  cases d with
  | zero => simp [okD] at hd
  | succ d =>
    simp only [okD] at hd
    cases ht : C.ty t with
    | none => rw [ht] at hd; cases hd
    | some ti =>
      rw [ht] at hd
      have hT := hC.ty t ti ht
      obtain ⟨inf, z, desc, hi, hs, hby, hz, hzl, hu, hagg, hdsc, hone, hlv, hz1, hzlen⟩ := hT.info
      unfold Value.okWide at hok
      rw [hu] at hok
      cases ha : ti.agg with
      | true =>
        have hv : ∃ cs : Array Value, v = .agg cs := by
          rw [ha] at hagg
          cases desc <;> simp at hagg
          · obtain ⟨cs, e, _⟩ := hok; exact ⟨cs, e⟩
          · obtain ⟨cs, e, _⟩ := hok; exact ⟨cs, e⟩
        obtain ⟨cs, rfl⟩ := hv
        refine ⟨.agg xs, ⟨xs, hx, ?_⟩, ?_⟩
        · rw [ht]; exact .inl ⟨ha, rfl⟩
        · simp only [Rl]; exact ⟨cs, rfl, by simpa [Value.cells] using hr, by simpa [Value.cells] using ho⟩
      | false =>
        have hvc : v.cells = #[v] := by
          cases v with
          | agg cs =>
            exfalso
            rw [ha] at hagg
            dsimp only at hd
            cases hty : ti.ty <;> rw [hty] at hd hdsc <;> simp at hd <;> dsimp only at hdsc
            · subst hdsc; simp [Cell.okWide, hu, Cell.ok] at hok
            · subst hdsc; simp [Cell.okWide, hu, Cell.ok] at hok
            · subst hdsc; simp [Cell.okWide, hu, Cell.ok] at hok
            · subst hdsc; simp [Cell.okWide, hu, Cell.ok] at hok
            · obtain ⟨fields, rfl, _⟩ := hdsc; simp at hagg
            · subst hdsc; simp at hagg
          | _ => rfl
        rw [hvc] at hr
        cases xs with
        | nil => simp [RlL] at hr
        | cons x xs =>
          cases xs with
          | cons _ _ => simp [RlL] at hr
          | nil =>
            simp only [RlL] at hr
            exact ⟨x, ⟨[x], hx, by rw [ht]; exact .inr ⟨ha, rfl⟩⟩, hr.1⟩
theorem open_args (hC : CfgOk P C) {spare : Nat → Bool} {held : Bool} {base d : Nat} : ∀ (ts : List Nat) (vs : List Value) (ds : List (DataW H)) (ps : List MemPlace), ts.all (okD C d) = true → DataW.TrodAll enc P w 0 spare held ts vs ds ps →
    (∀ (j : Nat) t v, ts[j]? = some t → vs[j]? = some v → Value.okWide P w .any base t v) → ∃ xs, TyAs C d ts xs ∧ RlL [] (okW w) w xs vs
  | [], [], ds, ps, _, h, _ => ⟨[], rfl, by simp [RlL]⟩
  | [], _ :: _, ds, ps, _, h, _ => by cases ds <;> simp [DataW.TrodAll] at h
  | _ :: _, [], ds, ps, _, h, _ => by cases ds <;> simp [DataW.TrodAll] at h
  | t :: ts, v :: vs, [], ps, _, h, _ => by simp [DataW.TrodAll] at h
  | t :: ts, v :: vs, dd :: ds, ps, hd, h, hok => by
    simp only [List.all_cons, Bool.and_eq_true] at hd
    simp only [DataW.TrodAll] at h
    obtain ⟨p, q, h1, h2, rfl⟩ := h
    obtain ⟨x, hx, hr⟩ := open_arg hC hd.1 h1 (hok 0 t v rfl rfl)
    obtain ⟨xs, hxs, hrs⟩ := open_args hC ts vs ds q hd.2 h2 (fun j t v h1 h2 => hok (j + 1) t v (by simpa using h1) (by simpa using h2))
    exact ⟨x :: xs, ⟨x, xs, rfl, hx, hxs⟩, by simp only [RlL]; exact ⟨hr, hrs⟩⟩
end
end Go.PI
