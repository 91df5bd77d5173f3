/-
  PI: a call by value, whole.
-/
import Derived.Test.YtodapaplfjfnlaaGreatPICall
namespace Go.PI
open Go
set_option linter.unusedVariables false
set_option linter.unusedSimpArgs false
section
variable {P : Program} {C : Cfg} {N : Nat → Prop} {s0 n0 : Nat} {A A' A1 : List Value} {obs obs' obsF : Obs} {w w' : World} {α : Type} {r : α}
theorem Rl.flat {A B : List Value} {ok ok' : Nat → Prop} {w w' : World} {x : V} {v : Value} (hx : flatV x = true) (h : Rl A ok w x v) : Rl B ok' w' x v := by
  cases x <;> simp_all [flatV, Rl]
theorem RlL.flat {A B : List Value} {ok ok' : Nat → Prop} {w w' : World} : ∀ {xs : List V} {vs : List Value}, xs.all flatV = true → RlL A ok w xs vs → RlL B ok' w' xs vs
  | [], [], _, _ => by simp [RlL]
  | [], _ :: _, _, h => by simp [RlL] at h
  | _ :: _, [], _, h => by simp [RlL] at h
  | x :: xs, v :: vs, hf, h => by
    simp only [List.all_cons, Bool.and_eq_true] at hf
    simp only [RlL] at h ⊢
    exact ⟨h.1.flat hf.1, RlL.flat hf.2 h.2⟩
def OwnP (C : Cfg) (A1 : List Value) (obsF : Obs) (sh : Bool) : List (Ob × Value) → List Nat → Prop
  | [], _ => True
  | (o, v) :: ps, ids => (∃ e te, C.ty e = some te ∧ 0 < te.size ∧ (o = .row e 0 [] false ∨ o = .nrow [] e 0 []) ∧ v = .slice none 0 0 ∧ OwnP C A1 obsF sh ps ids) ∨
      ∃ id ids' e n c, ids = id :: ids' ∧ (o = .row e n c false ∧ (sh = true ∨ c.all flatV = true) ∨ o = .nrow [] e n c) ∧ obsF[id]? = some o ∧ A1[id]? = some v ∧ OwnP C A1 obsF sh ps ids'
theorem OwnP.weaken {sh sh' : Bool} (hs : sh = true → sh' = true) : ∀ {ps : List (Ob × Value)} {ids : List Nat}, OwnP C A1 obsF sh ps ids → OwnP C A1 obsF sh' ps ids
  | [], _, _ => by simp [OwnP]
  | (o, v) :: ps, ids, h => by
    simp only [OwnP] at h ⊢
    rcases h with ⟨e, te, h1, h2, h3, h4, h⟩ | ⟨id, ids', e, n, c, h1, h2, h3, h4, h⟩
    · exact .inl ⟨e, te, h1, h2, h3, h4, h.weaken hs⟩
    · exact .inr ⟨id, ids', e, n, c, h1, h2.imp (fun q => ⟨q.1, q.2.imp hs (fun h => h)⟩) (fun h => h), h3, h4, h.weaken hs⟩
theorem takeLeaves_sound {okF : Nat → Prop} : ∀ (ls : List Leaf) (own : List (Option Nat)) (cs xs : List V) (fl : List Value) (ids : List Nat) (i : Nat) {obs : Obs} {K : List V → Obs → Option α},
    GvL C A1 obsF okF w' ls own xs fl ids → cs.drop i = xs → takeLeaves ls own cs i obs K = some r →
    ∃ ys ps, K ys (obs ++ ps.map (·.1)) = some r ∧ OwnP C A1 obsF (shares C ls own) ps ids ∧ (∀ (A : List Value) (okX : Nat → Prop), A.length = obs.length → (shares C ls own = true → ∀ b, okF b → okX b) → RlL (A ++ ps.map (·.2)) okX w' ys fl)
  | [], own, cs, xs, fl, ids, i, obs, K, hg, hd, h => by
    simp only [GvL] at hg
    obtain ⟨rfl, rfl, rfl⟩ := hg
    exact ⟨[], [], by simpa [takeLeaves] using h, by simp [OwnP], fun _ _ _ _ => by simp [RlL]⟩
  | l :: ls, own, cs, xs, fl, ids, i, obs, K, hg, hd, h => by
    simp only [GvL] at hg
    obtain ⟨x, xs', v, fl', rfl, rfl, hg⟩ := hg
    have hx : cs[i]? = some x := by
      have : (cs.drop i)[0]? = some x := by rw [hd]; rfl
      simpa using this
    have hd' : cs.drop (i + 1) = xs' := by
      have : (cs.drop i).drop 1 = xs' := by rw [hd]; rfl
      rwa [List.drop_drop] at this
    have plain : ∀ (own' : List (Option Nat)) (y : V), ((∀ (A : List Value) (okX : Nat → Prop), (shares C (l :: ls) own = true → ∀ b, okF b → okX b) → Rl A okX w' x v)) → (shares C ls own' = true → shares C (l :: ls) own = true) → x = y → GvL C A1 obsF okF w' ls own' xs' fl' ids → (takeLeaves ls own' cs (i + 1) obs fun xs obs => K (y :: xs) obs) = some r →
        ∃ ys ps, K ys (obs ++ ps.map (·.1)) = some r ∧ OwnP C A1 obsF (shares C (l :: ls) own) ps ids ∧ (∀ (A : List Value) (okX : Nat → Prop), A.length = obs.length → (shares C (l :: ls) own = true → ∀ b, okF b → okX b) → RlL (A ++ ps.map (·.2)) okX w' ys (v :: fl')) := by
      intro own' y hr hsh e hg h
      subst e
      obtain ⟨ys, ps, hk, hp, hq⟩ := takeLeaves_sound ls own' cs xs' fl' ids (i + 1) hg hd' h
      refine ⟨_, ps, hk, hp.weaken hsh, fun A okX hA hok => ?_⟩
      simp only [RlL]
      exact ⟨hr _ okX hok, hq A okX hA (fun h => hok (hsh h))⟩
    have shared : Rl [] okF w' x v → shares C (l :: ls) own = true → (∀ (A : List Value) (okX : Nat → Prop), (shares C (l :: ls) own = true → ∀ b, okF b → okX b) → Rl A okX w' x v) := fun hr hs A okX hok =>
      Rl.mono ⟨fun _ _ h => by simp at h, hok hs, fun _ _ => rfl⟩ x hr
    cases l with
    | int k =>
      simp only at hg
      simp only [takeLeaves] at h
      replace h := asInt_some h
      obtain ⟨n, e, h⟩ := h
      rw [hx] at e
      exact plain own _ (fun A okX _ => hg.2.1.flat hg.1) id (Option.some.inj e) hg.2.2 h
    | bool =>
      simp only at hg
      simp only [takeLeaves] at h
      replace h := asBool_some h
      obtain ⟨n, e, h⟩ := h
      rw [hx] at e
      exact plain own _ (fun A okX _ => hg.2.1.flat hg.1) id (Option.some.inj e) hg.2.2 h
    | str =>
      simp only at hg
      simp only [takeLeaves] at h
      replace h := asStr_some h
      obtain ⟨n, e, h⟩ := h
      rw [hx] at e
      exact plain own _ (fun A okX _ => hg.2.1.flat hg.1) id (Option.some.inj e) hg.2.2 h
    | oth =>
      simp only at hg
      simp only [takeLeaves] at h
      replace h := get_some h
      obtain ⟨n, e, h⟩ := h
      rw [hx] at e
      exact plain own _ (fun A okX _ => hg.2.1.flat hg.1) id (Option.some.inj e) hg.2.2 h
    | sl =>
      cases own with
      | nil =>
        simp only at hg
        simp only [takeLeaves] at h
        replace h := asSl_some h
        obtain ⟨n, c, e, h⟩ := h
        rw [hx] at e
        exact plain _ _ (shared hg.1 rfl) (fun _ => rfl) (Option.some.inj e) hg.2 h
      | cons o own =>
        cases o with
        | none =>
          simp only at hg
          simp only [takeLeaves] at h
          replace h := asSl_some h
          obtain ⟨n, c, e, h⟩ := h
          rw [hx] at e
          exact plain _ _ (shared hg.1 rfl) (fun _ => rfl) (Option.some.inj e) hg.2 h
        | some e =>
          simp only at hg
          simp only [takeLeaves] at h
          cases hne : nestE e with
          | some e0 =>
            rw [hne] at hg h
            dsimp only at hg h
            obtain ⟨te, hte, hpos, hg⟩ := hg
            replace h := asOsl_some h
            obtain ⟨n, c, ex, h⟩ := h
            rw [hx] at ex
            have ex := Option.some.inj ex
            have hsh : shares C (.sl :: ls) (some e :: own) = shares C ls own := by simp [shares, hne]
            have fin : ∀ ids', GvL C A1 obsF okF w' ls own xs' fl' ids' → (∀ ps, OwnP C A1 obsF (shares C (.sl :: ls) (some e :: own)) ps ids' → OwnP C A1 obsF (shares C (.sl :: ls) (some e :: own)) ((.nrow [] e0 n c, v) :: ps) ids) →
                ∃ ys ps, K ys (obs ++ ps.map (·.1)) = some r ∧ OwnP C A1 obsF (shares C (.sl :: ls) (some e :: own)) ps ids ∧ (∀ (A : List Value) (okX : Nat → Prop), A.length = obs.length → (shares C (.sl :: ls) (some e :: own) = true → ∀ b, okF b → okX b) → RlL (A ++ ps.map (·.2)) okX w' ys (v :: fl')) := by
              intro ids' hg hps
              have up : shares C ls own = true → shares C (.sl :: ls) (some e :: own) = true := fun h => by rw [hsh, h]
              obtain ⟨ys, ps, hk, hp, hq⟩ := takeLeaves_sound ls own cs xs' fl' ids' (i + 1) hg hd' h
              refine ⟨_, (.nrow [] e0 n c, v) :: ps, by simpa [List.append_assoc] using hk, hps ps (hp.weaken up), fun A okX hA hok => ?_⟩
              have h2 := hq (A ++ [v]) okX (by simp [hA]) (fun h => hok (up h))
              simp only [List.map_cons, RlL, Rl]
              refine ⟨?_, by simpa [List.append_assoc] using h2⟩
              rw [List.getElem?_append_right (by omega), hA]; simp
            rcases hg with ⟨e1, e2, hg⟩ | ⟨id, n', c', ids', e1, e2, e3, e4, hg⟩
            · rw [e1] at ex; cases ex
              refine fin ids hg fun ps hps => ?_
              simp only [OwnP]
              exact .inl ⟨e0, te, hte, hpos, .inr rfl, e2, hps⟩
            · rw [e2] at ex; cases ex
              refine fin ids' hg fun ps hps => ?_
              simp only [OwnP]
              exact .inr ⟨id, ids', e0, n, c, e1, .inr rfl, e3, e4, hps⟩
          | none =>
          rw [hne] at hg h
          dsimp only at hg h
          obtain ⟨te, hte, hpos, hg⟩ := hg
          replace h := asOsl_some h
          obtain ⟨n, c, ex, h⟩ := h
          rw [hx] at ex
          have ex := Option.some.inj ex
          have hsh : shares C (.sl :: ls) (some e :: own) = (hasSl te.leaves || shares C ls own) := by simp [shares, hte, hne]
          have fin : ∀ ids', GvL C A1 obsF okF w' ls own xs' fl' ids' → (∀ ps, OwnP C A1 obsF (shares C (.sl :: ls) (some e :: own)) ps ids' → OwnP C A1 obsF (shares C (.sl :: ls) (some e :: own)) ((.row e n c false, v) :: ps) ids) →
              ∃ ys ps, K ys (obs ++ ps.map (·.1)) = some r ∧ OwnP C A1 obsF (shares C (.sl :: ls) (some e :: own)) ps ids ∧ (∀ (A : List Value) (okX : Nat → Prop), A.length = obs.length → (shares C (.sl :: ls) (some e :: own) = true → ∀ b, okF b → okX b) → RlL (A ++ ps.map (·.2)) okX w' ys (v :: fl')) := by
            intro ids' hg hps
            have up : shares C ls own = true → shares C (.sl :: ls) (some e :: own) = true := fun h => by rw [hsh, h]; simp
            obtain ⟨ys, ps, hk, hp, hq⟩ := takeLeaves_sound ls own cs xs' fl' ids' (i + 1) hg hd' h
            refine ⟨_, (.row e n c false, v) :: ps, by simpa [List.append_assoc] using hk, hps ps (hp.weaken up), fun A okX hA hok => ?_⟩
            have h2 := hq (A ++ [v]) okX (by simp [hA]) (fun h => hok (up h))
            simp only [List.map_cons, RlL, Rl]
            refine ⟨?_, by simpa [List.append_assoc] using h2⟩
            rw [List.getElem?_append_right (by omega), hA]; simp
          rcases hg with ⟨e1, e2, hg⟩ | ⟨id, n', c', ids', e1, e2, e3, e4, e5, hg⟩
          · rw [e1] at ex; cases ex
            refine fin ids hg fun ps hps => ?_
            simp only [OwnP]
            exact .inl ⟨e, te, hte, hpos, .inl rfl, e2, hps⟩
          · rw [e2] at ex; cases ex
            refine fin ids' hg fun ps hps => ?_
            simp only [OwnP]
            refine .inr ⟨id, ids', e, n, c, e1, .inl ⟨rfl, ?_⟩, e3, e4, hps⟩
            simp only [Bool.or_eq_true] at e5
            exact e5.imp (fun h => by rw [hsh, h]; rfl) (fun h => h)
theorem St.pushes (h : St C N s0 n0 A obs w) (hn0 : n0 ≤ obs.length) (ps : List (Ob × Value)) (w' : World) (hs : w.heap.size ≤ w'.heap.size) (hk : ∀ b, b < w.heap.size → w'.heap[b]? = w.heap[b]?)
    (ho : w'.os = w.os) (ht : w'.tape = w.tape) (hu : w'.output = w.output) (hb : ∀ (i : Nat) (o : Ob) (v : Value) (b : Nat), ps[i]? = some (o, v) → foot w' o v b → w.heap.size ≤ b ∧ ¬ N b)
    (hd : ∀ (i j : Nat) (o o' : Ob) (v v' : Value) (b : Nat), ps[i]? = some (o, v) → ps[j]? = some (o', v') → foot w' o v b → foot w' o' v' b → i = j)
    (hrow : ∀ (i : Nat) (o : Ob) (v : Value), ps[i]? = some (o, v) → (∃ t n cs, o = .row t n cs false ∧ ∃ ti vs, C.ty t = some ti ∧ 0 < ti.size ∧ w'.ownsRow 0 t ti.size v n vs ∧ RlL [] (Ok N (A ++ ps.map (·.2)) (obs ++ ps.map (·.1)) w') w' cs vs ∧ ∀ x ∈ vs, x.oneCell' = true) ∨ ∃ t n cs, o = .nrow [] t n cs ∧ NRow C [] w' [] t n cs v) :
    After C N s0 n0 A obs w (A ++ ps.map (·.2)) (obs ++ ps.map (·.1)) w' := by
  have pre : ∀ (id : Nat) (x : Value), A[id]? = some x → (A ++ ps.map (·.2))[id]? = some x := fun id x hx => by
    rw [List.getElem?_append_left (List.getElem?_eq_some_iff.1 hx).1]; exact hx
  have split : ∀ (id : Nat) (o' : Ob) (v' : Value), (obs ++ ps.map (·.1))[id]? = some o' → (A ++ ps.map (·.2))[id]? = some v' → (obs[id]? = some o' ∧ A[id]? = some v') ∨ (obs.length ≤ id ∧ ps[id - obs.length]? = some (o', v')) := by
    intro id o' v' h1 h2
    by_cases hid : id < obs.length
    · rw [List.getElem?_append_left hid] at h1
      rw [List.getElem?_append_left (by rw [h.len]; exact hid)] at h2
      exact .inl ⟨h1, h2⟩
    · rw [List.getElem?_append_right (by omega), List.getElem?_map] at h1
      rw [List.getElem?_append_right (by rw [h.len]; omega), List.getElem?_map, h.len] at h2
      refine .inr ⟨by omega, ?_⟩
      cases hp : ps[id - obs.length]? with
      | none => rw [hp] at h1; simp at h1
      | some p =>
        rw [hp] at h1 h2
        simp at h1 h2
        rw [← h1, ← h2]
  have aE := h.ext w' hs hk ho ht hu
  have hE := aE.st
  have hok : ∀ b, Ok N A obs w b → Ok N (A ++ ps.map (·.2)) (obs ++ ps.map (·.1)) w' b := fun b k => ⟨Nat.lt_of_lt_of_le k.lt hs, k.notN, fun id o' v' h1 h2 h3 h4 => by
    rcases split id o' v' h1 h2 with ⟨h5, h6⟩ | ⟨_, hp⟩
    · exact (aE.mono.grow b k).apart id o' v' h5 h6 h3 h4
    · have := (hb _ o' v' b hp h4).1; have := k.lt; omega⟩
  have hm : Mono (Ok N A obs w) (Ok N (A ++ ps.map (·.2)) (obs ++ ps.map (·.1)) w') A (A ++ ps.map (·.2)) w w' := ⟨pre, hok, fun b k => hk b k.lt⟩
  have hone : ∀ (id : Nat) (y : Value), (A ++ ps.map (·.2))[id]? = some y → Place y := fun id y hy => by
    by_cases hid : id < A.length
    · rw [List.getElem?_append_left hid] at hy; exact h.one id y hy
    · rw [List.getElem?_append_right (by omega), List.getElem?_map] at hy
      cases hp : ps[id - A.length]? with
      | none => rw [hp] at hy; simp at hy
      | some p =>
        rw [hp] at hy; simp at hy
        rcases hrow _ p.1 p.2 hp with ⟨t, n, cs, _, ti, vs, _, _, hown, _⟩ | ⟨t, n, cs, _, ti, _, _, hown, _⟩
        · rw [← hy]; exact Place.of_own hown
        · rw [← hy]; exact Place.of_own hown
  refine ⟨⟨by simp [h.len], Nat.le_trans h.base hs, hone, ?_, ?_, ?_, ?_, ?_⟩, hm, fun b hb _ => hk b hb, ?_, hs, ho, ht, hu⟩
  · intro id t cs sh v' h1 h2
    rcases split id _ v' h1 h2 with ⟨h5, h6⟩ | ⟨_, hp⟩
    · obtain ⟨g, cur, e, hg, hl, h1⟩ := h.box id t cs sh v' h5 h6
      exact ⟨g, cur, e, by rw [hk g (Array.getElem?_eq_some_iff.1 hg).1]; exact hg, BoxR.mono hm cs hl, h1⟩
    · rcases hrow _ _ _ hp with ⟨_, _, _, e, _⟩ | ⟨_, _, _, e, _⟩ <;> cases e
  · intro id t n cs sh v' h1 h2
    rcases split id _ v' h1 h2 with ⟨h5, h6⟩ | ⟨_, hp⟩
    · obtain ⟨ti, vs, ht, hp, hown, hl, h1⟩ := h.row id t n cs sh v' h5 h6
      exact ⟨ti, vs, ht, hp, ownsRow_keep hown (fun b hb' => hk b (h.block_lt h5 rfl h6 hb')), RlL.mono hm.nil cs hl, h1⟩
    · rcases hrow _ _ _ hp with ⟨t1, n1, cs1, e, ti, vs, h3, h4, h5, h6, h7⟩ | ⟨_, _, _, e, _⟩
      · cases e
        exact ⟨ti, vs, h3, h4, h5, h6, h7⟩
      · cases e
  · intro id h0 t n cs v' h1 h2
    rcases split id _ v' h1 h2 with ⟨h5, h6⟩ | ⟨_, hp⟩
    · exact (h.nrow id h0 t n cs v' h5 h6).same pre fun b hb' => hk b (h.foot_lt h5 rfl h6 hb')
    · rcases hrow _ _ _ hp with ⟨_, _, _, e, _⟩ | ⟨_, _, _, e, q⟩
      · cases e
      · cases e; exact q.nil
  · intro i j o1 o2 v1 v2 b h1 h2 g1 g2 h3 h4 h5 h6
    rcases split i _ _ h1 h3 with ⟨a1, a2⟩ | ⟨a1, a2⟩
    · rcases split j _ _ h2 h4 with ⟨b1, b2⟩ | ⟨b1, b2⟩
      · exact hE.inj i j o1 o2 v1 v2 b a1 b1 g1 g2 a2 b2 h5 h6
      · have := h.foot_old hk a1 g1 a2 h5; have := (hb _ _ _ b b2 h6).1; omega
    · rcases split j _ _ h2 h4 with ⟨b1, b2⟩ | ⟨b1, b2⟩
      · have := h.foot_old hk b1 g2 b2 h6; have := (hb _ _ _ b a2 h5).1; omega
      · have := hd _ _ _ _ _ _ b a2 b2 h5 h6; omega
  · intro id o' v' b h0 h1 g h2 h3
    rcases split id _ _ h1 h2 with ⟨a1, a2⟩ | ⟨a1, a2⟩
    · exact hE.new id o' v' b h0 a1 g a2 h3
    · have q := hb _ _ _ b a2 h3; have := h.base; exact ⟨by omega, q.2⟩
  · rintro b hb' ⟨id, o', v', h1, h2, h3, h4⟩
    rcases split id _ _ h1 h2 with ⟨a1, a2⟩ | ⟨a1, a2⟩
    · exact aE.opens b hb' ⟨id, o', v', a1, a2, h3, h4⟩
    · have := (hb _ _ _ b a2 h4).1; omega
theorem OwnP.get {sh : Bool} : ∀ {ps : List (Ob × Value)} {ids : List Nat}, OwnP C A1 obsF sh ps ids → ids.Nodup → (∀ (i : Nat) (o : Ob) (v : Value), ps[i]? = some (o, v) → (∃ e te, C.ty e = some te ∧ 0 < te.size ∧ (o = .row e 0 [] false ∨ o = .nrow [] e 0 []) ∧ v = .slice none 0 0) ∨
      ∃ id e n c, id ∈ ids ∧ (o = .row e n c false ∧ (sh = true ∨ c.all flatV = true) ∨ o = .nrow [] e n c) ∧ obsF[id]? = some o ∧ A1[id]? = some v) ∧
    (∀ (i j : Nat) (o o' : Ob) (v v' : Value), ps[i]? = some (o, v) → ps[j]? = some (o', v') → (∃ b, blockOf v = some b) → (∃ b, blockOf v' = some b) → (∀ id id' : Nat, obsF[id]? = some o → obsF[id']? = some o' → A1[id]? = some v → A1[id']? = some v' → id = id') → i = j)
  | [], ids, _, _ => ⟨fun i o v h => by simp at h, fun i j o o' v v' h => by simp at h⟩
  | (o0, v0) :: ps, ids, hp, hnd => by
    simp only [OwnP] at hp
    rcases hp with ⟨e, te, h1, h2, h0, rfl, hp⟩ | ⟨id, ids', e, n, c, rfl, h0, h1, h2, hp⟩
    · obtain ⟨q1, q2⟩ := hp.get hnd
      refine ⟨fun i o v h => ?_, fun i j o o' v v' h h' hb hb' hinj => ?_⟩
      · cases i with
        | zero => simp at h; exact .inl ⟨e, te, h1, h2, by rw [← h.1]; exact h0, h.2.symm⟩
        | succ i => exact q1 i o v (by simpa using h)
      · cases i with
        | zero => simp at h; obtain ⟨b, hb⟩ := hb; rw [← h.2] at hb; simp [blockOf] at hb
        | succ i =>
          cases j with
          | zero => simp at h'; obtain ⟨b, hb⟩ := hb'; rw [← h'.2] at hb; simp [blockOf] at hb
          | succ j => rw [q2 i j o o' v v' (by simpa using h) (by simpa using h') hb hb' hinj]
    · obtain ⟨hni, hnd'⟩ := List.nodup_cons.1 hnd
      obtain ⟨q1, q2⟩ := hp.get hnd'
      have other : ∀ (j : Nat) (o' : Ob) (v' : Value), ps[j]? = some (o', v') → (∃ b, blockOf v' = some b) → ∃ id', id' ∈ ids' ∧ obsF[id']? = some o' ∧ A1[id']? = some v' := by
        intro j o' v' h hb
        rcases q1 j o' v' h with ⟨_, _, _, _, _, e⟩ | ⟨id', _, _, _, m, _, e1, e2⟩
        · obtain ⟨b, hb⟩ := hb; rw [e] at hb; simp [blockOf] at hb
        · exact ⟨id', m, e1, e2⟩
      refine ⟨fun i o v h => ?_, fun i j o o' v v' h h' hb hb' hinj => ?_⟩
      · cases i with
        | zero => simp at h; exact .inr ⟨id, e, n, c, by simp, by rw [← h.1]; exact h0, by rw [← h.1]; exact h1, by rw [← h.2]; exact h2⟩
        | succ i =>
          rcases q1 i o v (by simpa using h) with k | ⟨id', e', n', c', m, k⟩
          · exact .inl k
          · exact .inr ⟨id', e', n', c', by simp [m], k⟩
      · cases i with
        | zero =>
          cases j with
          | zero => rfl
          | succ j =>
            obtain ⟨id', m, e1, e2⟩ := other j o' v' (by simpa using h') hb'
            simp at h
            have := hinj id id' (by rw [← h.1]; exact h1) e1 (by rw [← h.2]; exact h2) e2
            subst this; exact absurd m hni
        | succ i =>
          cases j with
          | zero =>
            obtain ⟨id', m, e1, e2⟩ := other i o v (by simpa using h) hb
            simp at h'
            have := hinj id' id e1 (by rw [← h'.1]; exact h1) e2 (by rw [← h'.2]; exact h2)
            subst this; exact absurd m hni
          | succ j => rw [q2 i j o o' v v' (by simpa using h) (by simpa using h') hb hb' hinj]
theorem leavesAll_some : ∀ (ts : List Nat) {K : List Leaf → Option α}, leavesAll C ts K = some r → ∃ ls, lvs C ts = some ls ∧ K ls = some r
  | [], K, h => ⟨[], rfl, by simpa [leavesAll] using h⟩
  | t :: ts, K, h => by
    simp only [leavesAll] at h
    replace h := need_some h
    obtain ⟨ti, ht, h⟩ := h
    obtain ⟨ls, hl, h⟩ := leavesAll_some ts h
    exact ⟨_, by simp [lvs, ht, hl], h⟩
theorem callM_sound {call : CallT} (hcall : CallOk P C call) {f : Nat} {args : List V} {K : V → Obs → Option α} {vals : Array Value}
    (hS : St C N s0 0 A obs w) (hN : ∀ b, w.heap.size ≤ b → ¬ N b) (hl : RlL A (Ok N A obs w) w args vals.toList) (h : callM C call f args obs K = some r) :
    Enters P f ∧ Calls P f vals w (fun en w' => ∃ vv, en = .returned vv ∧ Post C N s0 0 A obs w K r vv w') := by
  unfold callM at h
  replace h := need_some h
  obtain ⟨fn, _, h⟩ := h
  obtain ⟨xs, h, hxs⟩ := lendArgs_sound (ids := lendIds obs args) hS _ args _ hl (fun _ h => h) h
  replace h := need_some h
  obtain ⟨rv, hrv, h⟩ := h
  have aS := shutAll_after (lendIds obs args) hS
  have hS' : St C (fun b => b < w.heap.size ∧ ¬ Ok N A (shutAll obs (lendIds obs args)) w b) w.heap.size 0 [] [] w :=
    ⟨rfl, Nat.le_refl _, fun _ _ h => by simp at h, fun _ _ _ _ _ h => by simp at h, fun _ _ _ _ _ _ h => by simp at h, fun _ _ _ _ _ _ h => by simp at h, fun _ _ _ _ _ _ _ h => by simp at h, fun _ _ _ _ _ h => by simp at h⟩
  obtain ⟨hent, hc⟩ := hcall V f xs [] _ rv _ w.heap.size [] w vals hrv hS' (fun b hb hc => by omega)
    (RlL.mono ⟨fun _ _ h => h, fun b k => ⟨k.lt, fun hh => hh.2 k, fun _ _ _ h => by simp at h⟩, fun _ _ => rfl⟩ xs hxs)
  refine ⟨hent, Calls.mono hc ?_⟩
  rintro en w' ⟨vv, rfl, v, obs1, A1, hg, aC, hv⟩
  refine ⟨vv, rfl, ?_⟩
  have hold : ∀ b, b < w.heap.size → w'.heap[b]? = w.heap[b]? := fun b hb => aC.frame b hb (fun ⟨_, _, _, h, _⟩ => by simp at h)
  generalize hX : (bif sharesAny C fn.resultTypes.toList (C.own f) then shutAll obs (lendIds obs args) else obs) = obsX at h
  have aX : After C N s0 0 A obs w A obsX w := by
    rw [← hX]
    cases sharesAny C fn.resultTypes.toList (C.own f) with
    | true => exact aS
    | false => exact After.refl hS
  have hlenX : 0 ≤ obsX.length := Nat.zero_le _
  unfold giveRes at hg
  unfold takeRes at h
  cases hbig : bigRes C fn.resultTypes.toList with
  | true =>
    rw [hbig] at hg h
    simp only [cond_true] at hg h
    replace hg := asAgg_some hg
    obtain ⟨cs, e, hg⟩ := hg
    have e : v = .agg cs := by simpa using e
    subst e
    obtain ⟨hflat, hg⟩ := must_some hg
    have hg : rv = .agg cs := by simpa using hg.symm
    subst hg
    replace h := asAgg_some h
    obtain ⟨cs', e, h⟩ := h
    have e : cs = cs' := by simpa using e
    subst e
    have aP := aX.st.pushes hlenX [] w' aC.size hold aC.os aC.tape aC.output (fun _ _ _ _ h => by simp at h) (fun _ _ _ _ _ _ _ h => by simp at h) (fun _ _ _ h => by simp at h)
    simp only [List.map_nil, List.append_nil] at aP
    refine ⟨_, _, _, h, aX.trans aP, ?_⟩
    simp only [Rl] at hv ⊢
    obtain ⟨arr, rfl, hl1, ho⟩ := hv
    exact ⟨arr, rfl, hl1.flat hflat, ho⟩
  | false =>
    rw [hbig] at hg h
    simp only [cond_false] at hg h
    obtain ⟨cs, fl, hg, hcs, hdec⟩ := resCells_sound hv hg
    obtain ⟨ls, hls, hg⟩ := leavesAll_some _ hg
    obtain ⟨xs', obsF, ids, hg, aG, _, _, hnd, hgl⟩ := giveLeaves_sound ls (C.own f) cs fl [] aC.st hcs hg
    have hg : rv = .tup xs' := by simpa using hg.symm
    subst hg
    replace h := asTup_some h
    obtain ⟨cs', e, h⟩ := h
    have e : xs' = cs' := by simpa using e
    subst e
    obtain ⟨ls', hls', h⟩ := leavesAll_some _ h
    rw [hls] at hls'; cases hls'
    obtain ⟨ys, ps, h, hps, hys⟩ := takeLeaves_sound ls (C.own f) xs' xs' fl ids 0 hgl (by simp) h
    have hshX : shares C ls (C.own f) = true → obsX = shutAll obs (lendIds obs args) := fun hs => by
      rw [← hX]
      simp [sharesAny, hbig, hls, hs]
    have aF := aC.trans aG
    obtain ⟨q1, q2⟩ := hps.get hnd
    have gone : ∀ {i : Nat} {o : Ob} {v : Value}, ps[i]? = some (o, v) → o.isGone = false ∧ o.isOpen = true := fun hp => by
      rcases q1 _ _ _ hp with ⟨_, _, _, _, e | e, _⟩ | ⟨_, _, _, _, _, ⟨e, _⟩ | e, _⟩ <;> rw [e] <;> exact ⟨rfl, rfl⟩
    have given : ∀ {i : Nat} {o : Ob} {v : Value} {b : Nat}, ps[i]? = some (o, v) → foot w' o v b → ∃ id, obsF[id]? = some o ∧ A1[id]? = some v := fun hp hf => by
      rcases q1 _ _ _ hp with ⟨_, _, _, _, _, e⟩ | ⟨id, e, n, c, _, e1, e2, e3⟩
      · obtain ⟨b', hb'⟩ := foot_block' hf; rw [e] at hb'; simp [blockOf] at hb'
      · exact ⟨id, e2, e3⟩
    have hfresh : ∀ (i : Nat) (o : Ob) (v : Value) (b : Nat), ps[i]? = some (o, v) → foot w' o v b → w.heap.size ≤ b := by
      intro i o v b hp hb
      obtain ⟨id, e2, e3⟩ := given hp hb
      exact (aG.st.new id o v b (.inl (Nat.zero_le _)) e2 (gone hp).1 e3 hb).1
    have hok : shares C ls (C.own f) = true → ∀ b, Ok (fun b => b < w.heap.size ∧ ¬ Ok N A (shutAll obs (lendIds obs args)) w b) A1 obsF w' b → Ok N (A ++ ps.map (·.2)) (obsX ++ ps.map (·.1)) w' b := by
      intro hs b k
      have old : b < w.heap.size → Ok N A obsX w b := fun hb => by
        rw [hshX hs]
        exact Classical.byContradiction fun hc => k.notN ⟨hb, hc⟩
      refine ⟨k.lt, ?_, fun id o v h1 h2 h3 h4 => ?_⟩
      · rcases Nat.lt_or_ge b w.heap.size with hb | hb
        · exact (old hb).notN
        · exact hN b hb
      · by_cases hid : id < obsX.length
        · rw [List.getElem?_append_left hid] at h1
          rw [List.getElem?_append_left (by rw [aX.st.len]; exact hid)] at h2
          have hb := aX.st.foot_old hold h1 (open_gone h3) h2 h4
          exact (old hb).apart id o v h1 h2 h3 ((foot_same (fun b hb => hold b (aX.st.foot_lt h1 (open_gone h3) h2 hb)) _).1 h4)
        · rw [List.getElem?_append_right (by omega), List.getElem?_map] at h1
          rw [List.getElem?_append_right (by rw [aX.st.len]; omega), List.getElem?_map, aX.st.len] at h2
          cases hp : ps[id - obsX.length]? with
          | none => rw [hp] at h1; simp at h1
          | some p =>
            rw [hp] at h1 h2
            simp at h1 h2
            rw [← h1, ← h2] at h4
            obtain ⟨i', e2, e3⟩ := given hp h4
            exact k.apart i' p.1 p.2 e2 e3 (gone hp).2 h4
    have aP := aX.st.pushes hlenX ps w' aC.size hold aC.os aC.tape aC.output (fun i o v b hp hb => ⟨hfresh i o v b hp hb, hN b (hfresh i o v b hp hb)⟩)
      (fun i j o o' v v' b hp hp' hb hb' => q2 i j o o' v v' hp hp' (foot_block' hb) (foot_block' hb') (fun id id' e1 e2 e3 e4 =>
        aG.st.inj id id' o o' v v' b e1 e2 (gone hp).1 (gone hp').1 e3 e4 hb hb'))
      (fun i o v hp => by
        rcases q1 i o v hp with ⟨e, te, h1, h2, rfl | rfl, rfl⟩ | ⟨id, e, n, c, _, ⟨rfl, e4⟩ | rfl, e2, e3⟩
        · exact .inl ⟨e, 0, [], rfl, te, [], h1, h2, ⟨by simp, .inl ⟨rfl, rfl⟩⟩, by simp [RlL], by simp⟩
        · exact .inr ⟨e, 0, [], rfl, NRow_nil h1 h2⟩
        · obtain ⟨ti, vs, h1, h2, h3, h4, h5⟩ := aG.st.row id e n c false v e2 e3
          refine .inl ⟨e, n, c, rfl, ti, vs, h1, h2, h3, ?_, h5⟩
          rcases e4 with hs | hf
          · exact RlL.mono ⟨fun _ _ h => h, hok hs, fun _ _ => rfl⟩ c h4
          · exact h4.flat hf
        · exact .inr ⟨e, n, c, rfl, (aG.st.nrow id [] e n c v e2 e3).nil⟩)
    have hR := hys A (Ok N (A ++ ps.map (·.2)) (obsX ++ ps.map (·.1)) w') aX.st.len hok
    obtain ⟨v', h, hv'⟩ := groupRes_sound hdec hR h
    exact ⟨v', _, _, h, aX.trans aP, hv'⟩
end
end Go.PI
