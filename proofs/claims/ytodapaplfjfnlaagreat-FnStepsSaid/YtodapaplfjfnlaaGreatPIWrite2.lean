/-
  PI: a call that is handed objects of the caller's: what it comes to.
-/
import Derived.Test.YtodapaplfjfnlaaGreatPIWrite
namespace Go.PI
open Go
set_option linter.unusedVariables false
set_option linter.unusedSimpArgs false
section
variable {P : Program} {C : Cfg} {N : Nat → Prop} {s0 n0 : Nat} {A A' A1 AP : List Value} {obs obs' obs1 : Obs} {w w' : World} {α : Type} {r : α}
set_option maxHeartbeats 4000000 in
theorem callX_sound (hC : CfgOk P C) {call : CallT} (hcall : CallOk P C call) {mode keep : Bool} {f : Nat} {args : List V} {K : V → Obs → Option α} {vals : Array Value}
    (hS : St C N s0 0 A obs w) (hN : ∀ b, w.heap.size ≤ b → ¬ N b) (hl : RlL A (Ok N A obs w) w args vals.toList) (h : callX C call mode keep f args obs K = some r) :
    Enters P f ∧ Calls P f vals w (fun en w' => ∃ vv, en = .returned vv ∧ Post C N s0 0 A obs w K r vv w') := by
  unfold callX at h
  replace h := need_some h
  obtain ⟨fn, _, h⟩ := h
  rw [forceN0_eq] at h
  generalize reach C obs 60 [] (bif mode then argIds args else ptrIds args) = X at h
  obtain ⟨hb, h⟩ := must_some h
  simp only [Bool.and_eq_true] at hb
  rw [forceN0_eq] at h
  generalize hlent : (bif mode then [] else lendIds obs (noPtrs args)) = lent at h
  obtain ⟨hap, h⟩ := must_some h
  have hnd := nodupN_iff X hb.1.1
  have hlt := allLt_iff obs.length X hb.1.2
  have hopen := allOpenX_iff X hb.2
  have hap := apartN_iff lent hap
  have hltA : ∀ x ∈ X, x < A.length := fun x hx => by rw [hS.len]; exact hlt x hx
  have aS := shutAll_after lent hS
  have xinj : ∀ j j' i, X[j]? = some i → X[j']? = some i → j = j' := fun j j' i h1 h2 =>
    (List.getElem_inj hnd (h₀ := (List.getElem?_eq_some_iff.1 h1).1) (h₁ := (List.getElem?_eq_some_iff.1 h2).1)).1 (by
      rw [(List.getElem?_eq_some_iff.1 h1).2, (List.getElem?_eq_some_iff.1 h2).2])
  have back : ∀ (j : Nat) (o' : Ob) (v : Value), (renObs C X (pick obs X))[j]? = some o' → (picked A X)[j]? = some v → ∃ i o, X[j]? = some i ∧ obs[i]? = some o ∧ A[i]? = some v ∧ o' = renOb C X o := by
    intro j o' v h1 h2
    rw [renObs_get, pick_get] at h1
    cases hj : X[j]? with
    | none => rw [hj] at h1; simp at h1
    | some i =>
      rw [hj] at h1
      have hi := hlt i (List.mem_of_getElem? hj)
      simp only [Option.map_some, List.getElem?_eq_getElem hi, Option.getD_some, Option.some.injEq] at h1
      exact ⟨i, obs[i], rfl, List.getElem?_eq_getElem hi, by rw [← picked_get hltA hj]; exact h2, h1.symm⟩
  generalize hsub : renObs C X (pick obs X) = sub at h back
  have hsublen : sub.length = X.length := by rw [← hsub, renObs_length, pick_length]
  have forth : ∀ (j i : Nat) (o : Ob), X[j]? = some i → obs[i]? = some o → sub[j]? = some (renOb C X o) := by
    intro j i o hj ho
    rw [← hsub, renObs_get, pick_get, hj]
    simp [ho]
  have rfoot : ∀ {o : Ob} {v : Value} {b : Nat}, foot w (renOb C X o) v b → foot w o v b := fun {o v b} hf => by
    rcases renOb_cases (C := C) X o with e | e | ⟨t, cs, cs', sh, e1, e2⟩
    · rw [e] at hf; exact hf
    · rw [e] at hf; exact .inl ((foot_flat rfl).1 hf)
    · rw [e2] at hf; exact .inl ((foot_flat rfl).1 hf)
  let N' : Nat → Prop := fun b => b < w.heap.size ∧ ¬ Ok N A (shutAll obs lent) w b ∧ ¬ ∃ i o v, i ∈ X ∧ obs[i]? = some o ∧ A[i]? = some v ∧ foot w o v b
  have hokS : ∀ b, Ok N A (shutAll obs lent) w b → Ok N' (picked A X) sub w b := fun b k => ⟨k.lt, fun hn => hn.2.1 k, fun j o' v h1 h2 h3 h4 => by
    obtain ⟨i, o, hj, ho, hv, rfl⟩ := back j o' v h1 h2
    have hi := List.mem_of_getElem? hj
    exact k.apart i o v (by rw [shutAll_ne lent (fun hm => hap i hm hi)]; exact ho) hv (renOb_open (C := C) X o h3) (rfoot h4)⟩
  have hok : ∀ b, Ok N A obs w b → Ok N' (picked A X) sub w b := fun b k => hokS b (aS.mono.grow b k)
  have hM : Mono (Ok N A obs w) (Ok N' (picked A X) sub w) [] [] w w := ⟨fun _ _ h => h, hok, fun _ _ => rfl⟩
  have hS' : St C N' 0 0 (picked A X) sub w := by
    refine ⟨by rw [hsublen]; simp [picked], Nat.zero_le _, ?_, ?_, ?_, ?_, ?_, ?_⟩
    · intro j v hv
      cases hj : X[j]? with
      | none => simp [picked, hj] at hv
      | some i => rw [picked_get hltA hj] at hv; exact hS.one i v hv
    · intro j t cs sh v h1 h2
      obtain ⟨i, o, hj, ho, hv, e3⟩ := back j _ v h1 h2
      cases o with
      | gone => simp [renOb] at e3
      | row => simp [renOb] at e3
      | nrow h0 => cases h0 <;> simp [renOb] at e3
      | box t0 cs0 sh0 =>
        simp only [renOb] at e3
        obtain ⟨g, cur, ev, hg, hl, ho1⟩ := hS.box i t0 cs0 sh0 v ho hv
        cases ht : C.ty t0 with
        | none => rw [ht] at e3; cases e3
        | some ti =>
          rw [ht] at e3
          dsimp only at e3
          cases hs : hasSl ti.leaves with
          | true =>
            rw [hs] at e3; simp only [cond_true, Ob.box.injEq] at e3
            obtain ⟨rfl, rfl, rfl⟩ := e3
            exact ⟨g, cur, ev, hg, ⟨renCells_sound hltA hok hl.1, fun ti' h3 h4 => by rw [ht] at h3; cases h3; rw [hs] at h4; cases h4⟩, ho1⟩
          | false =>
            rw [hs] at e3; simp only [cond_false, Ob.box.injEq] at e3
            obtain ⟨rfl, rfl, rfl⟩ := e3
            have h0 := RlL.mono hM cs (hl.2 ti ht hs)
            exact ⟨g, cur, ev, hg, ⟨h0.lift, fun _ _ _ => h0⟩, ho1⟩
    · intro j t n cs sh v h1 h2
      obtain ⟨i, o, hj, ho, hv, e3⟩ := back j _ v h1 h2
      have e4 : o = .row t n cs sh := by
        cases o with
        | gone => simp [renOb] at e3
        | row => simp [renOb] at e3; simp [e3]
        | nrow h0 => cases h0 <;> simp [renOb] at e3
        | box t0 cs0 sh0 =>
          simp only [renOb] at e3
          split at e3
          · cases hs : hasSl _ <;> rw [hs] at e3 <;> cases e3
          · cases e3
      subst e4
      obtain ⟨ti, vs, ht, hp, hown, hr, ho1⟩ := hS.row i t n cs sh v ho hv
      exact ⟨ti, vs, ht, hp, hown, RlL.mono hM cs hr, ho1⟩
    · intro j h0 t n cs v h1 h2
      obtain ⟨i, o, hj, ho, hv, e3⟩ := back j _ v h1 h2
      have e4 : o = .nrow h0 t n cs ∧ h0 = [] := by
        cases o with
        | gone => simp [renOb] at e3
        | row => simp [renOb] at e3
        | nrow h1 => cases h1 with
          | nil => simp [renOb] at e3; simp [e3]
          | cons => simp [renOb] at e3
        | box t0 cs0 sh0 =>
          simp only [renOb] at e3
          split at e3
          · cases hs : hasSl _ <;> rw [hs] at e3 <;> cases e3
          · cases e3
      obtain ⟨rfl, rfl⟩ := e4
      exact (hS.nrow i [] t n cs v ho hv).nil
    · intro j j' o1 o2 v1 v2 b h1 h2 g1 g2 h3 h4 h5 h6
      obtain ⟨i, p1, q1, q2, q3, rfl⟩ := back j o1 v1 h1 h3
      obtain ⟨i', p2, q1', q2', q3', rfl⟩ := back j' o2 v2 h2 h4
      have := hS.inj i i' p1 p2 v1 v2 b q2 q2' (renOb_gone (C := C) X _ g1) (renOb_gone (C := C) X _ g2) q3 q3' (rfoot h5) (rfoot h6)
      subst this
      exact xinj j j' i q1 q1'
    · intro j o' v b _ h1 hg h2 h3
      obtain ⟨i, o, hj, ho, hv, rfl⟩ := back j o' v h1 h2
      exact ⟨Nat.zero_le _, fun hn => hn.2.2 ⟨i, o, v, List.mem_of_getElem? hj, ho, hv, rfoot h3⟩⟩
  obtain ⟨xs, h, hxs⟩ := lendX_sound hS hltA hok hokS args fn.params.toList vals.toList hl (fun hm id hid => by rw [← hlent, hm]; exact hid) h
  rw [forceN0_eq] at h
  generalize (bif mode && keep then dirIdx (argIds args) X 0 else []) = D at h
  replace h := need_some h
  obtain ⟨rv, hrv, h⟩ := h
  obtain ⟨hent, hc⟩ := hcall V f xs sub _ rv N' 0 (picked A X) w vals hrv hS' (fun b hb hn => by have := hn.1; omega) hxs
  refine ⟨hent, Calls.mono hc ?_⟩
  rintro en w' ⟨vv, rfl, v, obs1, A1, hg, aC, hv⟩
  refine ⟨vv, rfl, ?_⟩
  unfold finX at hg
  obtain ⟨cs, fl, hg, hcs, hdec⟩ := resCells_sound hv hg
  obtain ⟨ls, hls, hg⟩ := leavesAll_some _ hg
  obtain ⟨bs, hg, hbs⟩ := bCells_some _ 0 hg
  have hA1len : sub.length ≤ A1.length := by rw [aC.st.len]; exact aC.n0_le hS'
  obtain ⟨bfl, hbfl, hms⟩ := BS.rl aC.st _ 0 bs (by rw [shape_length]; omega) hbs
  obtain ⟨xs', obsF, ids, hg, aG, hgv, _, hndi, hgl⟩ := giveLeaves_sound _ _ (cs ++ bs) (fl ++ bfl) (bIds 0 (shape sub)) aC.st (hcs.append hbfl) hg
  have hg : rv = .tup xs' := by simpa using hg.symm
  subst hg
  replace h := asTup_some h
  obtain ⟨cs', e, h⟩ := h
  have e : xs' = cs' := by simpa using e
  subst e
  obtain ⟨ls', hls', h⟩ := leavesAll_some _ h
  rw [hls] at hls'; cases hls'
  generalize hLS : ls ++ bLeaves C D 0 (shape sub) = LS at h hgl
  generalize hOW : padOwn ls (C.own f) ++ bOwn C D 0 (shape sub) = OW at h hgl
  generalize hX : (bif shares C LS OW then shutAll obs lent else obs) = obsX at h
  obtain ⟨ys, ps, h, hps, hys⟩ := takeLeaves_sound LS OW xs' xs' (fl ++ bfl) ids 0 hgl (by simp) h
  have aX : After C N s0 0 A obs w A obsX w := by
    rw [← hX]
    cases shares C LS OW with
    | true => exact aS
    | false => exact After.refl hS
  have hshX : shares C LS OW = true → obsX = shutAll obs lent := fun hs => by rw [← hX, hs]; rfl
  have hXlen : obsX.length = obs.length := by rw [← aX.st.len, hS.len]
  have oX : ∀ i ∈ X, obsX[i]? = obs[i]? := fun i hi => by
    rw [← hX]
    cases shares C LS OW with
    | true => exact shutAll_ne lent (fun hm => hap i hm hi)
    | false => rfl
  have oXopen : ∀ (i : Nat) (o : Ob), obsX[i]? = some o → ∃ o0, obs[i]? = some o0 ∧ (o.isOpen = true → o = o0) ∧ (o.isGone = false → o0.isGone = false) := fun i o ho => by
    rw [← hX] at ho
    cases hs : shares C LS OW with
    | true => rw [hs] at ho; exact shutAll_open lent ho
    | false => rw [hs] at ho; exact ⟨o, ho, fun _ => rfl, fun h => h⟩
  obtain ⟨q1, q2⟩ := hps.get hndi
  have preV : ∀ (p i : Nat), X[p]? = some i → ∀ v, A[i]? = some v → A1[p]? = some v := fun p i hp v hv => aC.mono.pre p v (by rw [picked_get hltA hp]; exact hv)
  have openS : ∀ b, Open w (picked A X) sub b → ∃ i o v, i ∈ X ∧ obs[i]? = some o ∧ o.isOpen = true ∧ A[i]? = some v ∧ foot w o v b := by
    rintro b ⟨j, o', v, h1, h2, h3, h4⟩
    obtain ⟨i, o, hj, ho, hv, rfl⟩ := back j o' v h1 h2
    exact ⟨i, o, v, List.mem_of_getElem? hj, ho, renOb_open (C := C) X o h3, hv, rfoot h4⟩
  have ogone : ∀ {o : Ob}, o.isOpen = true → o.isGone = false := fun {o} h => open_gone h
  have same : ∀ (i : Nat) (o : Ob) (v : Value) (b : Nat), i ∉ X → obs[i]? = some o → o.isGone = false → A[i]? = some v → foot w o v b → w'.heap[b]? = w.heap[b]? := fun i o v b hi h1 h2 h3 h4 => by
    refine aC.frame b (hS.foot_lt h1 h2 h3 h4) fun hop => ?_
    obtain ⟨i', o', v', hm, ho', hop', hv', hb'⟩ := openS b hop
    have := hS.inj i i' o o' v v' b h1 ho' h2 (ogone hop') h3 hv' h4 hb'
    subst this; exact hi hm
  have pob : ∀ {q : Nat} {o : Ob} {v : Value}, ps[q]? = some (o, v) → o.isOpen = true := fun hp => by
    rcases q1 _ _ _ hp with ⟨_, _, _, _, e | e, _⟩ | ⟨_, _, _, _, _, ⟨e, _⟩ | e, _⟩ <;> rw [e] <;> rfl
  have pblock : ∀ (q : Nat) (o : Ob) (v : Value) (b : Nat), ps[q]? = some (o, v) → foot w' o v b → (∃ id : Nat, obsF[id]? = some o ∧ A1[id]? = some v ∧ o.isOpen = true) ∧
      (w.heap.size ≤ b ∨ ∃ i o v, i ∈ X ∧ obs[i]? = some o ∧ o.isOpen = true ∧ A[i]? = some v ∧ foot w o v b) := by
    intro q o v b hp hb
    rcases q1 q o v hp with ⟨_, _, _, _, _, e⟩ | ⟨id, e, n, c, _, e1, e2, e3⟩
    · obtain ⟨b', hb'⟩ := foot_block' hb; rw [e] at hb'; simp [blockOf] at hb'
    · refine ⟨⟨id, e2, e3, pob hp⟩, ?_⟩
      rcases Nat.lt_or_ge b w.heap.size with hlt' | hge
      · exact .inr (openS b ((aC.trans aG).opens b hlt' ⟨id, o, v, e2, e3, pob hp, hb⟩))
      · exact .inl hge
  have hAPlen : (A ++ ps.map (·.2)).length = obsX.length + ps.length := by rw [List.length_append, hS.len, hXlen]; simp
  have preA : ∀ (i : Nat) (v : Value), A[i]? = some v → (A ++ ps.map (·.2))[i]? = some v := fun i v hv => by
    rw [List.getElem?_append_left (List.getElem?_eq_some_iff.1 hv).1]; exact hv
  have splitA : ∀ (i : Nat) (v : Value), i < obs.length → (A ++ ps.map (·.2))[i]? = some v → A[i]? = some v := fun i v hi hv => by
    rw [List.getElem?_append_left (by rw [hS.len]; exact hi)] at hv; exact hv
  have splitP : ∀ (i : Nat) (o : Ob) (v : Value), obs.length ≤ i → (obsX ++ ps.map (·.1))[i]? = some o → (A ++ ps.map (·.2))[i]? = some v → ps[i - obs.length]? = some (o, v) := by
    intro i o v hi h1 h2
    rw [List.getElem?_append_right (by omega), List.getElem?_map, hXlen] at h1
    rw [List.getElem?_append_right (by rw [hS.len]; omega), List.getElem?_map, hS.len] at h2
    cases hp : ps[i - obs.length]? with
    | none => rw [hp] at h1; simp at h1
    | some p =>
      rw [hp] at h1 h2
      simp at h1 h2
      rw [← h1, ← h2]
  have fbox : ∀ (p i : Nat) (t : Nat) (cs : List V) (sh : Bool), X[p]? = some i → (shape sub)[p]? = some (.box t cs sh) → ∃ cs', obsF[p]? = some (.box t cs' false) := by
    intro p i t cs sh hp hx
    have key : ∀ (h : Obs) (j : Nat) (bs : List V) (p : Nat), BS C D obs1 j h bs → h[p]? = some (.box t cs sh) → ∃ cs', obs1[j + p]? = some (.box t cs' false) := by
      intro h
      induction h with
      | nil => intro j bs p _ h2; simp at h2
      | cons o h ih =>
        intro j bs p h1 h2
        cases p with
        | zero =>
          simp at h2; subst h2
          simp only [BS] at h1
          obtain ⟨ti, cs', bs', _, ho, _⟩ := h1
          exact ⟨cs', ho⟩
        | succ p =>
          have h2 : h[p]? = some (.box t cs sh) := by simpa using h2
          rw [show j + (p + 1) = j + 1 + p by omega]
          cases o with
          | gone => simp [BS] at h1
          | box => simp only [BS] at h1; obtain ⟨_, _, bs', _, _, _, _, h1⟩ := h1; exact ih (j + 1) bs' p h1 h2
          | row =>
            simp only [BS] at h1
            rcases h1 with ⟨_, bs', _, h1⟩ | ⟨_, h1⟩
            · exact ih (j + 1) bs' p h1 h2
            · exact ih (j + 1) bs p h1 h2
          | nrow =>
            simp only [BS] at h1
            rcases h1 with ⟨_, bs', _, h1⟩ | ⟨_, h1⟩
            · exact ih (j + 1) bs' p h1 h2
            · exact ih (j + 1) bs p h1 h2
    obtain ⟨cs', hc'⟩ := key _ 0 bs p hbs hx
    rw [Nat.zero_add] at hc'
    have := bIds_mem (shape sub) 0 p t cs sh hx
    rw [Nat.zero_add] at this
    exact ⟨cs', by rw [hgv p this]; exact hc'⟩
  have same' : ∀ {i : Nat} {o : Ob} {v : Value} {b : Nat}, i ∉ X → obsX[i]? = some o → o.isOpen = true → A[i]? = some v → foot w' o v b → foot w o v b := fun {i o v b} hi ho hop hv hf => by
    obtain ⟨o0, ho0, e0, _⟩ := oXopen i o ho
    have e0 := e0 hop
    subst e0
    exact (foot_same (fun b hb => same i o v b hi ho0 (ogone hop) hv hb) _).1 hf
  have sameX : ∀ {i : Nat} {o : Ob} {v : Value}, i ∉ X → obsX[i]? = some o → o.isGone = false → A[i]? = some v → ∀ b, foot w o v b → w'.heap[b]? = w.heap[b]? := fun {i o v} hi ho hg hv b hf => by
    obtain ⟨o0, ho0, e0, g0⟩ := oXopen i o ho
    cases hop : o.isOpen with
    | true =>
      have e0 := e0 hop
      subst e0
      exact same i o v b hi ho0 hg hv hf
    | false =>
      have hn : o.isN = false := Ob.isN_of hop
      exact same i o0 v b hi ho0 (g0 hg) hv (.inl ((foot_flat hn).1 hf))
  have sameX' : ∀ {i : Nat} {o : Ob} {v : Value} {b : Nat}, i ∉ X → obsX[i]? = some o → o.isGone = false → A[i]? = some v → (foot w' o v b ↔ foot w o v b) := fun hi ho hg hv => foot_same (fun b hb => sameX hi ho hg hv b hb) _
  have hokF : ∀ (okT : Obs), (∀ (i : Nat) (o : Ob) (v : Value) (b : Nat), okT[i]? = some o → (A ++ ps.map (·.2))[i]? = some v → o.isOpen = true → foot w' o v b →
        (i ∉ X ∧ obsX[i]? = some o ∧ A[i]? = some v) ∨ (∃ (id : Nat) (o' : Ob), obsF[id]? = some o' ∧ A1[id]? = some v ∧ o'.isOpen = true ∧ foot w' o' v b)) → shares C LS OW = true →
      ∀ b, Ok N' A1 obsF w' b → Ok N (A ++ ps.map (·.2)) okT w' b := by
    intro okT hT hs b k
    refine ⟨k.lt, ?_, fun i o v h1 h2 h3 h4 => ?_⟩
    · rcases Nat.lt_or_ge b w.heap.size with hb | hb
      · by_cases hh : ∃ i o v, i ∈ X ∧ obs[i]? = some o ∧ A[i]? = some v ∧ foot w o v b
        · obtain ⟨i, o, v, hi, ho, hv, hb'⟩ := hh
          obtain ⟨o', ho', hop⟩ := hopen i hi
          rw [ho] at ho'; cases ho'
          exact (hS.new i o v b (.inl (Nat.zero_le _)) ho (ogone hop) hv hb').2
        · exact (Classical.byContradiction fun hc => k.notN ⟨hb, fun q => hc q.notN, hh⟩)
      · exact hN b hb
    · rcases hT i o v b h1 h2 h3 h4 with ⟨hi, ho, hv⟩ | ⟨id, o', e1, e2, e3, e4⟩
      · have h4 := same' hi ho h3 hv h4
        have hbw := aX.st.foot_lt ho (ogone h3) hv h4
        by_cases hh : ∃ i o v, i ∈ X ∧ obs[i]? = some o ∧ A[i]? = some v ∧ foot w o v b
        · obtain ⟨i', o', v', hi', ho', hv', hb'⟩ := hh
          obtain ⟨o2, ho2, hop'⟩ := hopen i' hi'
          rw [ho'] at ho2; cases ho2
          have := aX.st.inj i i' o o' v v' b ho (by rw [oX i' hi']; exact ho') (ogone h3) (ogone hop') hv hv' h4 hb'
          subst this; exact hi hi'
        · refine k.notN ⟨hbw, fun q => ?_, hh⟩
          rw [← hshX hs] at q
          exact q.apart i o v ho hv h3 h4
      · exact k.apart id o' v e1 e2 e3 e4
  have hlen : ls.length = fl.length := hdec.length hC hls
  have hyl := hys A (fun b => shares C LS OW = true ∧ Ok N' A1 obsF w' b) (by rw [hS.len, hXlen]) (fun hs b k => ⟨hs, k⟩)
  obtain ⟨v', h, hv'⟩ := groupRes_sound (A := A ++ ps.map (·.2)) (ok := fun b => shares C LS OW = true ∧ Ok N' A1 obsF w' b) hdec (by
      have := hyl.take ls.length
      rwa [hlen, List.take_left, ← hlen] at this) h
  have hyd : RlL (A ++ ps.map (·.2)) (fun b => shares C LS OW = true ∧ Ok N' A1 obsF w' b) w' (ys.drop ls.length) bfl := by
    have := hyl.drop ls.length
    rwa [hlen, List.drop_left, ← hlen] at this
  obtain ⟨o3, h, hl3, hoth, hge, hfin⟩ := putB_some (o0 := obsX ++ ps.map (·.1)) X (shape sub) 0 (ys.drop ls.length) bfl _ hnd hlt (by rw [List.length_append, hXlen]; omega) (fun _ _ => .inl rfl) (by rw [shape_length, hsublen]) hyd hms h
  have kind : ∀ (i : Nat) (o : Ob) (v : Value), o3[i]? = some o → o.isGone = false → (A ++ ps.map (·.2))[i]? = some v →
      (i ∉ X ∧ obsX[i]? = some o ∧ A[i]? = some v) ∨ (∃ p x, X[p]? = some i ∧ (shape sub)[p]? = some x ∧ Fin C A1 (A ++ ps.map (·.2)) (fun b => shares C LS OW = true ∧ Ok N' A1 obsF w' b) w' obs.length (obsX ++ ps.map (·.1)) o3 p i x ∧ A[i]? = some v) ∨
      (obs.length ≤ i ∧ ps[i - obs.length]? = some (o, v)) := by
    intro i o v h1 h2 h3
    by_cases hi : i < obs.length
    · have hA := splitA i v hi h3
      by_cases hm : i ∈ X
      · obtain ⟨p, hp⟩ := List.getElem?_of_mem hm
        have hpl : p < (shape sub).length := by rw [shape_length, hsublen]; exact (List.getElem?_eq_some_iff.1 hp).1
        have hf := hfin p i _ hp (List.getElem?_eq_getElem hpl)
        rw [Nat.zero_add] at hf
        exact .inr (.inl ⟨p, _, hp, List.getElem?_eq_getElem hpl, hf, hA⟩)
      · rw [hoth i hm hi, List.getElem?_append_left (by omega)] at h1
        exact .inl ⟨hm, h1, hA⟩
    · rcases hge i (by omega) with e | e
      · rw [e] at h1
        exact .inr (.inr ⟨by omega, splitP i o v (by omega) h1 h3⟩)
      · rw [e] at h1; cases h1; simp [Ob.isGone] at h2
  have cls : ∀ (i : Nat) (o : Ob) (v : Value), o3[i]? = some o → o.isGone = false → (A ++ ps.map (·.2))[i]? = some v →
      (i ∉ X ∧ obsX[i]? = some o ∧ A[i]? = some v) ∨
      (i ∈ X ∧ A[i]? = some v ∧ ∃ (p t : Nat) (seg : List V) (g : Nat) (cur : Array Value) (cs' : List V), X[p]? = some i ∧ o = .box t seg false ∧ v = .pointer (some ⟨g, 0, none⟩) ∧ A1[p]? = some v ∧ obsF[p]? = some (.box t cs' false) ∧ w'.heap[g]? = some (.cells cur t (0, 0)) ∧ (∀ x ∈ cur.toList, x.oneCell' = true) ∧
        flatB C t seg = true ∧ RlL (A ++ ps.map (·.2)) (fun b => shares C LS OW = true ∧ Ok N' A1 obsF w' b) w' seg cur.toList) ∨
      (∃ m : Nat, obs.length ≤ m ∧ ps[m - obs.length]? = some (o, v) ∧ (m = i ∨ (i ∈ X ∧ A[i]? = some v ∧ o3[m]? = some .gone))) := by
    intro i o v h1 h2 h3
    rcases kind i o v h1 h2 h3 with h4 | ⟨p, x, hp, hx, hf, hA⟩ | ⟨h4, h5⟩
    · exact .inl h4
    · have hA1 := preV p i hp v hA
      have hi := List.mem_of_getElem? hp
      cases hf with
      | box t cs sh g cur seg h1' h2' h3' h4' h5' h6' =>
        rw [h1'] at hA1; cases hA1
        rw [h4'] at h1; cases h1
        obtain ⟨cs', hc'⟩ := fbox p i t cs sh hp hx
        exact .inr (.inl ⟨hi, hA, p, t, seg, g, cur, cs', hp, rfl, rfl, h1', hc', h2', h3', h5', h6'⟩)
      | dir _ m v0 ro h1' h2' h3' h4' h5' h6' =>
        rw [h2'] at hA1; cases hA1
        rw [h5'] at h1; cases h1
        exact .inr (.inr ⟨m, h1', splitP m _ v h1' h4' h3', .inr ⟨hi, hA, h6'⟩⟩)
      | via _ h1' => rw [h1'] at h1; cases h1; simp [Ob.isGone] at h2
    · exact .inr (.inr ⟨i, h4, h5, .inl rfl⟩)
  have hXb : ∀ {i : Nat} {v : Value} {b : Nat}, i ∈ X → A[i]? = some v → blockOf v = some b → ∃ i o v, i ∈ X ∧ obs[i]? = some o ∧ o.isOpen = true ∧ A[i]? = some v ∧ foot w o v b := fun {i v b} hi hv hb => by
    obtain ⟨o, ho, hop⟩ := hopen i hi
    exact ⟨i, o, v, hi, ho, hop, hv, .inl hb⟩
  have hokT : shares C LS OW = true → ∀ b, Ok N' A1 obsF w' b → Ok N (A ++ ps.map (·.2)) o3 w' b := hokF o3 (fun i o v b h1 h2 h3 h4 => by
    rcases cls i o v h1 (ogone h3) h2 with k | ⟨_, _, p, t, seg, g, cur, cs', _, eo, _, k1, k2, _⟩ | ⟨m, _, k1, _⟩
    · exact .inl k
    · exact .inr ⟨p, _, k2, k1, rfl, .inl ((foot_flat (by rw [eo]; rfl)).1 h4)⟩
    · obtain ⟨⟨id, e1, e2, e3⟩, _⟩ := pblock _ _ v b k1 h4
      exact .inr ⟨id, _, e1, e2, e3, h4⟩)
  have hokX : ∀ b, Ok N A obsX w b → Ok N (A ++ ps.map (·.2)) o3 w' b := fun b k => ⟨Nat.lt_of_lt_of_le k.lt aC.size, k.notN, fun i o v h1 h2 h3 h4 => by
    have inX : (∃ i o v, i ∈ X ∧ obs[i]? = some o ∧ o.isOpen = true ∧ A[i]? = some v ∧ foot w o v b) → False := fun ⟨i, o, v, hi, ho, hop, hv, hb⟩ => k.apart i o v (by rw [oX i hi]; exact ho) hv hop hb
    rcases cls i o v h1 (ogone h3) h2 with ⟨k0, k1, k2⟩ | ⟨hi, hv, _, _, _, _, _, _, _, eo, _⟩ | ⟨m, _, k1, _⟩
    · exact k.apart i o v k1 k2 h3 (same' k0 k1 h3 k2 h4)
    · exact inX (hXb hi hv ((foot_flat (by rw [eo]; rfl)).1 h4))
    · rcases (pblock _ _ v b k1 h4).2 with h5 | h5
      · have := k.lt; omega
      · exact inX h5⟩
  have hokN : ∀ b, Ok N A obsX w b → Ok N' (picked A X) sub w b := fun b k => by
    cases hs : shares C LS OW with
    | true => rw [hshX hs] at k; exact hokS b k
    | false => rw [hs] at hX; rw [← hX] at k; exact hok b k
  have hmX : Mono (Ok N A obsX w) (Ok N (A ++ ps.map (·.2)) o3 w') A (A ++ ps.map (·.2)) w w' := ⟨preA, hokX, fun b k => aC.mono.blk b (hokN b k)⟩
  have hmT : Mono (fun b => shares C LS OW = true ∧ Ok N' A1 obsF w' b) (Ok N (A ++ ps.map (·.2)) o3 w') (A ++ ps.map (·.2)) (A ++ ps.map (·.2)) w' w' := ⟨fun _ _ h => h, fun b k => hokT k.1 b k.2, fun _ _ => rfl⟩
  have rowP : ∀ (q : Nat) (o : Ob) (v : Value), ps[q]? = some (o, v) → (∃ t n cs, o = .row t n cs false ∧ ∃ ti vs, C.ty t = some ti ∧ 0 < ti.size ∧ w'.ownsRow 0 t ti.size v n vs ∧ RlL [] (Ok N (A ++ ps.map (·.2)) o3 w') w' cs vs ∧ ∀ x ∈ vs, x.oneCell' = true) ∨ ∃ t n cs, o = .nrow [] t n cs ∧ NRow C [] w' [] t n cs v := by
    intro q o v hp
    rcases q1 q o v hp with ⟨e, te, h1, h2, rfl | rfl, rfl⟩ | ⟨id, e, n, c, _, ⟨rfl, e4⟩ | rfl, e2, e3⟩
    · exact .inl ⟨e, 0, [], rfl, te, [], h1, h2, ⟨by simp, .inl ⟨rfl, rfl⟩⟩, by simp [RlL], by simp⟩
    · exact .inr ⟨e, 0, [], rfl, NRow_nil h1 h2⟩
    · obtain ⟨ti, vs, h1, h2, h3, h4, h5⟩ := aG.st.row id e n c false v e2 e3
      refine .inl ⟨e, n, c, rfl, ti, vs, h1, h2, h3, ?_, h5⟩
      rcases e4 with hs | hf
      · exact RlL.mono ⟨fun _ _ h => h, hokT hs, fun _ _ => rfl⟩ c h4
      · exact h4.flat hf
    · exact .inr ⟨e, n, c, rfl, (aG.st.nrow id [] e n c v e2 e3).nil⟩
  have pbox : ∀ {q : Nat} {o : Ob} {v : Value}, ps[q]? = some (o, v) → o.isRow = false → False := fun hp h => by
    rcases rowP _ _ _ hp with ⟨_, _, _, e, _⟩ | ⟨_, _, _, e, _⟩ <;> rw [e] at h <;> cases h
  have newX : ∀ {b : Nat}, (∃ i o v, i ∈ X ∧ obs[i]? = some o ∧ o.isOpen = true ∧ A[i]? = some v ∧ foot w o v b) → s0 ≤ b ∧ ¬ N b := fun ⟨i, o, v, _, ho, hop, hv, hb⟩ => hS.new i o v _ (.inl (Nat.zero_le _)) ho (ogone hop) hv hb
  refine ⟨v', o3, A ++ ps.map (·.2), h, ⟨⟨by rw [hl3, hAPlen, List.length_append, List.length_map], Nat.le_trans hS.base aC.size, ?_, ?_, ?_, ?_, ?_, ?_⟩, aX.mono.trans hmX, ?_, ?_, aC.size, aC.os, aC.tape, aC.output⟩, Rl.mono hmT v' hv'⟩
  · intro i y hy
    by_cases hi : i < A.length
    · rw [List.getElem?_append_left hi] at hy; exact hS.one i y hy
    · rw [List.getElem?_append_right (by omega), List.getElem?_map] at hy
      cases hp : ps[i - A.length]? with
      | none => rw [hp] at hy; simp at hy
      | some p =>
        rw [hp] at hy; simp at hy
        rcases rowP _ p.1 p.2 hp with ⟨t, n, cs, _, ti, vs, _, _, hown, _⟩ | ⟨t, n, cs, _, ti, _, _, hown, _⟩
        · rw [← hy]; exact Place.of_own hown
        · rw [← hy]; exact Place.of_own hown
  · intro i t cs sh v h1 h2
    rcases cls i _ v h1 rfl h2 with ⟨hi, k1, k2⟩ | ⟨_, _, p, t', seg, g, cur, cs', _, e1, e2, _, _, e5, e6, e7, e8⟩ | ⟨m, _, k1, _⟩
    · obtain ⟨g, cur, e, hg, hr, ho⟩ := aX.st.box i t cs sh v k1 k2
      obtain ⟨o0, ho0, _, hg0⟩ := oXopen i _ k1
      exact ⟨g, cur, e, by rw [same i o0 v g hi ho0 (hg0 rfl) k2 (.inl (by rw [e]; rfl))]; exact hg, BoxR.mono hmX cs hr, ho⟩
    · cases e1
      exact ⟨g, cur, e2, e5, BoxR.of e7 (RlL.mono hmT _ e8), e6⟩
    · exact (pbox k1 rfl).elim
  · intro i t n cs sh v h1 h2
    rcases cls i _ v h1 rfl h2 with ⟨hi, k1, k2⟩ | ⟨_, _, p, t', seg, g, cur, cs', _, e1, _⟩ | ⟨m, _, k1, _⟩
    · obtain ⟨ti, vs, ht, hpz, hown, hr, ho⟩ := aX.st.row i t n cs sh v k1 k2
      obtain ⟨o0, ho0, _, hg0⟩ := oXopen i _ k1
      exact ⟨ti, vs, ht, hpz, ownsRow_keep hown (fun b hb' => same i o0 v b hi ho0 (hg0 rfl) k2 (.inl hb')), RlL.mono hmX.nil cs hr, ho⟩
    · cases e1
    · rcases rowP _ _ _ k1 with ⟨t1, n1, cs1, e, k⟩ | ⟨_, _, _, e, _⟩
      · cases e
        exact k
      · cases e
  · intro i h0 t n cs v h1 h2
    rcases cls i _ v h1 rfl h2 with ⟨hi, k1, k2⟩ | ⟨_, _, p, t', seg, g, cur, cs', _, e1, _⟩ | ⟨m, _, k1, _⟩
    · exact (aX.st.nrow i h0 t n cs v k1 k2).same hmX.pre fun b hb => sameX hi k1 rfl k2 b hb
    · cases e1
    · rcases rowP _ _ _ k1 with ⟨_, _, _, e, _⟩ | ⟨_, _, _, e, k⟩
      · cases e
      · cases e; exact k.nil
  · intro i j o1 o2 v1 v2 b h1 h2 g1 g2 h3 h4 h5 h6
    have far : ∀ (i : Nat) (o : Ob) (v : Value), i ∉ X → obsX[i]? = some o → o.isGone = false → A[i]? = some v → foot w o v b →
        (w.heap.size ≤ b ∨ ∃ i o v, i ∈ X ∧ obs[i]? = some o ∧ o.isOpen = true ∧ A[i]? = some v ∧ foot w o v b) → False := by
      intro i o v hi ho hg hv hb hor
      rcases hor with hor | ⟨i', o', v', hi', ho', hop', hv', hb'⟩
      · have := aX.st.foot_lt ho hg hv hb; omega
      · have := aX.st.inj i i' o o' v v' b ho (by rw [oX i' hi']; exact ho') hg (ogone hop') hv hv' hb hb'
        subst this; exact hi hi'
    rcases cls i o1 v1 h1 g1 h3 with ⟨a1, a2, a3⟩ | ⟨a1, a2, p, t, seg, g, cur, cs', a3, a4, a5, a6, a7, _⟩ | ⟨m, a1, a2, a3⟩
    · have h5 := (sameX' a1 a2 g1 a3).1 h5
      rcases cls j o2 v2 h2 g2 h4 with ⟨b1, b2, b3⟩ | ⟨b1, b2, _, _, _, _, _, _, _, b4, _⟩ | ⟨m', b1, b2, b3⟩
      · exact aX.st.inj i j o1 o2 v1 v2 b a2 b2 g1 g2 a3 b3 h5 ((sameX' b1 b2 g2 b3).1 h6)
      · exact (far i o1 v1 a1 a2 g1 a3 h5 (.inr (hXb b1 b2 ((foot_flat (by rw [b4]; rfl)).1 h6)))).elim
      · exact (far i o1 v1 a1 a2 g1 a3 h5 (pblock _ _ v2 b b2 h6).2).elim
    · have h5 := (foot_flat (by rw [a4]; rfl)).1 h5
      rcases cls j o2 v2 h2 g2 h4 with ⟨b1, b2, b3⟩ | ⟨b1, b2, _, _, _, _, _, _, _, b4, _⟩ | ⟨m', b1, b2, b3⟩
      · exact (far j o2 v2 b1 b2 g2 b3 ((sameX' b1 b2 g2 b3).1 h6) (.inr (hXb a1 a2 h5))).elim
      · obtain ⟨x1, hx1, ho1⟩ := hopen i a1
        obtain ⟨x2, hx2, ho2⟩ := hopen j b1
        exact hS.inj i j x1 x2 v1 v2 b hx1 hx2 (ogone ho1) (ogone ho2) a2 b2 (.inl h5) (.inl ((foot_flat (by rw [b4]; rfl)).1 h6))
      · obtain ⟨⟨id, e1, e2, e3⟩, _⟩ := pblock _ _ v2 b b2 h6
        have := aG.st.inj p id _ o2 v1 v2 b a7 e1 rfl (ogone e3) a6 e2 (.inl h5) h6
        subst this
        rw [a7] at e1; cases e1
        exact (pbox b2 rfl).elim
    · rcases cls j o2 v2 h2 g2 h4 with ⟨b1, b2, b3⟩ | ⟨b1, b2, p, t, seg, g, cur, cs', b3, b4, b5, b6, b7, _⟩ | ⟨m', b1, b2, b3⟩
      · exact (far j o2 v2 b1 b2 g2 b3 ((sameX' b1 b2 g2 b3).1 h6) (pblock _ _ v1 b a2 h5).2).elim
      · obtain ⟨⟨id, e1, e2, e3⟩, _⟩ := pblock _ _ v1 b a2 h5
        have := aG.st.inj p id _ o1 v2 v1 b b7 e1 rfl (ogone e3) b6 e2 (.inl ((foot_flat (by rw [b4]; rfl)).1 h6)) h5
        subst this
        rw [b7] at e1; cases e1
        exact (pbox a2 rfl).elim
      · have hm := q2 _ _ o1 o2 v1 v2 a2 b2 (foot_block' h5) (foot_block' h6) (fun id id' e1 e2 e3 e4 => aG.st.inj id id' o1 o2 v1 v2 b e1 e2 g1 g2 e3 e4 h5 h6)
        have hm : m = m' := by omega
        subst hm
        rcases a3 with rfl | ⟨x1, x2, x3⟩
        · rcases b3 with rfl | ⟨y1, y2, y3⟩
          · rfl
          · rw [y3] at h1; cases h1; simp [Ob.isGone] at g1
        · rcases b3 with rfl | ⟨y1, y2, y3⟩
          · rw [x3] at h2; cases h2; simp [Ob.isGone] at g2
          · obtain ⟨z1, hz1, ho1⟩ := hopen i x1
            obtain ⟨z2, hz2, ho2⟩ := hopen j y1
            rw [a2] at b2; cases b2
            obtain ⟨b', hb'⟩ := foot_block' h5
            exact hS.inj i j z1 z2 _ _ b' hz1 hz2 (ogone ho1) (ogone ho2) x2 y2 (.inl hb') (.inl hb')
  · intro i o v b _ h1 hg h2 h3
    rcases cls i o v h1 hg h2 with ⟨k0, k1, k2⟩ | ⟨hi, hv, _, _, _, _, _, _, _, eo, _⟩ | ⟨m, _, k1, k2⟩
    · exact aX.st.new i o v b (.inl (Nat.zero_le _)) k1 hg k2 ((sameX' k0 k1 hg k2).1 h3)
    · exact newX (hXb hi hv ((foot_flat (by rw [eo]; rfl)).1 h3))
    · rcases (pblock _ _ v b k1 h3).2 with h5 | h5
      · have := hS.base; exact ⟨by omega, hN b h5⟩
      · exact newX h5
  · intro b hb hno
    refine aC.frame b hb fun hop => ?_
    obtain ⟨i, o, v, hi, ho, hop, hv, hb'⟩ := openS b hop
    exact hno ⟨i, o, v, ho, hv, hop, hb'⟩
  · rintro b hb ⟨i, o, v, h1, h2, h3, h4⟩
    rcases cls i o v h1 (ogone h3) h2 with ⟨k0, k1, k2⟩ | ⟨hi, hv, _, _, _, _, _, _, _, eo, _⟩ | ⟨m, _, k1, k2⟩
    · obtain ⟨o0, e1, e2, _⟩ := oXopen i o k1
      exact ⟨i, o, v, by rw [e1, e2 h3], k2, h3, (sameX' k0 k1 (ogone h3) k2).1 h4⟩
    · obtain ⟨i, o, v, _, ho, hop, hv, hb⟩ := hXb hi hv ((foot_flat (by rw [eo]; rfl)).1 h4)
      exact ⟨i, o, v, ho, hv, hop, hb⟩
    · rcases (pblock _ _ v b k1 h4).2 with h5 | ⟨i, o, v, _, ho, hop, hv, hb⟩
      · omega
      · exact ⟨i, o, v, ho, hv, hop, hb⟩
end
end Go.PI
