/-
  PI: a call by value: what is lent, what is handed back.
-/
import Derived.Test.YtodapaplfjfnlaaGreatPIExec2
namespace Go.PI
open Go
set_option linter.unusedVariables false
set_option linter.unusedSimpArgs false
section
variable {P : Program} {C : Cfg} {N : Nat → Prop} {s0 n0 : Nat} {A A' A1 : List Value} {obs obs' obsF : Obs} {w w' : World} {α : Type} {r : α}
theorem shutAt_get (obs : Obs) (i j : Nat) : (shutAt obs i)[j]? = if j = i then (obs[j]?).map shutOb else obs[j]? := by
  unfold shutAt
  cases hi : obs[i]? with
  | none =>
    dsimp only
    split
    · rename_i e; rw [e, hi]; rfl
    · rfl
  | some o =>
    dsimp only
    rw [setOb_get]
    split
    · rename_i e; rw [e, hi]; rfl
    · rfl
theorem shutAll_after : ∀ (ids : List Nat) {obs : Obs}, St C N s0 n0 A obs w → After C N s0 n0 A obs w A (shutAll obs ids) w
  | [], obs, h => After.refl h
  | i :: ids, obs, h => (h.shutAt i).trans (shutAll_after ids (h.shutAt i).st)
theorem shutAll_row : ∀ (ids : List Nat) {obs : Obs} {id t n : Nat} {cs : List V} {sh : Bool}, obs[id]? = some (.row t n cs sh) → (id ∈ ids ∨ sh = true) → (shutAll obs ids)[id]? = some (.row t n cs true)
  | [], obs, id, t, n, cs, sh, ho, h => by
    rcases h with h | h
    · simp at h
    · subst h; exact ho
  | i :: ids, obs, id, t, n, cs, sh, ho, h => by
    simp only [shutAll]
    by_cases e : id = i
    · exact shutAll_row ids (sh := true) (by rw [shutAt_get, if_pos e, ho]; rfl) (.inr rfl)
    · refine shutAll_row ids (sh := sh) (by rw [shutAt_get, if_neg e]; exact ho) ?_
      rcases h with h | h
      · rcases List.mem_cons.1 h with h | h
        · exact absurd h e
        · exact .inl h
      · exact .inr h
theorem shutAll_nrow : ∀ (ids : List Nat) {obs : Obs} {id t n : Nat} {cs : List V}, obs[id]? = some (.nrow [] t n cs) → id ∈ ids → (shutAll obs ids)[id]? = some (.row t n (bareL cs) true)
  | [], obs, id, t, n, cs, ho, h => by simp at h
  | i :: ids, obs, id, t, n, cs, ho, h => by
    simp only [shutAll]
    by_cases e : id = i
    · exact shutAll_row ids (sh := true) (by rw [shutAt_get, if_pos e, ho]; rfl) (.inr rfl)
    · refine shutAll_nrow ids (by rw [shutAt_get, if_neg e]; exact ho) ?_
      rcases List.mem_cons.1 h with h | h
      · exact absurd h e
      · exact h
theorem setOb_self : ∀ (obs : Obs) (i : Nat) (o : Ob), obs[i]? = some o → setOb obs i o = obs
  | [], i, o, h => by simp at h
  | x :: r, 0, o, h => by simp at h; simp [setOb, h]
  | x :: r, i + 1, o, h => by simp only [setOb]; rw [setOb_self r i o (by simpa using h)]
theorem St.borrowShut (hS : St C N s0 n0 A obs w) {id t n : Nat} {cs : List V} {v : Value} (ho : obs[id]? = some (.row t n cs true)) (hv : A[id]? = some v) : Rl A (Ok N A obs w) w (.sl n cs) v := by
  have h := hS.borrow ho hv
  have e : PI.shutAt obs id = obs := by
    unfold PI.shutAt
    rw [ho]
    exact setOb_self obs id _ ho
  rw [e] at h; exact h
theorem lendTo0_sound (hS : St C N s0 n0 A obs w) {ids : List Nat} {x : V} {v : Value} (hx : Rl A (Ok N A obs w) w x v) (hid : ∀ id, x = .ref id → id ∈ ids) {K : V → Option α} (h : lendTo0 obs x K = some r) :
    ∃ y, K y = some r ∧ Rl [] (Ok N A (shutAll obs ids) w) w y v := by
  have hA := shutAll_after ids hS
  unfold lendTo0 at h
  split at h
  · rename_i id
    split at h
    · rename_i t n cs sh ho
      simp only [Rl] at hx
      exact ⟨_, h, (hA.st.borrowShut (shutAll_row ids ho (.inl (hid id rfl))) hx).free rfl⟩
    · rename_i t n cs ho
      simp only [Rl] at hx
      exact ⟨_, h, (hA.st.borrowShut (shutAll_nrow ids ho (hid id rfl)) hx).free rfl⟩
    · cases h
  · replace h := asSl_some h
    obtain ⟨n, cs', e, h⟩ := h
    simp only [Rl] at hx
    obtain ⟨y, hy, hr⟩ := hx.get
    rw [e] at hy; cases hy
    exact ⟨_, h, Rl.mono hA.mono.nil _ hr⟩
  · simp only [Rl] at hx
    subst hx
    exact ⟨_, h, by simp only [Rl]; exact ⟨none, 0, [], rfl, Nat.le_refl _, by simp [RlL], .inl ⟨rfl, rfl⟩⟩⟩
  · rename_i f caps
    obtain ⟨h1, h⟩ := must_some h
    simp only [Rl] at hx
    obtain ⟨cv, e, hl⟩ := hx
    exact ⟨_, h, by simp only [Rl]; exact ⟨cv, e, RlL.mono hA.mono.nil caps (hl.free h1)⟩⟩
  · obtain ⟨h1, h⟩ := must_some h
    exact ⟨_, h, Rl.mono hA.mono.nil _ (hx.free h1)⟩
theorem mem_idsL {id : Nat} : ∀ {cs : List V}, V.ref id ∈ cs → id ∈ idsL cs
  | [], h => by simp at h
  | x :: cs, h => by
    rcases List.mem_cons.1 h with h | h
    · subst h; simp [idsL]
    · have := mem_idsL h
      cases x <;> simp [idsL, this]
theorem lendTos_sound (hS : St C N s0 n0 A obs w) {ids : List Nat} : ∀ (xs : List V) (vs : List Value) {K : List V → Option α}, RlL A (Ok N A obs w) w xs vs → (∀ id, V.ref id ∈ xs → id ∈ ids) → lendTos obs xs K = some r →
    ∃ ys, K ys = some r ∧ RlL [] (Ok N A (shutAll obs ids) w) w ys vs
  | [], [], K, _, _, h => ⟨[], by simpa [lendTos] using h, by simp [RlL]⟩
  | [], _ :: _, _, hl, _, _ => by simp [RlL] at hl
  | _ :: _, [], _, hl, _, _ => by simp [RlL] at hl
  | x :: xs, v :: vs, K, hl, hid, h => by
    simp only [RlL] at hl
    simp only [lendTos] at h
    obtain ⟨y, h, hy⟩ := lendTo0_sound hS hl.1 (fun id e => hid id (by simp [e])) h
    obtain ⟨ys, h, hys⟩ := lendTos_sound hS xs vs hl.2 (fun id e => hid id (by simp [e])) h
    exact ⟨_, h, by simp only [RlL]; exact ⟨hy, hys⟩⟩
theorem shutAll_box : ∀ (ids : List Nat) {obs : Obs} {id t : Nat} {cs : List V} {sh : Bool}, obs[id]? = some (.box t cs sh) → (id ∈ ids ∨ sh = true) → (shutAll obs ids)[id]? = some (.box t cs true)
  | [], obs, id, t, cs, sh, ho, h => by
    rcases h with h | h
    · simp at h
    · subst h; exact ho
  | i :: ids, obs, id, t, cs, sh, ho, h => by
    simp only [shutAll]
    by_cases e : id = i
    · exact shutAll_box ids (sh := true) (by rw [shutAt_get, if_pos e, ho]; rfl) (.inr rfl)
    · refine shutAll_box ids (sh := sh) (by rw [shutAt_get, if_neg e]; exact ho) ?_
      rcases h with h | h
      · rcases List.mem_cons.1 h with h | h
        · exact absurd h e
        · exact .inl h
      · exact .inr h
theorem lendP_sound (hS : St C N s0 0 A obs w) {ids : List Nat} {x : V} {v : Value} (hx : Rl A (Ok N A obs w) w x v) (hid : ∀ id, id ∈ lendIdsP obs [x] → id ∈ ids) {K : V → Option α} (h : lendP obs x K = some r) :
    ∃ y, K y = some r ∧ Rl [] (Ok N A (shutAll obs ids) w) w y v := by
  unfold lendP at h
  split at h
  · rename_i id off
    split at h
    · rename_i t cs sh ho
      have hA := shutAll_after ids hS
      have hin : id ∈ ids := hid id (by simp [lendIdsP])
      have hsh := shutAll_box ids ho (.inl hin)
      simp only [Rl] at hx
      obtain ⟨g, hg, rfl⟩ := hx
      cases hv : A[id]? with
      | none => simp [hv] at hg
      | some y =>
        rw [hv] at hg; simp at hg
        obtain ⟨g', cur, e, hh, hl, h1⟩ := hS.box id t cs sh y ho hv
        rw [e] at hg; simp [blockOf] at hg; subst hg
        obtain ⟨cs', h, hcs⟩ := lendTos_sound (ids := ids) hS cs _ hl.1 (fun i hm => hid i (by simp [lendIdsP, ho, mem_idsL hm])) h
        have hb : blockOf y = some g' := by rw [e]; rfl
        refine ⟨_, h, ?_⟩
        simp only [Rl]
        refine ⟨g', 0, cur.toList, by rw [Nat.zero_add], hcs, ⟨⟨hS.block_lt ho rfl hv hb, (hS.new id _ y g' (.inl (Nat.zero_le _)) ho rfl hv (.inl hb)).2, fun j o' v' k1 k2 k3 k4 => ?_⟩, fun i v hv' => ?_⟩⟩
        · have hne : j ≠ id := fun ej => by subst ej; rw [hsh] at k1; cases k1; simp [Ob.isOpen] at k3
          exact hne (hA.st.inj j id o' _ v' y g' k1 hsh (by cases o' <;> simp_all [Ob.isOpen, Ob.isGone]) rfl k2 hv k4 (.inl hb))
        · refine ⟨?_, h1 v (List.mem_of_getElem? hv')⟩
          rw [Nat.zero_add, cell_of_row w g' i cur t (0, 0) hh]; simpa using hv'
    · cases h
  · rename_i hne
    refine lendTo0_sound hS hx (fun id e => hid id ?_) h
    subst e; simp [lendIdsP, idsL]
theorem lendIdsP_cons (x : V) (xs : List V) : lendIdsP obs (x :: xs) = lendIdsP obs [x] ++ lendIdsP obs xs := by
  cases x <;> simp [lendIdsP]
theorem lendPs_sound (hS : St C N s0 0 A obs w) {ids : List Nat} : ∀ (xs : List V) (vs : List Value) {K : List V → Option α}, RlL A (Ok N A obs w) w xs vs → (∀ id, id ∈ lendIdsP obs xs → id ∈ ids) → lendPs obs xs K = some r →
    ∃ ys, K ys = some r ∧ RlL [] (Ok N A (shutAll obs ids) w) w ys vs
  | [], [], K, _, _, h => ⟨[], by simpa [lendPs] using h, by simp [RlL]⟩
  | [], _ :: _, _, hl, _, _ => by simp [RlL] at hl
  | _ :: _, [], _, hl, _, _ => by simp [RlL] at hl
  | x :: xs, v :: vs, K, hl, hid, h => by
    simp only [RlL] at hl
    simp only [lendPs] at h
    rw [lendIdsP_cons] at hid
    obtain ⟨y, h, hy⟩ := lendP_sound hS hl.1 (fun id e => hid id (by simp [e])) h
    obtain ⟨ys, h, hys⟩ := lendPs_sound hS xs vs hl.2 (fun id e => hid id (by simp [e])) h
    exact ⟨_, h, by simp only [RlL]; exact ⟨hy, hys⟩⟩
theorem lendTo_sound (hS : St C N s0 0 A obs w) {ids : List Nat} {x : V} {v : Value} (hx : Rl A (Ok N A obs w) w x v) (hid : ∀ id, id ∈ lendIds obs [x] → id ∈ ids) {K : V → Option α} (h : lendTo obs x K = some r) :
    ∃ y, K y = some r ∧ Rl [] (Ok N A (shutAll obs ids) w) w y v := by
  unfold lendTo at h
  split at h
  · rename_i f caps
    simp only [Rl] at hx
    obtain ⟨cv, e, hl⟩ := hx
    obtain ⟨ys, h, hys⟩ := lendPs_sound hS caps _ hl (fun id hm => hid id (by simp [lendIds, hm])) h
    exact ⟨_, h, by simp only [Rl]; exact ⟨cv, e, hys⟩⟩
  · rename_i hne
    refine lendP_sound hS hx (fun id hm => hid id ?_) h
    cases x <;> simp_all [lendIds, lendIdsP, idsL]
theorem lendArg_sound (hS : St C N s0 0 A obs w) {ids : List Nat} {ti : TI} {x : V} {v : Value} (hx : Rl A (Ok N A obs w) w x v) (hid : ∀ id, id ∈ lendIds obs [x] → id ∈ ids) {K : V → Option α} (h : lendArg ti obs x K = some r) :
    ∃ y, K y = some r ∧ Rl [] (Ok N A (shutAll obs ids) w) w y v := by
  have hA := shutAll_after ids hS
  unfold lendArg at h
  cases ha : ti.agg with
  | true =>
    rw [ha] at h; simp only [cond_true] at h
    cases hs : hasSl ti.leaves with
    | true =>
      rw [hs] at h; simp only [cond_true] at h
      replace h := asAgg_some h
      obtain ⟨cs, e, h⟩ := h
      have e : x = .agg cs := by simpa using e
      subst e
      simp only [Rl] at hx
      obtain ⟨a, rfl, hl, h1⟩ := hx
      obtain ⟨ys, h, hys⟩ := lendTos_sound (ids := ids) hS cs _ hl (fun id hm => hid id (by simp [lendIds, mem_idsL hm])) h
      exact ⟨_, h, by simp only [Rl]; exact ⟨a, rfl, hys, h1⟩⟩
    | false =>
      rw [hs] at h; simp only [cond_false] at h
      replace h := asAgg_some h
      obtain ⟨cs, e, h⟩ := h
      have e : x = .agg cs := by simpa using e
      subst e
      obtain ⟨h2, h⟩ := must_some h
      simp only [Rl] at hx
      obtain ⟨a, rfl, hl, h1⟩ := hx
      exact ⟨_, h, by simp only [Rl]; exact ⟨a, rfl, RlL.mono hA.mono.nil cs (hl.free h2), h1⟩⟩
  | false =>
    rw [ha] at h; simp only [cond_false] at h
    exact lendTo_sound hS hx hid h
theorem lendIds_cons (x : V) (xs : List V) : lendIds obs (x :: xs) = lendIds obs [x] ++ lendIds obs xs := by
  cases x <;> simp [lendIds]
theorem lendArgs_sound (hS : St C N s0 0 A obs w) {ids : List Nat} : ∀ (ts : List Nat) (xs : List V) (vs : List Value) {K : List V → Option α}, RlL A (Ok N A obs w) w xs vs → (∀ id, id ∈ lendIds obs xs → id ∈ ids) → lendArgs C obs ts xs K = some r →
    ∃ ys, K ys = some r ∧ RlL [] (Ok N A (shutAll obs ids) w) w ys vs
  | [], [], [], K, _, _, h => ⟨[], by simpa [lendArgs] using h, by simp [RlL]⟩
  | [], [], _ :: _, _, hl, _, _ => by simp [RlL] at hl
  | [], _ :: _, _, _, _, _, h => by simp [lendArgs] at h
  | _ :: _, [], _, _, _, _, h => by simp [lendArgs] at h
  | _ :: _, _ :: _, [], _, hl, _, _ => by simp [RlL] at hl
  | t :: ts, x :: xs, v :: vs, K, hl, hid, h => by
    simp only [RlL] at hl
    simp only [lendArgs] at h
    replace h := need_some h
    obtain ⟨ti, _, h⟩ := h
    rw [lendIds_cons] at hid
    obtain ⟨y, h, hy⟩ := lendArg_sound hS hl.1 (fun id e => hid id (by simp [e])) h
    obtain ⟨ys, h, hys⟩ := lendArgs_sound hS ts xs vs hl.2 (fun id e => hid id (by simp [e])) h
    exact ⟨_, h, by simp only [RlL]; exact ⟨hy, hys⟩⟩
def DecAll (C : Cfg) : List Nat → List Value → List Value → Prop
  | [], [], fl => fl = []
  | t :: ts, v :: vs, fl => ∃ ti f1 f2, C.ty t = some ti ∧ fl = f1 ++ f2 ∧ ((ti.agg = true ∧ f1.length = ti.leaves.length ∧ v = .agg f1.toArray ∧ ∀ x ∈ f1, x.oneCell' = true) ∨ (ti.agg = false ∧ f1 = [v])) ∧ DecAll C ts vs f2
  | _, _, _ => False
def DecRes (C : Cfg) (ts : List Nat) (vv : Value) (fl : List Value) : Prop :=
  (∃ t, ts = [t] ∧ DecAll C ts [vv] fl) ∨ ((∀ t, ts ≠ [t]) ∧ ∃ arr : Array Value, vv = .tuple arr ∧ DecAll C ts arr.toList fl)
theorem asTup_some {v : Option V} {K : List V → Option α} (h : asTup v K = some r) : ∃ cs, v = some (.tup cs) ∧ K cs = some r := by
  unfold asTup at h
  split at h
  · exact ⟨_, rfl, h⟩
  · cases h
theorem resAll_sound {ok : Nat → Prop} : ∀ (ts : List Nat) (vs : List V) (us : List Value) {K : List V → Option α}, RlL A ok w vs us → resAll C ts vs K = some r →
    ∃ cs fl, K cs = some r ∧ RlL A ok w cs fl ∧ DecAll C ts us fl
  | [], [], [], K, _, h => ⟨[], [], by simpa [resAll] using h, by simp [RlL], by simp [DecAll]⟩
  | [], [], _ :: _, _, hl, _ => by simp [RlL] at hl
  | [], _ :: _, _, _, _, h => by simp [resAll] at h
  | _ :: _, [], _, _, _, h => by simp [resAll] at h
  | _ :: _, _ :: _, [], _, hl, _ => by simp [RlL] at hl
  | t :: ts, v :: vs, u :: us, K, hl, h => by
    simp only [RlL] at hl
    simp only [resAll] at h
    replace h := need_some h
    obtain ⟨ti, ht, h⟩ := h
    unfold resOne at h
    cases ha : ti.agg with
    | true =>
      rw [ha] at h; simp only [cond_true] at h
      replace h := asAgg_some h
      obtain ⟨cs, e, h⟩ := h
      have e : v = .agg cs := by simpa using e
      subst e
      obtain ⟨h1, h⟩ := must_some h
      obtain ⟨cs', fl', hk, hr, hd⟩ := resAll_sound ts vs us hl.2 h
      have hx := hl.1
      simp only [Rl] at hx
      obtain ⟨arr, rfl, hl1, ho⟩ := hx
      refine ⟨_, arr.toList ++ fl', hk, hl1.append hr, ?_⟩
      simp only [DecAll]
      exact ⟨ti, arr.toList, fl', ht, rfl, .inl ⟨ha, by rw [← hl1.length]; exact Nat.eq_of_beq_eq_true h1, by simp, ho⟩, hd⟩
    | false =>
      rw [ha] at h; simp only [cond_false] at h
      obtain ⟨cs', fl', hk, hr, hd⟩ := resAll_sound ts vs us hl.2 h
      refine ⟨_, [u] ++ fl', hk, by simp only [List.singleton_append, RlL]; exact ⟨hl.1, hr⟩, ?_⟩
      simp only [DecAll]
      exact ⟨ti, [u], fl', ht, rfl, .inr ⟨ha, rfl⟩, hd⟩
theorem resCells_sound {ok : Nat → Prop} {ts : List Nat} {v : V} {vv : Value} {K : List V → Option α} (hv : Rl A ok w v vv) (h : resCells C ts v K = some r) : ∃ cs fl, K cs = some r ∧ RlL A ok w cs fl ∧ DecRes C ts vv fl := by
  unfold resCells at h
  split at h
  · rename_i t
    obtain ⟨cs, fl, hk, hr, hd⟩ := resAll_sound [t] [v] [vv] (by simp only [RlL]; exact ⟨hv, trivial⟩) h
    exact ⟨cs, fl, hk, hr, .inl ⟨t, rfl, hd⟩⟩
  · rename_i hne
    replace h := asTup_some h
    obtain ⟨vs, e, h⟩ := h
    have e : v = .tup vs := by simpa using e
    subst e
    simp only [Rl] at hv
    obtain ⟨arr, rfl, hl⟩ := hv
    obtain ⟨cs, fl, hk, hr, hd⟩ := resAll_sound ts vs _ hl h
    exact ⟨cs, fl, hk, hr, .inr ⟨hne, arr, rfl, hd⟩⟩
theorem groupAll_sound {ok : Nat → Prop} : ∀ (ts : List Nat) (us fl : List Value) (ys : List V) {K : List V → Option α}, DecAll C ts us fl → RlL A ok w ys fl → groupAll C ts ys K = some r → ∃ vs, K vs = some r ∧ RlL A ok w vs us
  | [], [], fl, ys, K, hd, hr, h => ⟨[], by simpa [groupAll] using h, by simp [RlL]⟩
  | [], _ :: _, _, _, _, hd, _, _ => by simp [DecAll] at hd
  | _ :: _, [], _, _, _, hd, _, _ => by simp [DecAll] at hd
  | t :: ts, u :: us, fl, ys, K, hd, hr, h => by
    simp only [DecAll] at hd
    obtain ⟨ti, f1, f2, ht, rfl, hd1, hd2⟩ := hd
    simp only [groupAll] at h
    replace h := need_some h
    obtain ⟨ti', ht', h⟩ := h
    rw [ht] at ht'; cases ht'
    rcases hd1 with ⟨ha, hlen, rfl, ho⟩ | ⟨ha, rfl⟩
    · rw [ha] at h; simp only [cond_true] at h
      have h1 : RlL A ok w (ys.take ti.leaves.length) f1 := by
        have := hr.take ti.leaves.length
        rwa [← hlen, List.take_left, hlen] at this
      have h2 : RlL A ok w (ys.drop ti.leaves.length) f2 := by
        have := hr.drop ti.leaves.length
        rwa [← hlen, List.drop_left, hlen] at this
      obtain ⟨vs, hk, hvs⟩ := groupAll_sound ts us f2 _ hd2 h2 h
      exact ⟨_, hk, by simp only [RlL, Rl]; exact ⟨⟨_, rfl, by simpa using h1, by simpa using ho⟩, hvs⟩⟩
    · rw [ha] at h; simp only [cond_false] at h
      cases ys with
      | nil => cases h
      | cons y ys =>
        dsimp only at h
        simp only [List.singleton_append, RlL] at hr
        obtain ⟨vs, hk, hvs⟩ := groupAll_sound ts us f2 ys hd2 hr.2 h
        exact ⟨_, hk, by simp only [RlL]; exact ⟨hr.1, hvs⟩⟩
theorem groupRes_sound {ok : Nat → Prop} {ts : List Nat} {vv : Value} {fl : List Value} {ys : List V} {K : V → Option α} (hd : DecRes C ts vv fl) (hr : RlL A ok w ys fl) (h : groupRes C ts ys K = some r) : ∃ v, K v = some r ∧ Rl A ok w v vv := by
  unfold groupRes at h
  split at h
  · rename_i t
    rcases hd with ⟨t', _, hd⟩ | ⟨hne, _⟩
    · obtain ⟨vs, hk, hvs⟩ := groupAll_sound [t] [vv] fl ys hd hr h
      split at hk
      · simp only [RlL] at hvs; exact ⟨_, hk, hvs.1⟩
      · cases hk
    · exact absurd rfl (hne t)
  · rename_i hne
    rcases hd with ⟨t', e, hd⟩ | ⟨_, arr, rfl, hd⟩
    · exact absurd e (hne t')
    · obtain ⟨vs, hk, hvs⟩ := groupAll_sound ts _ fl ys hd hr h
      exact ⟨_, hk, by simp only [Rl]; exact ⟨arr, rfl, hvs⟩⟩
def GvL (C : Cfg) (A1 : List Value) (obsF : Obs) (okF : Nat → Prop) (w' : World) : List Leaf → List (Option Nat) → List V → List Value → List Nat → Prop
  | [], _, xs, fl, ids => xs = [] ∧ fl = [] ∧ ids = []
  | l :: r, own, xs, fl, ids => ∃ x xs' v fl', xs = x :: xs' ∧ fl = v :: fl' ∧
    match l, own with
    | .sl, some e0 :: own => match nestE e0 with
      | some e => ∃ te, C.ty e = some te ∧ 0 < te.size ∧ ((x = .osl 0 [] ∧ v = .slice none 0 0 ∧ GvL C A1 obsF okF w' r own xs' fl' ids) ∨
        ∃ id n c ids', ids = id :: ids' ∧ x = .osl n c ∧ obsF[id]? = some (.nrow [] e n c) ∧ A1[id]? = some v ∧ GvL C A1 obsF okF w' r own xs' fl' ids')
      | none => let e := e0; ∃ te, C.ty e = some te ∧ 0 < te.size ∧ ((x = .osl 0 [] ∧ v = .slice none 0 0 ∧ GvL C A1 obsF okF w' r own xs' fl' ids) ∨
        ∃ id n c ids', ids = id :: ids' ∧ x = .osl n c ∧ obsF[id]? = some (.row e n c false) ∧ A1[id]? = some v ∧ (hasSl te.leaves || c.all flatV) = true ∧ GvL C A1 obsF okF w' r own xs' fl' ids')
    | .sl, own => Rl [] okF w' x v ∧ GvL C A1 obsF okF w' r own.tail xs' fl' ids
    | _, own => flatV x = true ∧ Rl [] okF w' x v ∧ GvL C A1 obsF okF w' r own xs' fl' ids
theorem shutAt_ne {obs : Obs} {i j : Nat} (h : j ≠ i) : (shutAt obs i)[j]? = obs[j]? := by rw [shutAt_get, if_neg h]
theorem intoRow_obs {x : V} {K : V → Obs → Option α} (h : intoRow obs x K = some r) : ∃ y obs', K y obs' = some r ∧ ((∃ id, x = .ref id ∧ obs' = shutAt obs id) ∨ obs' = obs) ∧ intoRow obs x (fun y' o' => some (y', o')) = some (y, obs') := by
  unfold intoRow at h ⊢
  cases x <;> dsimp only at h ⊢ <;> try cases h
  all_goals try (exact ⟨_, _, h, .inr rfl, rfl⟩)
  · rename_i id
    split at h
    · exact ⟨_, _, h, .inl ⟨_, rfl, rfl⟩, rfl⟩
    · exact ⟨_, _, h, .inl ⟨_, rfl, rfl⟩, rfl⟩
    · cases h
  · replace h := asSl_some h
    obtain ⟨n, c, e, h⟩ := h
    exact ⟨_, _, h, .inr rfl, by rw [e]; rfl⟩
theorem flatV_free {x : V} (h : flatV x = true) : x.idFree = true := by cases x <;> simp_all [flatV, V.idFree]
theorem giveLeaves_sound : ∀ (ls : List Leaf) (own : List (Option Nat)) (cs : List V) (fl : List Value) (gv : List Nat) {obs : Obs} {K : List V → Option α}, St C N s0 n0 A obs w → RlL A (Ok N A obs w) w cs fl →
    giveLeaves C gv ls own cs obs K = some r → ∃ xs obsF ids, K xs = some r ∧ After C N s0 n0 A obs w A obsF w ∧ (∀ id ∈ gv, obsF[id]? = obs[id]?) ∧ (∀ i ∈ ids, i ∉ gv) ∧ ids.Nodup ∧ GvL C A obsF (Ok N A obsF w) w ls own xs fl ids
  | [], own, [], [], gv, obs, K, hS, hr, h => ⟨[], obs, [], by simpa [giveLeaves] using h, After.refl hS, fun _ _ => rfl, by simp, List.nodup_nil, by simp [GvL]⟩
  | [], own, [], _ :: _, gv, obs, K, hS, hr, h => by simp [RlL] at hr
  | [], own, _ :: _, fl, gv, obs, K, hS, hr, h => by simp [giveLeaves] at h
  | l :: ls, own, [], fl, gv, obs, K, hS, hr, h => by cases l <;> cases own <;> simp [giveLeaves] at h <;> (rename_i o own; cases o <;> simp [giveLeaves] at h)
  | l :: ls, own, x :: cs, [], gv, obs, K, hS, hr, h => by simp [RlL] at hr
  | l :: ls, own, x :: cs, v :: fl, gv, obs, K, hS, hr, h => by
    simp only [RlL] at hr
    have shared : ∀ (own' : List (Option Nat)), (bif refIn gv x then none else intoRow obs x fun x obs => giveLeaves C gv ls own' cs obs fun xs => K (x :: xs)) = some r →
        ∃ xs obsF ids, K xs = some r ∧ After C N s0 n0 A obs w A obsF w ∧ (∀ id ∈ gv, obsF[id]? = obs[id]?) ∧ (∀ i ∈ ids, i ∉ gv) ∧ ids.Nodup ∧ (∃ y ys, xs = y :: ys ∧ Rl [] (Ok N A obsF w) w y v ∧ GvL C A obsF (Ok N A obsF w) w ls own' ys fl ids) := by
      intro own' h
      cases hin : refIn gv x with
      | true => rw [hin] at h; cases h
      | false =>
        rw [hin] at h; simp only [cond_false] at h
        obtain ⟨y, obs1, h1, hsh, hi⟩ := intoRow_obs h
        obtain ⟨y', obs1', e, a1, r1, o1, c1⟩ := intoRow_sound hS hr.1 hi
        simp only [Option.some.injEq, Prod.mk.injEq] at e
        obtain ⟨rfl, rfl⟩ := e
        obtain ⟨xs, obsF, ids, hk, a2, hg2, hni, hnd, hgl⟩ := giveLeaves_sound ls own' cs fl gv a1.st (RlL.mono a1.mono cs hr.2) h1
        refine ⟨_, obsF, ids, hk, a1.trans a2, fun id hid => ?_, hni, hnd, y', xs, rfl, Rl.mono a2.mono.nil y' r1, hgl⟩
        rw [hg2 id hid]
        rcases hsh with ⟨i, rfl, rfl⟩ | rfl
        · refine shutAt_ne (fun e => ?_)
          subst e
          have := (memN_iff gv id).2 hid
          simp [refIn, this] at hin
        · rfl
    have plain : (bif flatV x then giveLeaves C gv ls own cs obs fun xs => K (x :: xs) else none) = some r →
        ∃ xs obsF ids, K xs = some r ∧ After C N s0 n0 A obs w A obsF w ∧ (∀ id ∈ gv, obsF[id]? = obs[id]?) ∧ (∀ i ∈ ids, i ∉ gv) ∧ ids.Nodup ∧ (∃ y ys, xs = y :: ys ∧ flatV y = true ∧ Rl [] (Ok N A obsF w) w y v ∧ GvL C A obsF (Ok N A obsF w) w ls own ys fl ids) := by
      intro h
      cases hf : flatV x with
      | false => rw [hf] at h; cases h
      | true =>
        rw [hf] at h; simp only [cond_true] at h
        obtain ⟨xs, obsF, ids, hk, a2, hg2, hni, hnd, hgl⟩ := giveLeaves_sound ls own cs fl gv hS hr.2 h
        exact ⟨_, obsF, ids, hk, a2, hg2, hni, hnd, x, xs, rfl, hf, Rl.mono a2.mono.nil x (hr.1.free (flatV_free hf)), hgl⟩
    cases l with
    | sl =>
      cases own with
      | nil =>
        simp only [giveLeaves] at h
        obtain ⟨xs, obsF, ids, hk, a2, hg, hni, hnd, y, ys, rfl, hy, hgl⟩ := shared _ h
        exact ⟨_, obsF, ids, hk, a2, hg, hni, hnd, by simp only [GvL]; exact ⟨y, ys, v, fl, rfl, rfl, hy, hgl⟩⟩
      | cons o own =>
        cases o with
        | none =>
          simp only [giveLeaves] at h
          obtain ⟨xs, obsF, ids, hk, a2, hg, hni, hnd, y, ys, rfl, hy, hgl⟩ := shared _ h
          exact ⟨_, obsF, ids, hk, a2, hg, hni, hnd, by simp only [GvL]; exact ⟨y, ys, v, fl, rfl, rfl, hy, hgl⟩⟩
        | some e =>
          simp only [giveLeaves] at h
          cases hne : nestE e with
          | some e0 =>
            rw [hne] at h
            replace h := need_some h
            obtain ⟨te, hte, h⟩ := h
            replace h := must_some h
            obtain ⟨hpos, h⟩ := h
            have hpos : 0 < te.size := by
              simp only [Bool.not_eq_true'] at hpos
              have := Nat.ne_of_beq_eq_false hpos
              omega
            split at h
            · obtain ⟨xs, obsF, ids, hk, a2, hg, hni, hnd, hgl⟩ := giveLeaves_sound ls own cs fl gv hS hr.2 h
              have hv := hr.1
              simp only [Rl] at hv
              exact ⟨_, obsF, ids, hk, a2, hg, hni, hnd, by simp only [GvL, hne]; exact ⟨_, _, v, fl, rfl, rfl, te, hte, hpos, .inl ⟨rfl, hv, hgl⟩⟩⟩
            · rename_i id
              split at h
              · rename_i e' n c ho
                cases hb : Nat.beq e0 e' && !memN id gv with
                | false => rw [hb] at h; cases h
                | true =>
                  rw [hb] at h; simp only [cond_true] at h
                  simp only [Bool.and_eq_true, Bool.not_eq_true'] at hb
                  have he := Nat.eq_of_beq_eq_true hb.1
                  subst he
                  have hng : id ∉ gv := fun hm => by rw [(memN_iff gv id).2 hm] at hb; exact absurd hb.2 (by simp)
                  obtain ⟨xs, obsF, ids, hk, a2, hg, hni, hnd, hgl⟩ := giveLeaves_sound ls own cs fl (id :: gv) hS hr.2 h
                  have hv := hr.1
                  simp only [Rl] at hv
                  refine ⟨_, obsF, id :: ids, hk, a2, fun i hi => hg i (by simp [hi]), fun i hi => ?_, List.nodup_cons.2 ⟨fun hm => hni id hm (by simp), hnd⟩, ?_⟩
                  · rcases List.mem_cons.1 hi with rfl | hi
                    · exact hng
                    · exact fun hm => hni i hi (by simp [hm])
                  · simp only [GvL, hne]
                    exact ⟨_, _, v, fl, rfl, rfl, te, hte, hpos, .inr ⟨id, n, c, ids, rfl, rfl, by rw [hg id (by simp)]; exact ho, hv, hgl⟩⟩
              · cases h
            · cases h
          | none =>
          rw [hne] at h
          replace h := need_some h
          obtain ⟨te, hte, h⟩ := h
          replace h := must_some h
          obtain ⟨hpos, h⟩ := h
          have hpos : 0 < te.size := by
            simp only [Bool.not_eq_true'] at hpos
            have := Nat.ne_of_beq_eq_false hpos
            omega
          split at h
          · obtain ⟨xs, obsF, ids, hk, a2, hg, hni, hnd, hgl⟩ := giveLeaves_sound ls own cs fl gv hS hr.2 h
            have hv := hr.1
            simp only [Rl] at hv
            exact ⟨_, obsF, ids, hk, a2, hg, hni, hnd, by simp only [GvL, hne]; exact ⟨_, _, v, fl, rfl, rfl, te, hte, hpos, .inl ⟨rfl, hv, hgl⟩⟩⟩
          · rename_i id
            split at h
            · rename_i e' n c ho
              cases hb : Nat.beq e e' && !memN id gv with
              | false => rw [hb] at h; cases h
              | true =>
                rw [hb] at h; simp only [cond_true] at h
                replace h := must_some h
                obtain ⟨hfl, h⟩ := h
                simp only [Bool.and_eq_true, Bool.not_eq_true'] at hb
                have he := Nat.eq_of_beq_eq_true hb.1
                subst he
                have hng : id ∉ gv := fun hm => by rw [(memN_iff gv id).2 hm] at hb; exact absurd hb.2 (by simp)
                obtain ⟨xs, obsF, ids, hk, a2, hg, hni, hnd, hgl⟩ := giveLeaves_sound ls own cs fl (id :: gv) hS hr.2 h
                have hv := hr.1
                simp only [Rl] at hv
                refine ⟨_, obsF, id :: ids, hk, a2, fun i hi => hg i (by simp [hi]), fun i hi => ?_, List.nodup_cons.2 ⟨fun hm => hni id hm (by simp), hnd⟩, ?_⟩
                · rcases List.mem_cons.1 hi with rfl | hi
                  · exact hng
                  · exact fun hm => hni i hi (by simp [hm])
                · simp only [GvL, hne]
                  exact ⟨_, _, v, fl, rfl, rfl, te, hte, hpos, .inr ⟨id, n, c, ids, rfl, rfl, by rw [hg id (by simp)]; exact ho, hv, hfl, hgl⟩⟩
            · cases h
          · cases h
    | int k =>
      have h : (bif flatV x then giveLeaves C gv ls own cs obs fun xs => K (x :: xs) else none) = some r := by simpa only [giveLeaves] using h
      obtain ⟨xs, obsF, ids, hk, a2, hg, hni, hnd, y, ys, rfl, hfy, hy, hgl⟩ := plain h
      exact ⟨_, obsF, ids, hk, a2, hg, hni, hnd, by simp only [GvL]; exact ⟨y, ys, v, fl, rfl, rfl, hfy, hy, hgl⟩⟩
    | bool =>
      have h : (bif flatV x then giveLeaves C gv ls own cs obs fun xs => K (x :: xs) else none) = some r := by simpa only [giveLeaves] using h
      obtain ⟨xs, obsF, ids, hk, a2, hg, hni, hnd, y, ys, rfl, hfy, hy, hgl⟩ := plain h
      exact ⟨_, obsF, ids, hk, a2, hg, hni, hnd, by simp only [GvL]; exact ⟨y, ys, v, fl, rfl, rfl, hfy, hy, hgl⟩⟩
    | str =>
      have h : (bif flatV x then giveLeaves C gv ls own cs obs fun xs => K (x :: xs) else none) = some r := by simpa only [giveLeaves] using h
      obtain ⟨xs, obsF, ids, hk, a2, hg, hni, hnd, y, ys, rfl, hfy, hy, hgl⟩ := plain h
      exact ⟨_, obsF, ids, hk, a2, hg, hni, hnd, by simp only [GvL]; exact ⟨y, ys, v, fl, rfl, rfl, hfy, hy, hgl⟩⟩
    | oth =>
      have h : (bif flatV x then giveLeaves C gv ls own cs obs fun xs => K (x :: xs) else none) = some r := by simpa only [giveLeaves] using h
      obtain ⟨xs, obsF, ids, hk, a2, hg, hni, hnd, y, ys, rfl, hfy, hy, hgl⟩ := plain h
      exact ⟨_, obsF, ids, hk, a2, hg, hni, hnd, by simp only [GvL]; exact ⟨y, ys, v, fl, rfl, rfl, hfy, hy, hgl⟩⟩
end
end Go.PI
