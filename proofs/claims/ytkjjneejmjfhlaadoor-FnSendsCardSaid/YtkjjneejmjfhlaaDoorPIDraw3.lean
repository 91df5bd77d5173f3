/-
  PI: a region whose order is drawn, whole.
-/
import Derived.Test.YtkjjneejmjfhlaaDoorPITail
import Derived.Test.YtkjjneejmjfhlaaDoorPIWrite
namespace Go.PI
open Go
set_option linter.unusedVariables false
set_option linter.unusedSimpArgs false

def altsOf : Plan → List Nat
  | .alt i _ r => i :: altsOf r
  | _ => []
/-- Operation number 't' waits for number 'i'. -/
def waitsB (ops : Array Oper) (i t : Nat) : Bool := match ops[t]? with
  | some o => o.after.any fun e => Region.binds .any e && e.on == i
  | none => true
/-- A plan that fits a region. 'm': among alternatives; 'ta': one of the last ones has come up. -/
def planB (ops : Array Oper) (tails : List Nat) : Plan → Nat → Bool → Bool → Array Bool → Bool
  | .done, _, m, _, l => !m && (Region.ready .any ops l).isEmpty
  | .take i p, k, m, ta, l => match k with
    | 0 => false
    | k + 1 => !m && !ta && Region.free .any ops l i && (Region.ready .any ops l).contains i && tails.all (waitsB ops i) && planB ops tails p k false false (l.setIfInBounds i true)
  | .alt i p rest, k, m, ta, l => match k with
    | 0 => false
    | k + 1 => (m || Region.ready .any ops l == i :: altsOf rest) && (memN i tails || !ta) && planB ops tails p k false (ta || memN i tails) (l.setIfInBounds i true) && planB ops tails rest (k + 1) true ta l
  | .nil, _, m, _, _ => m

section
variable {P : Program} {C : Cfg} {N : Nat → Prop} {s0 n0 : Nat} {A0 A A' Ar : List Value} {obs0 obs obs' obsr : Obs} {w0 w w' wr : World} {α : Type} {r : α} {nt : Nat} {e : Env} {a : Act}

theorem guard_env {ops : Array Oper} {o : Oper} {j d : Nat} {want t : Bool} {ok : Nat → Prop} (hg : o.guard = some (j, want)) (hj : (ops[j]?).bind (·.dst) = some d) (hE : EnvR A ok w e a.tmps) (ht : look e d = .bool t) :
    Region.wanted o (yielded ops a.tmps) = (t == want) ∧ EnvR A ok w ((d, .bool t) :: e) a.tmps := by
  have hv := hE d
  rw [ht] at hv
  simp only [Rl] at hv
  have hy : yielded ops a.tmps j = some t := by
    unfold yielded
    rw [hj]
    simp [look_size hv]
  refine ⟨?_, fun x => ?_⟩
  · simp only [Region.wanted, hg, hy]
    cases t <;> cases want <;> rfl
  · rw [look_cons]
    split
    · rename_i hx; subst hx; simp only [Rl]; exact hv
    · exact hE x

theorem operG_yields {ops : Array Oper} {o : Oper} {S : World → Prop} {f : Env → Obs → Op → (V → Obs → Option α) → Option α} {K : Env → Obs → Option α} {ok : Nat → Prop} {R : V → Value → Obs → Prop}
    (hE : EnvR A ok w e a.tmps) (hf : ∀ (e1 : Env) (K1 : V → Obs → Option α), EnvR A ok w e1 a.tmps → f e1 obs o.op K1 = some r → ∃ v obs' vv, K1 v obs' = some r ∧ R v vv obs' ∧ ∀ w2, S w2 → (execOp a.eval o).run P w2 = .ok (.value vv) w2)
    (hskip : R (.tup []) undef obs) (h : operG f ops e obs o K = some r) : ∃ e1 v vv obs', EnvR A ok w e1 a.tmps ∧ K (putE e1 o.dst v) obs' = some r ∧ R v vv obs' ∧ YieldsIf P ops S o vv a := by
  unfold operG at h
  split at h
  · rename_i hg
    obtain ⟨v, obs', vv, hk, hR, hx⟩ := hf e _ hE h
    exact ⟨e, v, vv, obs', hE, hk, hR, .inl ⟨by simp [Region.wanted, hg], hx⟩⟩
  · rename_i j want hg
    split at h
    · cases h
    · rename_i d hj
      cases hu : isUndef (look e d) with
      | true =>
        rw [hu] at h
        exact ⟨e, .tup [], undef, obs, hE, h, hskip, .inr ⟨guard_undef hg hj hE (isUndef_eq hu), rfl⟩⟩
      | false =>
      rw [hu] at h
      replace h := asBool_some h
      obtain ⟨t, ht, h⟩ := h
      have ht : look e d = .bool t := by simpa using ht
      obtain ⟨hw, hE1⟩ := guard_env hg hj hE ht
      have h : (bif t == want then f ((d, .bool t) :: e) obs o.op fun v obs => K (putE ((d, .bool t) :: e) o.dst v) obs else K (putE ((d, .bool t) :: e) o.dst (.tup [])) obs) = some r := by
        cases t <;> exact h
      cases hb : t == want with
      | true =>
        rw [hb] at h hw
        obtain ⟨v, obs', vv, hk, hR, hx⟩ := hf _ _ hE1 h
        exact ⟨_, v, vv, obs', hE1, hk, hR, .inl ⟨hw, hx⟩⟩
      | false =>
        rw [hb] at h hw
        exact ⟨_, .tup [], undef, obs, hE1, h, hskip, .inr ⟨hw, rfl⟩⟩

theorem operG_wpOp {ops : Array Oper} {i : Nat} {o : Oper} {Q : Exit → Act → World → Prop} {f : Env → Obs → Op → (V → Obs → Option α) → Option α} {K : Env → Obs → Option α} {ok : Nat → Prop} {R : V → Value → Obs → List Value → World → Prop}
    (hi : ops[i]? = some o) (hE : EnvR A ok w e a.tmps) (hf : ∀ (e1 : Env) (K1 : V → Obs → Option α), EnvR A ok w e1 a.tmps → f e1 obs o.op K1 = some r → o.wp P a w (fun a' w' => ∃ vv v obs' A', a' = a.put o.dst vv ∧ K1 v obs' = some r ∧ R v vv obs' A' w') Q)
    (hskip : R (.tup []) undef obs A w) (h : operG f ops e obs o K = some r) : wpOp P ops Q i (fun a' w' => ∃ e1 v vv obs' A', EnvR A ok w e1 a.tmps ∧ a' = a.put o.dst vv ∧ K (putE e1 o.dst v) obs' = some r ∧ R v vv obs' A' w') a w := by
  unfold wpOp
  simp only [hi]
  unfold operG at h
  have one : ∀ (e1 : Env), EnvR A ok w e1 a.tmps → (f e1 obs o.op fun v obs => K (putE e1 o.dst v) obs) = some r → o.wp P a w (fun a' w' => ∃ e1 v vv obs' A', EnvR A ok w e1 a.tmps ∧ a' = a.put o.dst vv ∧ K (putE e1 o.dst v) obs' = some r ∧ R v vv obs' A' w') Q :=
    fun e1 hE1 h => Oper.wp_mono (fun a' w' ⟨vv, v, obs', A', h1, h2, h3⟩ => ⟨e1, v, vv, obs', A', hE1, h1, h2, h3⟩) (hf e1 _ hE1 h)
  split at h
  · rename_i hg
    rw [if_pos (by simp [Region.wanted, hg])]
    exact .inl (one e hE h)
  · rename_i j want hg
    split at h
    · cases h
    · rename_i d hj
      cases hu : isUndef (look e d) with
      | true =>
        rw [hu] at h
        rw [guard_undef hg hj hE (isUndef_eq hu), if_neg (by simp)]
        exact ⟨e, .tup [], undef, obs, A, hE, rfl, h, hskip⟩
      | false =>
      rw [hu] at h
      replace h := asBool_some h
      obtain ⟨t, ht, h⟩ := h
      have ht : look e d = .bool t := by simpa using ht
      obtain ⟨hw, hE1⟩ := guard_env hg hj hE ht
      have h : (bif t == want then f ((d, .bool t) :: e) obs o.op fun v obs => K (putE ((d, .bool t) :: e) o.dst v) obs else K (putE ((d, .bool t) :: e) o.dst (.tup [])) obs) = some r := by
        cases t <;> exact h
      rw [hw]
      cases hb : t == want with
      | true =>
        rw [hb] at h
        rw [if_pos rfl]
        exact .inl (one _ hE1 h)
      | false =>
        rw [hb] at h
        rw [if_neg (by simp)]
        exact ⟨_, .tup [], undef, obs, A, hE1, rfl, h, hskip⟩

theorem allIn_iff {W : List Nat} {L : Nat} : ∀ (X : List Nat), allIn W L X = true → ∀ i ∈ X, i ∈ W ∨ L ≤ i
  | [], _, i, hi => by simp at hi
  | j :: X, h, i, hi => by
    simp only [allIn, Bool.and_eq_true, Bool.or_eq_true] at h
    rcases List.mem_cons.1 hi with rfl | hi
    · exact h.1.imp (memN_iff W i).1 Nat.le_of_ble_eq_true
    · exact allIn_iff X h.2 i hi

theorem shutAll_length : ∀ (ids : List Nat) {obs : Obs}, (shutAll obs ids).length = obs.length
  | [], _ => rfl
  | i :: ids, obs => by
    simp only [shutAll]
    rw [shutAll_length ids]
    unfold shutAt
    split
    · exact setOb_length _ _ _
    · rfl
theorem shutAll_none : ∀ (ids : List Nat) {obs : Obs} {i : Nat} {o : Ob}, (shutAll obs ids)[i]? = some o → o.isOpen = true → i ∉ ids
  | [], _, _, _, _, _ => by simp
  | j :: ids, obs, i, o, h, ho => by
    simp only [shutAll] at h
    intro hm
    rcases List.mem_cons.1 hm with rfl | hm
    · obtain ⟨o0, h1, h2, _⟩ := shutAll_open ids h
      have e := h2 ho
      subst e
      rw [shutAt_get', if_pos rfl] at h1
      cases hx : obs[i]? with
      | none => rw [hx] at h1; simp at h1
      | some y =>
        rw [hx] at h1
        simp only [Option.map_some, Option.some.injEq] at h1
        rw [← h1] at ho
        exact shutOb_open ho
    · exact shutAll_none ids h ho hm
theorem shutAll_get : ∀ (ids : List Nat) (obs : Obs) (i : Nat), (shutAll obs ids)[i]? = if i ∈ ids then (obs[i]?).map shutOb else obs[i]?
  | [], _, _ => by simp [shutAll]
  | j :: ids, obs, i => by
    simp only [shutAll]
    rw [shutAll_get ids, shutAt_get']
    by_cases h : i = j
    · subst h
      simp only [if_true, List.mem_cons, true_or]
      split
      · cases obs[i]? with
        | none => rfl
        | some o => cases o <;> rfl
      · rfl
    · simp only [h, if_false, List.mem_cons, false_or]
theorem shutK_map : ∀ (obs : Obs) (K : Obs → Option α), shutK obs K = K (obs.map shutOb)
  | [], K => rfl
  | o :: r, K => by
    cases o <;> simp only [shutK, List.map_cons, shutOb] <;> rw [shutK_map r]
theorem shutK_eq (obs : Obs) (K : Obs → Option α) : shutK obs K = K (shutAll obs (upto obs.length)) := by
  rw [shutK_map]
  congr 1
  apply List.ext_getElem?
  intro i
  rw [shutAll_get, List.getElem?_map]
  split
  · rfl
  · rename_i h
    have : obs.length ≤ i := Nat.le_of_not_lt fun hl => h (List.mem_of_getElem? (upto_get _ _ hl))
    rw [List.getElem?_eq_none this]
    rfl
mutual
theorem plain_rl {ok ok' : Nat → Prop} : ∀ (v : V) {x : Value}, plainV v = true → Rl A ok w v x → Rl A' ok' w' v x
  | .bool _, _, _, h => by simpa [Rl] using h
  | .int _ _, _, _, h => by simpa [Rl] using h
  | .str _, _, _, h => by simpa [Rl] using h
  | .agg cs, _, hp, h => by
    simp only [Rl] at h ⊢
    obtain ⟨cv, e, hl, ho⟩ := h
    exact ⟨cv, e, plain_rls cs (by simpa [plainV] using hp) hl, ho⟩
  | .tup cs, _, hp, h => by
    simp only [Rl] at h ⊢
    obtain ⟨cv, e, hl⟩ := h
    exact ⟨cv, e, plain_rls cs (by simpa [plainV] using hp) hl⟩
  | .u, _, hp, _ | .nilsl, _, hp, _ | .nilp, _, hp, _ | .nilf, _, hp, _ | .nili, _, hp, _ | .sl _ _, _, hp, _ | .osl _ _, _, hp, _ | .ref _, _, hp, _ | .prj _ _, _, hp, _ | .ptr _ _, _, hp, _ | .pin _ _, _, hp, _ | .fn _ _, _, hp, _ => by simp [plainV] at hp
theorem plain_rls {ok ok' : Nat → Prop} : ∀ (vs : List V) {xs : List Value}, plainVs vs = true → RlL A ok w vs xs → RlL A' ok' w' vs xs
  | [], [], _, _ => by simp [RlL]
  | [], _ :: _, _, h => by simp [RlL] at h
  | _ :: _, [], _, h => by simp [RlL] at h
  | v :: vs, x :: xs, hp, h => by
    simp only [plainVs, Bool.and_eq_true] at hp
    simp only [RlL] at h ⊢
    exact ⟨plain_rl v hp.1 h.1, plain_rls vs hp.2 h.2⟩
end

/-- One of those that write. -/
theorem opD_sound (hC : CfgOk P C) {call : CallT} (hcall : CallFOk P C call) {o : Oper} {K : V → Obs → Option α} {W : List Nat} {Q : Exit → Act → World → Prop}
    (hH : Here C N s0 0 Ar obsr wr nt e A obs a w) (hlen : Ar.length = obsr.length) {tl : Bool} (hinv : tl = false → Inv obsr.length Ar wr W A obs ∧ Kept Ar wr W w) {e1 : Env} (hE : EnvR A (Ok N A obs w) w e1 a.tmps)
    (h : opD C call W obsr.length tl e1 obs o.op K = some r) :
    o.wp P a w (fun a' w' => ∃ vv v obs' A', a' = a.put o.dst vv ∧ K v obs' = some r ∧ (After C N s0 0 A obs w A' obs' w' ∧ Rl A' (Ok N A' obs' w') w' v vv ∧ (tl = false → Inv obsr.length Ar wr W A' obs' ∧ Kept Ar wr W w'))) Q := by
  unfold opD at h
  split at h
  · rename_i t x ho
    obtain ⟨v, vv, hk, hr, hR⟩ := load_sound hC hH.st (ev_sound hE x) h
    exact wp_value (by simp only [execOp, ho, Sem.run_bind, hr, Result.andThen_ok]; rfl) ⟨_, _, _, _, rfl, hk, After.refl hH.st, hR, hinv⟩
  split at h
  · rw [shutK_eq] at h
    have hA0 := shutAll_after (upto obs.length) hH.st
    have hw := op_sound (Q := Q) hC (fun f args K vals hk hl => hcall _ f args _ K r _ s0 A w vals hk hA0.st hH.fresh hl) (hE.mono hA0.mono) hA0.st (Nat.zero_le _) hH.fresh h
    refine Oper.wp_mono ?_ hw
    rintro a' w' ⟨vv, rfl, v, obsE', A', hk, hA, hR⟩
    obtain ⟨hpl, hk⟩ := must_some hk
    have hkeep : ∀ b, b < w.heap.size → w'.heap[b]? = w.heap[b]? := fun b hb => hA.frame b hb fun ⟨id, o, v', h1, h2, h3, _⟩ => by
      have hlt : id < obs.length := by
        have := (List.getElem?_eq_some_iff.1 h1).1
        rwa [shutAll_length] at this
      exact shutAll_none (upto obs.length) h1 h3 (List.mem_of_getElem? (upto_get _ _ hlt))
    have hg := hH.st.grown (w' := w') ⟨hA.os, hA.tape, hA.output, hA.size, fun b hb _ => hkeep b hb⟩
    exact ⟨vv, v, obs, A, rfl, hk, hg, plain_rl v hpl hR, fun ht => ⟨(hinv ht).1, fun b hb hW => (hkeep b (Nat.lt_of_lt_of_le hb hH.hsize)).trans ((hinv ht).2 b hb hW)⟩⟩
  rw [forceN_eq, eraseK_eq] at h
  simp only [mergeK_eq] at h
  obtain ⟨hall, h⟩ := must_some h
  generalize touch C e1 obs o.op = X at h hall
  have hS := hH.st.erase X
  have hN : ∀ b, w.heap.size ≤ b → ¬ (N b ∨ Hid A obs X b) := fun b hb hn => hn.elim (hH.fresh b hb) fun ⟨id, o, v, h1, h2, h3, h4⟩ => by
    have := hH.st.block_lt h1 (open_not_gone (keptB_false h2).1) h3 h4; omega
  have hE' : EnvR A (Ok (fun b => N b ∨ Hid A obs X b) A (eraseF X 0 obs) w) w e1 a.tmps := hE.mono erase_mono
  have hw := op_sound (Q := Q) hC (fun f args K vals hk hl => hcall _ f args _ K r _ s0 A w vals hk hS hN hl) hE' hS (Nat.zero_le _) hN h
  refine Oper.wp_mono ?_ hw
  rintro a' w' ⟨vv, rfl, v, obsE', A', hk, hA, hR⟩
  have hM := After.merge hH.st hA
  -- an open object that is not hidden lies in a block that may be written
  have vis : tl = false → ∀ b, b < wr.heap.size → Open A (eraseF X 0 obs) b → InW Ar W b := by
    rintro ht b hb ⟨id, x, v', h1, h2, h3, h4⟩
    obtain ⟨q1, q2⟩ := erase_some h1 (open_not_gone h3)
    have hX : id ∈ X := by
      simp only [keptB, openB_eq, h3, Bool.not_true, Bool.or_false] at q2
      exact (memN_iff X id).1 q2
    have hinv := (hinv ht).1
    rw [ht, Bool.false_or] at hall
    rcases allIn_iff _ hall id hX with hm | hL
    · by_cases hL : obsr.length ≤ id
      · exact hinv id x v' b hL q1 h3 h2 h4 hb
      · have hid : id < Ar.length := by omega
        have hp := hH.pre id Ar[id] (List.getElem?_eq_getElem hid)
        rw [h2] at hp
        cases hp
        exact ⟨id, _, hm, List.getElem?_eq_getElem hid, h4⟩
    · exact hinv id x v' b hL q1 h3 h2 h4 hb
  refine ⟨vv, v, _, A', rfl, hk, hM, ?_, fun ht => ⟨?_, ?_⟩⟩
  · -- the value, with what was hidden in sight again
    refine Rl.mono ⟨fun _ _ h => h, fun b q => ?_, fun _ _ => rfl⟩ v hR
    refine ⟨q.lt, fun hn => q.notN (.inl hn), fun id o' v' h1 h2 h3 h4 => ?_⟩
    have hlen' : obs.length ≤ obsE'.length := by have := hA.n0_le hS; rwa [eraseF_length] at this
    rw [mergeF_get X obs obsE' 0 id hlen'] at h1
    cases ho : obs[id]? with
    | none => rw [ho] at h1; exact q.apart id o' v' h1 h2 h3 h4
    | some x =>
      rw [ho] at h1
      simp only [Nat.zero_add] at h1
      cases hkp : keptB X id x with
      | true => rw [hkp] at h1; exact q.apart id o' v' h1 h2 h3 h4
      | false =>
        rw [hkp] at h1; simp at h1; subst h1
        have hi : id < A.length := by rw [hH.st.len]; exact (List.getElem?_eq_some_iff.1 ho).1
        have hp := hA.mono.pre id A[id] (List.getElem?_eq_getElem hi)
        rw [h2] at hp; cases hp
        exact q.notN (.inr ⟨id, x, _, ho, hkp, List.getElem?_eq_getElem hi, h4⟩)
  · intro id x v' b h1 h2 h3 h4 h5 h6
    have hbw : b < w.heap.size := Nat.lt_of_lt_of_le h6 hH.hsize
    have hlen' : obs.length ≤ obsE'.length := by have := hA.n0_le hS; rwa [eraseF_length] at this
    rw [mergeF_get X obs obsE' 0 id hlen'] at h2
    have fromE : obsE'[id]? = some x → InW Ar W b := fun hx => vis ht b h6 (hA.opens b hbw ⟨id, x, v', hx, h4, h3, h5⟩)
    cases ho : obs[id]? with
    | none => rw [ho] at h2; exact fromE h2
    | some y =>
      rw [ho] at h2
      simp only [Nat.zero_add] at h2
      cases hkp : keptB X id y with
      | true => rw [hkp] at h2; exact fromE h2
      | false =>
        rw [hkp] at h2; simp at h2; subst h2
        have hi : id < A.length := by rw [hH.st.len]; exact (List.getElem?_eq_some_iff.1 ho).1
        have hp := hA.mono.pre id A[id] (List.getElem?_eq_getElem hi)
        rw [h4] at hp; cases hp
        exact (hinv ht).1 id y _ b h1 ho h3 (List.getElem?_eq_getElem hi) h5 h6
  · intro b hb hW
    rw [hA.frame b (Nat.lt_of_lt_of_le hb hH.hsize) (fun hop => ?_)]
    · exact (hinv ht).2 b hb hW
    · obtain ⟨i, v', h1, h2, h3⟩ := vis ht b hb hop
      exact hW i v' h1 h2 h3

theorem opersP_alt {call : CallT} {ops : Array Oper} {W Z tails : List Nat} {L i : Nat} {p rest : Plan} {fr : Bool} {K : Env → Obs → Option α} (h : opersP C call ops W L Z tails (.alt i p rest) fr e obs K = some r) :
    (need ops[i]? fun o => operG (opD C call W L (memN i tails)) ops e obs o fun e obs => opersP C call ops W L Z tails p false e obs K) = some r ∧ (rest = .nil ∨ opersP C call ops W L Z tails rest fr e obs K = some r) := by
  cases rest with
  | nil => exact ⟨by simpa only [opersP] using h, .inl rfl⟩
  | done => exact ⟨(both_some h).1, .inr (both_some h).2⟩
  | take => exact ⟨(both_some h).1, .inr (both_some h).2⟩
  | alt => exact ⟨(both_some h).1, .inr (both_some h).2⟩

theorem plan_sound (hC : CfgOk P C) {call : CallT} (hcall : CallFOk P C call) {ops : Array Oper} {W Z tails : List Nat} (hZ : ∀ i ∈ Z, ∃ v, Ar[i]? = some v ∧ ∀ b, blockOf v = some b → b < wr.heap.size) {Q : Exit → Act → World → Prop} {K : Env → Obs → Option α} (hlen : Ar.length = obsr.length)
    (hQ : ∀ c a w, ¬ Q (.panic c) a w) (hsel : Region.noSelect ops = true) (hd : ops.toList.all (dstB nt) = true)
    (hK : ∀ e' obs' A' a' w', K e' obs' = some r → Here C N s0 0 Ar obsr wr nt e' A' obs' a' w' → Q .normal a' w') :
    ∀ (p : Plan) (k : Nat) (m ta : Bool) (listed : Array Bool) (fr : Bool) {e : Env} {A : List Value} {obs : Obs} {a : Act} {w : World}, planB ops tails p k m ta listed = true → Here C N s0 0 Ar obsr wr nt e A obs a w → (ta = false → Inv obsr.length Ar wr W A obs ∧ Kept Ar wr W w) →
    (fr = true → w = wr ∧ A = Ar) → (m = true ∧ p = .nil ∨ opersP C call ops W obsr.length Z tails p fr e obs K = some r) →
    (m = false → wpTail P ops Q (Kept Ar wr W) (memN · tails) k listed a w) ∧ (m = true → ∀ i ∈ altsOf p, wpOp P ops Q i (fun a' w' => (memN i tails = false → Kept Ar wr W w') ∧ wpTail P ops Q (Kept Ar wr W) (memN · tails) (k - 1) (listed.setIfInBounds i true) a' w') a w) := by
  have dst : ∀ {i : Nat} {o : Oper}, ops[i]? = some o → dstB nt o = true := fun ho => List.all_eq_true.1 hd _ (by rw [← Array.getElem?_toList] at ho; exact List.mem_of_getElem? ho)
  intro p
  induction p with
  | done =>
    intro k m ta listed fr e A obs a w hp hH hinv hfr h
    simp only [planB, Bool.and_eq_true, Bool.not_eq_true'] at hp
    refine ⟨fun hm => ?_, fun hm => by rw [hm] at hp; exact absurd hp.1 (by simp)⟩
    rcases h with ⟨_, h⟩ | h
    · cases h
    · exact wpTail_done (by simpa using hp.2) (hK e obs A a w (by simpa only [opersP] using h) hH) k
  | nil =>
    intro k m ta listed fr e A obs a w hp hH hinv hfr h
    have hp : m = true := hp
    refine ⟨fun hm => ?_, fun _ i hi => ?_⟩
    · rw [hm] at hp; cases hp
    · simp [altsOf] at hi
  | take i p ih =>
    intro k m ta listed fr e A obs a w hp hH hinv hfr h
    cases k with
    | zero => simp [planB] at hp
    | succ k =>
      simp only [planB, Bool.and_eq_true, Bool.not_eq_true'] at hp
      refine ⟨fun hm => ?_, fun hm => by rw [hm] at hp; exact absurd hp.1.1.1.1.1 (by simp)⟩
      have hta : ta = false := hp.1.1.1.1.2
      obtain ⟨hinv, hkept⟩ := hinv hta
      rcases h with ⟨_, h⟩ | h
      · cases h
      · simp only [opersP] at h
        replace h := need_some h
        obtain ⟨o, ho, h⟩ := h
        obtain ⟨e1, v, vv, obs', hE1, hk, ⟨hA, hR, hinv'⟩, hy⟩ := operG_yields (S := Kept Ar wr W) (P := P) (R := fun v vv obs' => After C N s0 0 A obs w A obs' w ∧ Rl A (Ok N A obs' w) w v vv ∧ Inv obsr.length Ar wr W A obs') hH.env
          (fun e1 K1 hE1 h => by
            obtain ⟨v, obs', vv, hk, hA, hR, hx, hsh⟩ := opT_sound hC (fun i hi v b h1 h2 => by
              obtain ⟨v', h3, h4⟩ := hZ i hi
              have := hH.pre i v' h3
              rw [h1] at this; cases this
              exact h4 b h2) hH.pre hkept hE1 hH.st hfr h
            exact ⟨v, obs', vv, hk, ⟨hA, hR, hinv.shut hsh⟩, hx⟩) ⟨After.refl hH.st, undef_rl, hinv⟩ h
        have hH1 : Here C N s0 0 Ar obsr wr nt e1 A obs a w := hH.step (After.refl hH.st) hE1 hH.size hH.defers
        have hH2 := hH1.put hA hR o.dst (dstB_lt (dst ho))
        refine wpTail_take ho hsel hQ (fun j oj hj hT => ?_) k listed a w hp.1.1.1.2 (by simpa using hp.1.1.2) hy hkept ((ih k false false _ fr hp.2 hH2 (fun _ => ⟨hinv', hkept⟩) hfr (.inr hk)).1 rfl)
        have hw := List.all_eq_true.1 hp.1.2 j ((memN_iff tails j).1 hT)
        unfold waitsB at hw
        rw [hj] at hw
        obtain ⟨e, he, hb⟩ := Array.any_eq_true'.1 hw
        simp only [Bool.and_eq_true, beq_iff_eq] at hb
        exact ⟨e, he, hb.1, hb.2⟩
  | alt i p rest ih1 ih2 =>
    intro k m ta listed fr e A obs a w hp hH hinv hfr h
    cases k with
    | zero => simp [planB] at hp
    | succ k =>
      simp only [planB, Bool.and_eq_true] at hp
      rcases h with ⟨_, h⟩ | h
      · cases h
      · obtain ⟨h1, h2⟩ := opersP_alt h
        replace h1 := need_some h1
        obtain ⟨o, ho, h1⟩ := h1
        have inv1 : memN i tails = false → Inv obsr.length Ar wr W A obs ∧ Kept Ar wr W w := fun hi => hinv (by
          have := hp.1.1.2
          rw [hi, Bool.false_or, Bool.not_eq_true'] at this
          exact this)
        have first : wpOp P ops Q i (fun a' w' => (memN i tails = false → Kept Ar wr W w') ∧ wpTail P ops Q (Kept Ar wr W) (memN · tails) k (listed.setIfInBounds i true) a' w') a w := by
          refine wpOp_mono ?_ (operG_wpOp (Q := Q) (R := fun v vv obs' A' w' => After C N s0 0 A obs w A' obs' w' ∧ Rl A' (Ok N A' obs' w') w' v vv ∧ (memN i tails = false → Inv obsr.length Ar wr W A' obs' ∧ Kept Ar wr W w')) ho hH.env
            (fun e1 K1 hE1 h => opD_sound hC hcall hH hlen inv1 hE1 h) ⟨After.refl hH.st, undef_rl, inv1⟩ h1)
          rintro a' w' ⟨e1, v, vv, obs', A', hE1, rfl, hk, hA, hR, hinv'⟩
          have hH1 : Here C N s0 0 Ar obsr wr nt e1 A obs a w := hH.step (After.refl hH.st) hE1 hH.size hH.defers
          have hH2 := hH1.put hA hR o.dst (dstB_lt (dst ho))
          exact ⟨fun hi => (hinv' hi).2, (ih1 k false _ _ false hp.1.2 hH2 (fun ht => hinv' (by simp only [Bool.or_eq_false_iff] at ht; exact ht.2)) (fun h => by cases h) (.inr hk)).1 rfl⟩
        have others := (ih2 (k + 1) true ta listed fr hp.2 hH hinv hfr (h2.imp (fun h => ⟨rfl, h⟩) id)).2 rfl
        have all : ∀ j ∈ altsOf (.alt i p rest), wpOp P ops Q j (fun a' w' => (memN j tails = false → Kept Ar wr W w') ∧ wpTail P ops Q (Kept Ar wr W) (memN · tails) k (listed.setIfInBounds j true) a' w') a w := by
          intro j hj
          simp only [altsOf, List.mem_cons] at hj
          rcases hj with rfl | hj
          · exact first
          · exact others j hj
        refine ⟨fun hm => ?_, fun _ => all⟩
        rw [hm] at hp
        simp only [Bool.false_or] at hp
        exact wpTail_all (rs := altsOf (.alt i p rest)) (by simpa [altsOf] using hp.1.1.1) (by simp [altsOf]) all

theorem liveIds_iff : ∀ (obs : Obs) (k i : Nat), i ∈ liveIds k obs → ∃ j o, i = k + j ∧ obs[j]? = some o ∧ o.isGone = false
  | [], k, i, h => by simp [liveIds] at h
  | o :: r, k, i, h => by
    have tail : i ∈ liveIds (k + 1) r → ∃ j x, i = k + j ∧ (o :: r)[j]? = some x ∧ x.isGone = false := fun h => by
      obtain ⟨j, x, h1, h2, h3⟩ := liveIds_iff r (k + 1) i h
      exact ⟨j + 1, x, by omega, by simpa using h2, h3⟩
    cases o with
    | gone => exact tail (by simpa only [liveIds] using h)
    | box t cs sh =>
      rcases List.mem_cons.1 (by simpa only [liveIds] using h) with rfl | h
      · exact ⟨0, _, rfl, rfl, rfl⟩
      · exact tail h
    | row t n cs sh =>
      rcases List.mem_cons.1 (by simpa only [liveIds] using h) with rfl | h
      · exact ⟨0, _, rfl, rfl, rfl⟩
      · exact tail h
/-- A region whose order is drawn. -/
theorem draw_sound (hC : CfgOk P C) {call : CallT} (hcall : CallFOk P C call) {id : Nat} {ops : Array Oper} {W tails : List Nat} {p : Plan} {Q : Exit → Act → World → Prop} {K : Env → Obs → Option α}
    (hH : Here C N s0 0 A0 obs0 w0 nt e A obs a w) (hQ : ∀ c a w, ¬ Q (.panic c) a w) (hsel : Region.noSelect ops = true) (hd : ops.toList.all (dstB nt) = true) (hp : planB ops tails p ops.size false false (Array.replicate ops.size false) = true)
    (h : opersP C call ops W obs.length (liveIds 0 obs) tails p true e obs K = some r)
    (hK : ∀ e' obs' A' a' w', K e' obs' = some r → Here C N s0 0 A0 obs0 w0 nt e' A' obs' a' w' → Q .normal a' w') : (Code.region id ops true).wp P Q a w := by
  refine wp_region_tail (S := Kept A { w with drawn := w.drawn + 1 } W) (T := (memN · tails)) hC.mixed ?_
  have aD := After.drawn hH.st { w with drawn := w.drawn + 1 } rfl rfl rfl rfl
  have hHd := hH.step aD (hH.env.mono aD.mono) hH.size hH.defers
  have hHr : Here C N s0 0 A obs { w with drawn := w.drawn + 1 } nt e A obs a { w with drawn := w.drawn + 1 } := Here.start hHd.st (Nat.zero_le _) hHd.fresh hHd.env hHd.size hHd.defers
  refine (plan_sound hC hcall (Z := liveIds 0 obs) (Ar := A) (obsr := obs) (wr := { w with drawn := w.drawn + 1 }) (fun i hi => by
    obtain ⟨j, o, rfl, ho, hg⟩ := liveIds_iff obs 0 i hi
    rw [Nat.zero_add]
    have hj : j < A.length := by rw [hH.st.len]; exact (List.getElem?_eq_some_iff.1 ho).1
    exact ⟨A[j], List.getElem?_eq_getElem hj, fun b hb => hH.st.block_lt ho hg (List.getElem?_eq_getElem hj) hb⟩) hH.st.len hQ hsel hd ?_ p ops.size false false _ true hp hHr (fun _ => ⟨?_, fun _ _ _ => rfl⟩) (fun _ => ⟨rfl, rfl⟩) (.inr h)).1 rfl
  · intro e' obs' A' a' w' hk hH'
    exact hK e' obs' A' a' w' hk (hHd.step hH'.after hH'.env hH'.size hH'.defers)
  · intro id o v b h1 h2 h3 h4 h5 h6
    have := (List.getElem?_eq_some_iff.1 h2).1
    omega
end
end Go.PI
