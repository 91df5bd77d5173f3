/-
  PI: a region whose order is drawn, whole.
-/
import Derived.Test.YtodapaplfjfnlaaGreatPITail
import Derived.Test.YtodapaplfjfnlaaGreatPIWrite
namespace Go.PI
open Go
set_option linter.unusedVariables false
set_option linter.unusedSimpArgs false
def altsOf : Plan → List Nat
  | .alt i _ r => i :: altsOf r
  | _ => []
def waitsB (ops : Array Oper) (i t : Nat) : Bool := match ops[t]? with
  | some o => o.after.any fun e => Region.binds .any e && e.on == i
  | none => true
def planG (D E : Plan → Nat → Bool → Array Bool → Bool) (X : Option Nat) (G : Nat → Bool) (ops : Array Oper) (tails : List Nat) : Plan → Nat → Bool → Bool → Array Bool → Bool
  | .done, k, m, ta, l => !m && D .done k ta l
  | .late i p, k, m, ta, l => !m && D (.late i p) k ta l
  | .drop i p, k, m, ta, l => !m && planG D E X G ops tails p k false ta l
  | .take i p, k, m, ta, l => match k with
    | 0 => false
    | k + 1 => !m && !ta && G i && Region.free .any ops l i && (Region.ready .any ops l).contains i && tails.all (waitsB ops i) && planG D E X G ops tails p k false false (l.setIfInBounds i true)
  | .alt i p rest, k, m, ta, l => match k with
    | 0 => false
    | k + 1 => (m || ((Region.ready .any ops l).filter (fun j => !(X == some j)) == i :: altsOf rest && E (.alt i p rest) (k + 1) ta l)) && G i && (memN i tails || !ta) && planG D E X G ops tails p k false (ta || memN i tails) (l.setIfInBounds i true) && planG D E X G ops tails rest (k + 1) true ta l
  | .nil, _, m, _, _ => m
def endD (ops : Array Oper) : Plan → Nat → Bool → Array Bool → Bool
  | .done, _, _, l => (Region.ready .any ops l).isEmpty
  | _, _, _, _ => false
def anyE : Plan → Nat → Bool → Array Bool → Bool := fun _ _ _ _ => true
def planE (ops : Array Oper) (tails : List Nat) (p : Plan) (k : Nat) (m ta : Bool) (l : Array Bool) : Bool := planG (endD ops) anyE none (fun _ => true) ops tails p k m ta l
def lateG (ops : Array Oper) (d : Nat) (i : Nat) : Bool := match ops[i]? with
  | some o => o.guard.isNone && !(o.dst == some d)
  | none => false
def lateD1 (ops : Array Oper) (tails : List Nat) (i0 : Nat) : Plan → Nat → Bool → Array Bool → Bool
  | .late i q, k, ta, l => i == i0 && planE ops tails q k false ta l
  | _, _, _, _ => false
def planL1 (ops : Array Oper) (tails : List Nat) (i0 d : Nat) (p : Plan) (k : Nat) (ta : Bool) (l : Array Bool) : Bool := planG (lateD1 ops tails i0) anyE none (lateG ops d) ops tails p k false ta l
def lateD0 (ops : Array Oper) (tails : List Nat) (i0 : Nat) : Plan → Nat → Bool → Array Bool → Bool
  | .late i q, k + 1, ta, l => !ta && i == i0 && Region.ready .any ops l == [i0] && planE ops tails q k false ta (l.setIfInBounds i0 true)
  | _, _, _, _ => false
def lateE0 (ops : Array Oper) (tails : List Nat) (i0 d : Nat) : Plan → Nat → Bool → Array Bool → Bool
  | p, k + 1, ta, l => !ta && planL1 ops tails i0 d p k ta (l.setIfInBounds i0 true)
  | _, _, _, _ => false
def allocB (ops : Array Oper) (i d : Nat) : Bool := match ops[i]? with
  | some o => o.guard.isNone && (o.dst == some d) && (match o.op with | .alloc _ => true | _ => false)
  | none => false
def planB (ops : Array Oper) (tails : List Nat) (p : Plan) (k : Nat) (m ta : Bool) (l : Array Bool) : Bool := match p with
  | .drop i0 q => match (ops[i0]?).bind (·.dst) with
    | some d => !m && allocB ops i0 d && !(memN i0 tails) && planG (lateD0 ops tails i0) (lateE0 ops tails i0 d) (some i0) (lateG ops d) ops tails q k false ta l
    | none => false
  | p => planE ops tails p k m ta l
section
variable {P : Program} {C : Cfg} {nm : NM} {N : Nat → Prop} {s0 n0 : Nat} {A0 A A' Ar As : List Value} {obs0 obs obs' obsr obss : Obs} {w0 w w' wr ws : World} {α : Type} {r : α} {nt : Nat} {e : Env} {a : Act}
theorem guard_env {ops : Array Oper} {o : Oper} {j d : Nat} {want t : Bool} {ok : Nat → Prop} (hg : o.guard = some (j, want)) (hj : (ops[j]?).bind (·.dst) = some d) (hE : EnvR A ok w e a.tmps) (ht : look e d = .bool t) :
    Region.wanted o (yielded ops a.tmps) = (t == want) ∧ EnvR A ok w ((d, .bool t) :: e) a.tmps := by
  have hv := hE d
  rw [ht] at hv
  simp only [Rl] at hv
  have hy : yielded ops a.tmps j = some t := by
    unfold yielded
    rw [hj]
    simp [look_size hv]
  refine ⟨?_, fun x => ?_⟩
  · simp only [Region.wanted, hg, hy]
    cases t <;> cases want <;> rfl
  · rw [look_cons]
    split
    · rename_i hx; subst hx; simp only [Rl]; exact hv
    · exact hE x
theorem operG_yields {ops : Array Oper} {o : Oper} {S : World → Prop} {f : Env → Obs → Op → (V → Obs → Option α) → Option α} {K : Env → Obs → Option α} {ok : Nat → Prop} {R : V → Value → Obs → Prop}
    (hE : EnvR A ok w e a.tmps) (hf : ∀ (e1 : Env) (K1 : V → Obs → Option α), EnvR A ok w e1 a.tmps → f e1 obs o.op K1 = some r → ∃ v obs' vv, K1 v obs' = some r ∧ R v vv obs' ∧ ∀ w2, S w2 → (execOp a.eval o).run P w2 = .ok (.value vv) w2)
    (hskip : R (.tup []) undef obs) (h : operG f ops e obs o K = some r) : ∃ e1 v vv obs', EnvR A ok w e1 a.tmps ∧ (o.guard = none → e1 = e) ∧ K (putE e1 o.dst v) obs' = some r ∧ R v vv obs' ∧ YieldsIf P ops S o vv a := by
  unfold operG at h
  split at h
  · rename_i hg
    obtain ⟨v, obs', vv, hk, hR, hx⟩ := hf e _ hE h
    exact ⟨e, v, vv, obs', hE, fun _ => rfl, hk, hR, .inl ⟨by simp [Region.wanted, hg], hx⟩⟩
  · rename_i j want hg
    split at h
    · cases h
    · rename_i d hj
      cases hu : isUndef (look e d) with
      | true =>
        rw [hu] at h
        exact ⟨e, .tup [], undef, obs, hE, fun _ => rfl, h, hskip, .inr ⟨guard_undef hg hj hE (isUndef_eq hu), rfl⟩⟩
      | false =>
      rw [hu] at h
      replace h := asBool_some h
      obtain ⟨t, ht, h⟩ := h
      have ht : look e d = .bool t := by simpa using ht
      obtain ⟨hw, hE1⟩ := guard_env hg hj hE ht
      have h : (bif t == want then f ((d, .bool t) :: e) obs o.op fun v obs => K (putE ((d, .bool t) :: e) o.dst v) obs else K (putE ((d, .bool t) :: e) o.dst (.tup [])) obs) = some r := by
        cases t <;> exact h
      cases hb : t == want with
      | true =>
        rw [hb] at h hw
        obtain ⟨v, obs', vv, hk, hR, hx⟩ := hf _ _ hE1 h
        exact ⟨_, v, vv, obs', hE1, (fun q => by rw [hg] at q; cases q), hk, hR, .inl ⟨hw, hx⟩⟩
      | false =>
        rw [hb] at h hw
        exact ⟨_, .tup [], undef, obs, hE1, (fun q => by rw [hg] at q; cases q), h, hskip, .inr ⟨hw, rfl⟩⟩
theorem operG_wpOp {ops : Array Oper} {i : Nat} {o : Oper} {Q : Exit → Act → World → Prop} {f : Env → Obs → Op → (V → Obs → Option α) → Option α} {K : Env → Obs → Option α} {ok : Nat → Prop} {R : V → Value → Obs → List Value → World → Prop}
    (hi : ops[i]? = some o) (hE : EnvR A ok w e a.tmps) (hf : ∀ (e1 : Env) (K1 : V → Obs → Option α), EnvR A ok w e1 a.tmps → f e1 obs o.op K1 = some r → o.wp P a w (fun a' w' => ∃ vv v obs' A', a' = a.put o.dst vv ∧ K1 v obs' = some r ∧ R v vv obs' A' w') Q)
    (hskip : R (.tup []) undef obs A w) (h : operG f ops e obs o K = some r) : wpOp P ops Q i (fun a' w' => ∃ e1 v vv obs' A', EnvR A ok w e1 a.tmps ∧ (o.guard = none → e1 = e) ∧ a' = a.put o.dst vv ∧ K (putE e1 o.dst v) obs' = some r ∧ R v vv obs' A' w') a w := by
  unfold wpOp
  simp only [hi]
  unfold operG at h
  have one : ∀ (e1 : Env), EnvR A ok w e1 a.tmps → (o.guard = none → e1 = e) → (f e1 obs o.op fun v obs => K (putE e1 o.dst v) obs) = some r → o.wp P a w (fun a' w' => ∃ e1 v vv obs' A', EnvR A ok w e1 a.tmps ∧ (o.guard = none → e1 = e) ∧ a' = a.put o.dst vv ∧ K (putE e1 o.dst v) obs' = some r ∧ R v vv obs' A' w') Q :=
    fun e1 hE1 he h => Oper.wp_mono (fun a' w' ⟨vv, v, obs', A', h1, h2, h3⟩ => ⟨e1, v, vv, obs', A', hE1, he, h1, h2, h3⟩) (hf e1 _ hE1 h)
  split at h
  · rename_i hg
    rw [if_pos (by simp [Region.wanted, hg])]
    exact .inl (one e hE (fun _ => rfl) h)
  · rename_i j want hg
    split at h
    · cases h
    · rename_i d hj
      cases hu : isUndef (look e d) with
      | true =>
        rw [hu] at h
        rw [guard_undef hg hj hE (isUndef_eq hu), if_neg (by simp)]
        exact ⟨e, .tup [], undef, obs, A, hE, fun _ => rfl, rfl, h, hskip⟩
      | false =>
      rw [hu] at h
      replace h := asBool_some h
      obtain ⟨t, ht, h⟩ := h
      have ht : look e d = .bool t := by simpa using ht
      obtain ⟨hw, hE1⟩ := guard_env hg hj hE ht
      have h : (bif t == want then f ((d, .bool t) :: e) obs o.op fun v obs => K (putE ((d, .bool t) :: e) o.dst v) obs else K (putE ((d, .bool t) :: e) o.dst (.tup [])) obs) = some r := by
        cases t <;> exact h
      rw [hw]
      cases hb : t == want with
      | true =>
        rw [hb] at h
        rw [if_pos rfl]
        exact .inl (one _ hE1 (fun q => by rw [hg] at q; cases q) h)
      | false =>
        rw [hb] at h
        rw [if_neg (by simp)]
        exact ⟨_, .tup [], undef, obs, A, hE1, (fun q => by rw [hg] at q; cases q), rfl, h, hskip⟩
theorem allIn_iff {W : List Nat} {L : Nat} : ∀ (X : List Nat), allIn W L X = true → ∀ i ∈ X, i ∈ W ∨ L ≤ i
  | [], _, i, hi => by simp at hi
  | j :: X, h, i, hi => by
    simp only [allIn, Bool.and_eq_true, Bool.or_eq_true] at h
    rcases List.mem_cons.1 hi with rfl | hi
    · exact h.1.imp (memN_iff W i).1 Nat.le_of_ble_eq_true
    · exact allIn_iff X h.2 i hi
theorem shutAll_length : ∀ (ids : List Nat) {obs : Obs}, (shutAll obs ids).length = obs.length
  | [], _ => rfl
  | i :: ids, obs => by
    simp only [shutAll]
    rw [shutAll_length ids]
    unfold shutAt
    split
    · exact setOb_length _ _ _
    · rfl
theorem shutAll_none : ∀ (ids : List Nat) {obs : Obs} {i : Nat} {o : Ob}, (shutAll obs ids)[i]? = some o → o.isOpen = true → i ∉ ids
  | [], _, _, _, _, _ => by simp
  | j :: ids, obs, i, o, h, ho => by
    simp only [shutAll] at h
    intro hm
    rcases List.mem_cons.1 hm with rfl | hm
    · obtain ⟨o0, h1, h2, _⟩ := shutAll_open ids h
      have e := h2 ho
      subst e
      rw [shutAt_get', if_pos rfl] at h1
      cases hx : obs[i]? with
      | none => rw [hx] at h1; simp at h1
      | some y =>
        rw [hx] at h1
        simp only [Option.map_some, Option.some.injEq] at h1
        rw [← h1] at ho
        exact shutOb_open ho
    · exact shutAll_none ids h ho hm
theorem shutAll_get : ∀ (ids : List Nat) (obs : Obs) (i : Nat), (shutAll obs ids)[i]? = if i ∈ ids then (obs[i]?).map shutOb else obs[i]?
  | [], _, _ => by simp [shutAll]
  | j :: ids, obs, i => by
    simp only [shutAll]
    rw [shutAll_get ids, shutAt_get']
    by_cases h : i = j
    · subst h
      simp only [if_true, List.mem_cons, true_or]
      split
      · cases obs[i]? with
        | none => rfl
        | some o => exact congrArg some (shutOb_idem _)
      · rfl
    · simp only [h, if_false, List.mem_cons, false_or]
theorem shutK_map : ∀ (obs : Obs) (K : Obs → Option α), shutK obs K = K (obs.map shutOb)
  | [], K => rfl
  | o :: r, K => by
    cases o with
    | nrow h t n cs => cases h <;> simp only [shutK, List.map_cons, shutOb] <;> rw [shutK_map r]
    | gone => simp only [shutK, List.map_cons, shutOb] <;> rw [shutK_map r]
    | box => simp only [shutK, List.map_cons, shutOb] <;> rw [shutK_map r]
    | row => simp only [shutK, List.map_cons, shutOb] <;> rw [shutK_map r]
theorem shutK_eq (obs : Obs) (K : Obs → Option α) : shutK obs K = K (shutAll obs (upto obs.length)) := by
  rw [shutK_map]
  congr 1
  apply List.ext_getElem?
  intro i
  rw [shutAll_get, List.getElem?_map]
  split
  · rfl
  · rename_i h
    have : obs.length ≤ i := Nat.le_of_not_lt fun hl => h (List.mem_of_getElem? (upto_get _ _ hl))
    rw [List.getElem?_eq_none this]
    rfl
mutual
theorem plain_rl {ok ok' : Nat → Prop} : ∀ (v : V) {x : Value}, plainV v = true → Rl A ok w v x → Rl A' ok' w' v x
  | .bool _, _, _, h => by simpa [Rl] using h
  | .int _ _, _, _, h => by simpa [Rl] using h
  | .str _, _, _, h => by simpa [Rl] using h
  | .agg cs, _, hp, h => by
    simp only [Rl] at h ⊢
    obtain ⟨cv, e, hl, ho⟩ := h
    exact ⟨cv, e, plain_rls cs (by simpa [plainV] using hp) hl, ho⟩
  | .tup cs, _, hp, h => by
    simp only [Rl] at h ⊢
    obtain ⟨cv, e, hl⟩ := h
    exact ⟨cv, e, plain_rls cs (by simpa [plainV] using hp) hl⟩
  | .u, _, hp, _ | .nilsl, _, hp, _ | .nilp, _, hp, _ | .nilf, _, hp, _ | .nili, _, hp, _ | .sl _ _, _, hp, _ | .osl _ _, _, hp, _ | .ref _, _, hp, _ | .prj _ _, _, hp, _ | .ptr _ _, _, hp, _ | .pin _ _, _, hp, _ | .fn _ _, _, hp, _ => by simp [plainV] at hp
theorem plain_rls {ok ok' : Nat → Prop} : ∀ (vs : List V) {xs : List Value}, plainVs vs = true → RlL A ok w vs xs → RlL A' ok' w' vs xs
  | [], [], _, _ => by simp [RlL]
  | [], _ :: _, _, h => by simp [RlL] at h
  | _ :: _, [], _, h => by simp [RlL] at h
  | v :: vs, x :: xs, hp, h => by
    simp only [plainVs, Bool.and_eq_true] at hp
    simp only [RlL] at h ⊢
    exact ⟨plain_rl v hp.1 h.1, plain_rls vs hp.2 h.2⟩
end
theorem hid_same {N' : Nat → Prop} {X : List Nat} {obsE' : Obs} (h : St C N s0 0 A obs w) (k : After C N' s0 0 A (eraseF X 0 obs) w A' obsE' w') {i : Nat} {x : Ob} {v : Value} (h1 : obs[i]? = some x) (h2 : keptB X i x = false) (h3 : A[i]? = some v) (b : Nat) : foot w' x v b ↔ foot w x v b := by
  refine foot_same (fun b h4 => ?_) b
  refine k.frame b (h.foot_lt h1 (open_not_gone (keptB_false h2).1) h3 h4) ?_
  rintro ⟨j, o, v', k1, k2, k3, k4⟩
  obtain ⟨q1, q2⟩ := erase_some k1 (open_not_gone k3)
  have := h.inj i j x o v v' b h1 q1 (open_not_gone (keptB_false h2).1) (open_not_gone k3) h3 k2 h4 k4
  subst this
  rw [h1] at q1; cases q1
  rw [h2] at q2; cases q2
theorem opD_sound (hC : CfgOk P C) {call : CallT} (hcall : CallFOk P C call) {o : Oper} {K : V → Obs → Option α} {W : List Nat} {Q : Exit → Act → World → Prop}
    (hH : Here C N s0 0 As obss ws nt e A obs a w) (hpre : ∀ (i : Nat) (v : Value), Ar[i]? = some v → A[i]? = some v) (hsz : wr.heap.size ≤ w.heap.size) (hlen : Ar.length = obsr.length) {tl : Bool} (hinv : tl = false → Inv Ar obsr wr W A obs w ∧ Kept Ar obsr wr W w) {e1 : Env} (hE : EnvR A (Ok N A obs w) w e1 a.tmps)
    (h : opD C nm call W obsr.length tl e1 obs o.op K = some r) :
    o.wp P a w (fun a' w' => ∃ vv v obs' A', a' = a.put o.dst vv ∧ K v obs' = some r ∧ (After C N s0 0 A obs w A' obs' w' ∧ Rl A' (Ok N A' obs' w') w' v vv ∧ (tl = false → Inv Ar obsr wr W A' obs' w' ∧ Kept Ar obsr wr W w'))) Q := by
  unfold opD at h
  split at h
  · rename_i t x ho
    obtain ⟨v, vv, hk, hr, hR⟩ := load_sound hC hH.st (ev_sound hE x) h
    exact wp_value (by simp only [execOp, ho, Sem.run_bind, hr, Result.andThen_ok]; rfl) ⟨_, _, _, _, rfl, hk, After.refl hH.st, hR, hinv⟩
  split at h
  · rw [shutK_eq] at h
    have hA0 := shutAll_after (upto obs.length) hH.st
    have hw := op_sound (Q := Q) hC (fun f args K vals hk hl => hcall _ f args _ K r _ s0 A w vals hk hA0.st hH.fresh hl) (hE.mono hA0.mono) hA0.st (Nat.zero_le _) hH.fresh h
    refine Oper.wp_mono ?_ hw
    rintro a' w' ⟨vv, rfl, v, obsE', A', hk, hA, hR⟩
    obtain ⟨hpl, hk⟩ := must_some hk
    have hkeep : ∀ b, b < w.heap.size → w'.heap[b]? = w.heap[b]? := fun b hb => hA.frame b hb fun ⟨id, o, v', h1, h2, h3, _⟩ => by
      have hlt : id < obs.length := by
        have := (List.getElem?_eq_some_iff.1 h1).1
        rwa [shutAll_length] at this
      exact shutAll_none (upto obs.length) h1 h3 (List.mem_of_getElem? (upto_get _ _ hlt))
    have hg := hH.st.grown (w' := w') ⟨hA.os, hA.tape, hA.output, hA.size, fun b hb _ => hkeep b hb⟩
    exact ⟨vv, v, obs, A, rfl, hk, hg, plain_rl v hpl hR, fun ht => ⟨(hinv ht).1.grow hH.st hkeep, fun b hb hW => (hkeep b (Nat.lt_of_lt_of_le hb hsz)).trans ((hinv ht).2 b hb hW)⟩⟩
  rw [forceN_eq, eraseK_eq] at h
  simp only [mergeK_eq] at h
  obtain ⟨hall, h⟩ := must_some h
  generalize touch C e1 obs o.op = X at h hall
  have hS := hH.st.erase X
  have hN : ∀ b, w.heap.size ≤ b → ¬ (N b ∨ Hid w A obs X b) := fun b hb hn => hn.elim (hH.fresh b hb) fun ⟨id, o, v, h1, h2, h3, h4⟩ => by
    have := hH.st.foot_lt h1 (open_not_gone (keptB_false h2).1) h3 h4; omega
  have hE' : EnvR A (Ok (fun b => N b ∨ Hid w A obs X b) A (eraseF X 0 obs) w) w e1 a.tmps := hE.mono erase_mono
  have hw := op_sound (Q := Q) hC (fun f args K vals hk hl => hcall _ f args _ K r _ s0 A w vals hk hS hN hl) hE' hS (Nat.zero_le _) hN h
  refine Oper.wp_mono ?_ hw
  rintro a' w' ⟨vv, rfl, v, obsE', A', hk, hA, hR⟩
  have hM := After.merge hH.st hA
  have vis : tl = false → ∀ b, b < wr.heap.size → Open w A (eraseF X 0 obs) b → InW Ar obsr wr W b := by
    rintro ht b hb ⟨id, x, v', h1, h2, h3, h4⟩
    obtain ⟨q1, q2⟩ := erase_some h1 (open_not_gone h3)
    have hX : id ∈ X := by
      simp only [keptB, openB_eq, h3, Bool.not_true, Bool.or_false] at q2
      exact (memN_iff X id).1 q2
    have hinv := (hinv ht).1
    rw [ht, Bool.false_or] at hall
    exact hinv id x v' b ((allIn_iff _ hall id hX).symm) q1 h3 h2 h4 hb
  refine ⟨vv, v, _, A', rfl, hk, hM, ?_, fun ht => ⟨?_, ?_⟩⟩
  ·
    refine Rl.mono ⟨fun _ _ h => h, fun b q => ?_, fun _ _ => rfl⟩ v hR
    refine ⟨q.lt, fun hn => q.notN (.inl hn), fun id o' v' h1 h2 h3 h4 => ?_⟩
    have hlen' : obs.length ≤ obsE'.length := by have := hA.n0_le hS; rwa [eraseF_length] at this
    rw [mergeF_get X obs obsE' 0 id hlen'] at h1
    cases ho : obs[id]? with
    | none => rw [ho] at h1; exact q.apart id o' v' h1 h2 h3 h4
    | some x =>
      rw [ho] at h1
      simp only [Nat.zero_add] at h1
      cases hkp : keptB X id x with
      | true => rw [hkp] at h1; exact q.apart id o' v' h1 h2 h3 h4
      | false =>
        rw [hkp] at h1; simp at h1; subst h1
        have hi : id < A.length := by rw [hH.st.len]; exact (List.getElem?_eq_some_iff.1 ho).1
        have hp := hA.mono.pre id A[id] (List.getElem?_eq_getElem hi)
        rw [h2] at hp; cases hp
        exact q.notN (.inr ⟨id, x, _, ho, hkp, List.getElem?_eq_getElem hi, (hid_same hH.st hA ho hkp (List.getElem?_eq_getElem hi) b).1 h4⟩)
  · intro id x v' b h1 h2 h3 h4 h5 h6
    have hbw : b < w.heap.size := Nat.lt_of_lt_of_le h6 hsz
    have hlen' : obs.length ≤ obsE'.length := by have := hA.n0_le hS; rwa [eraseF_length] at this
    rw [mergeF_get X obs obsE' 0 id hlen'] at h2
    have fromE : obsE'[id]? = some x → InW Ar obsr wr W b := fun hx => vis ht b h6 (hA.opens b hbw ⟨id, x, v', hx, h4, h3, h5⟩)
    cases ho : obs[id]? with
    | none => rw [ho] at h2; exact fromE h2
    | some y =>
      rw [ho] at h2
      simp only [Nat.zero_add] at h2
      cases hkp : keptB X id y with
      | true => rw [hkp] at h2; exact fromE h2
      | false =>
        rw [hkp] at h2; simp at h2; subst h2
        have hi : id < A.length := by rw [hH.st.len]; exact (List.getElem?_eq_some_iff.1 ho).1
        have hp := hA.mono.pre id A[id] (List.getElem?_eq_getElem hi)
        rw [h4] at hp; cases hp
        exact (hinv ht).1 id y _ b h1 ho h3 (List.getElem?_eq_getElem hi) ((hid_same hH.st hA ho hkp (List.getElem?_eq_getElem hi) b).1 h5) h6
  · intro b hb hW
    rw [hA.frame b (Nat.lt_of_lt_of_le hb hsz) (fun hop => ?_)]
    · exact (hinv ht).2 b hb hW
    · exact hW (vis ht b hb hop)
theorem opersP_alt {call : CallT} {ops : Array Oper} {W Z tails : List Nat} {L i : Nat} {p rest : Plan} {fr : Bool} {K : Env → Obs → Option α} (h : opersP C nm call ops W L Z tails (.alt i p rest) fr e obs K = some r) :
    (need ops[i]? fun o => operG (opD C nm call W L (memN i tails)) ops e obs o fun e obs => opersP C nm call ops W L Z tails p false e obs K) = some r ∧ (rest = .nil ∨ opersP C nm call ops W L Z tails rest fr e obs K = some r) := by
  cases rest with
  | nil => exact ⟨by simpa only [opersP] using h, .inl rfl⟩
  | done => exact ⟨(both_some h).1, .inr (both_some h).2⟩
  | take => exact ⟨(both_some h).1, .inr (both_some h).2⟩
  | alt => exact ⟨(both_some h).1, .inr (both_some h).2⟩
  | late => exact ⟨(both_some h).1, .inr (both_some h).2⟩
  | drop => exact ⟨(both_some h).1, .inr (both_some h).2⟩
theorem plan_sound (hC : CfgOk P C) {call : CallT} (hcall : CallFOk P C call) {D E : Plan → Nat → Bool → Array Bool → Bool} {X : Option Nat} {G : Nat → Bool} {J : Env → Act → Prop} {ops : Array Oper} {W Z tails : List Nat} (hinjr : InjR Ar obsr wr) (hZ : ∀ i ∈ Z, ∃ v, Ar[i]? = some v ∧ ∀ b, blockOf v = some b → b < wr.heap.size ∧ (i ∉ W → ¬ InW Ar obsr wr W b)) {Q : Exit → Act → World → Prop} {K : Env → Obs → Option α} (hlen : Ar.length = obsr.length)
    (hQ : ∀ c a w, ¬ Q (.panic c) a w) (hsel : Region.noSelect ops = true) (hd : ops.toList.all (dstB nt) = true)
    (hJ : ∀ (i : Nat) (o : Oper) (e e1 : Env) (a : Act) (v : V) (vv : Value), G i = true → ops[i]? = some o → J e a → (o.guard = none → e1 = e) → J (putE e1 o.dst v) (a.put o.dst vv))
    (hJd : ∀ (e : Env) (a : Act) (d : Option Nat), J e a → J (putE e d .u) a)
    (hK : ∀ (p : Plan) (k : Nat) (ta : Bool) (listed : Array Bool) (fr : Bool) (e : Env) (A : List Value) (obs : Obs) (a : Act) (w : World), D p k ta listed = true → (p = .done ∨ ∃ i q, p = .late i q) → opersP C nm call ops W obsr.length Z tails p fr e obs K = some r →
      Here C N s0 0 As obss ws nt e A obs a w → (∀ (i : Nat) (v : Value), Ar[i]? = some v → A[i]? = some v) → wr.heap.size ≤ w.heap.size → J e a → (ta = false → Inv Ar obsr wr W A obs w ∧ Kept Ar obsr wr W w) → wpTail P ops Q (Kept Ar obsr wr W) (memN · tails) k listed a w)
    (hX : ∀ i0, X = some i0 → ∀ (p : Plan) (k : Nat) (ta : Bool) (listed : Array Bool) (fr : Bool) (e : Env) (A : List Value) (obs : Obs) (a : Act) (w : World), E p (k + 1) ta listed = true → (∃ i q q', p = .alt i q q') → opersP C nm call ops W obsr.length Z tails p fr e obs K = some r →
      Here C N s0 0 As obss ws nt e A obs a w → (∀ (i : Nat) (v : Value), Ar[i]? = some v → A[i]? = some v) → wr.heap.size ≤ w.heap.size → J e a → (ta = false → Inv Ar obsr wr W A obs w ∧ Kept Ar obsr wr W w) → wpOp P ops Q i0 (fun a' w' => (memN i0 tails = false → Kept Ar obsr wr W w') ∧ wpTail P ops Q (Kept Ar obsr wr W) (memN · tails) k (listed.setIfInBounds i0 true) a' w') a w) :
    ∀ (p : Plan) (k : Nat) (m ta : Bool) (listed : Array Bool) (fr : Bool) {e : Env} {A : List Value} {obs : Obs} {a : Act} {w : World}, planG D E X G ops tails p k m ta listed = true → Here C N s0 0 As obss ws nt e A obs a w → (∀ (i : Nat) (v : Value), Ar[i]? = some v → A[i]? = some v) → wr.heap.size ≤ w.heap.size → J e a → (ta = false → Inv Ar obsr wr W A obs w ∧ Kept Ar obsr wr W w) →
    (fr = true → w = wr ∧ A = Ar ∧ Same obsr obs) → (m = true ∧ p = .nil ∨ opersP C nm call ops W obsr.length Z tails p fr e obs K = some r) →
    (m = false → wpTail P ops Q (Kept Ar obsr wr W) (memN · tails) k listed a w) ∧ (m = true → ∀ i ∈ altsOf p, wpOp P ops Q i (fun a' w' => (memN i tails = false → Kept Ar obsr wr W w') ∧ wpTail P ops Q (Kept Ar obsr wr W) (memN · tails) (k - 1) (listed.setIfInBounds i true) a' w') a w) := by
  have dst : ∀ {i : Nat} {o : Oper}, ops[i]? = some o → dstB nt o = true := fun ho => List.all_eq_true.1 hd _ (by rw [← Array.getElem?_toList] at ho; exact List.mem_of_getElem? ho)
  intro p
  induction p with
  | done =>
    intro k m ta listed fr e A obs a w hp hH hpre hsz hJ0 hinv hfr h
    simp only [planG, Bool.and_eq_true, Bool.not_eq_true'] at hp
    refine ⟨fun hm => ?_, fun hm => by rw [hm] at hp; exact absurd hp.1 (by simp)⟩
    rcases h with ⟨_, h⟩ | h
    · cases h
    · exact hK _ k ta listed fr e A obs a w hp.2 (.inl rfl) h hH hpre hsz hJ0 hinv
  | late i q _ =>
    intro k m ta listed fr e A obs a w hp hH hpre hsz hJ0 hinv hfr h
    simp only [planG, Bool.and_eq_true, Bool.not_eq_true'] at hp
    refine ⟨fun hm => ?_, fun hm => by rw [hm] at hp; exact absurd hp.1 (by simp)⟩
    rcases h with ⟨_, h⟩ | h
    · cases h
    · exact hK _ k ta listed fr e A obs a w hp.2 (.inr ⟨_, _, rfl⟩) h hH hpre hsz hJ0 hinv
  | drop i q ih =>
    intro k m ta listed fr e A obs a w hp hH hpre hsz hJ0 hinv hfr h
    simp only [planG, Bool.and_eq_true, Bool.not_eq_true'] at hp
    refine ⟨fun hm => ?_, fun hm => by rw [hm] at hp; exact absurd hp.1 (by simp)⟩
    rcases h with ⟨_, h⟩ | h
    · cases h
    · simp only [opersP] at h
      obtain ⟨o, ho, h⟩ := need_some h
      have hE : EnvR A (Ok N A obs w) w (putE e o.dst .u) a.tmps := fun x => by
        cases o.dst with
        | none => exact hH.env x
        | some d =>
          simp only [putE, look_cons]
          split
          · simp only [Rl]
          · exact hH.env x
      exact (ih k false ta listed fr hp.2 (hH.step (After.refl hH.st) hE hH.size hH.defers) hpre hsz (hJd _ _ _ hJ0) hinv hfr (.inr h)).1 rfl
  | nil =>
    intro k m ta listed fr e A obs a w hp hH hpre hsz hJ0 hinv hfr h
    have hp : m = true := hp
    refine ⟨fun hm => ?_, fun _ i hi => ?_⟩
    · rw [hm] at hp; cases hp
    · simp [altsOf] at hi
  | take i p ih =>
    intro k m ta listed fr e A obs a w hp hH hpre hsz hJ0 hinv hfr h
    cases k with
    | zero => simp [planG] at hp
    | succ k =>
      simp only [planG, Bool.and_eq_true, Bool.not_eq_true'] at hp
      obtain ⟨⟨⟨⟨⟨⟨hm0, hta⟩, hG⟩, hfree⟩, hready⟩, hwaits⟩, hrest⟩ := hp
      refine ⟨fun hm => ?_, fun hm => by rw [hm] at hm0; exact absurd hm0 (by simp)⟩
      obtain ⟨hinv, hkept⟩ := hinv hta
      rcases h with ⟨_, h⟩ | h
      · cases h
      · simp only [opersP] at h
        replace h := need_some h
        obtain ⟨o, ho, h⟩ := h
        obtain ⟨e1, v, vv, obs', hE1, he1, hk, ⟨hA, hR, hinv', hfr'⟩, hy⟩ := operG_yields (S := Kept Ar obsr wr W) (P := P) (R := fun v vv obs' => After C N s0 0 A obs w A obs' w ∧ Rl A (Ok N A obs' w) w v vv ∧ Inv Ar obsr wr W A obs' w ∧ (fr = true → w = wr ∧ A = Ar ∧ Same obsr obs')) hH.env
          (fun e1 K1 hE1 h => by
            obtain ⟨v, obs', vv, hk, hA, hR, hx, hsh⟩ := opT_sound hC hinjr (fun i hi v b h1 h2 => by
              obtain ⟨v', h3, h4⟩ := hZ i hi
              have := hpre i v' h3
              rw [h1] at this; cases this
              exact h4 b h2) hpre hkept hE1 hH.st hfr h
            exact ⟨v, obs', vv, hk, ⟨hA, hR, hinv.shut hsh, fun h => let ⟨p1, p2, p3⟩ := hfr h; ⟨p1, p2, p3.shut hsh⟩⟩, hx⟩) ⟨After.refl hH.st, undef_rl, hinv, hfr⟩ h
        have hH1 : Here C N s0 0 As obss ws nt e1 A obs a w := hH.step (After.refl hH.st) hE1 hH.size hH.defers
        have hH2 := hH1.put hA hR o.dst (dstB_lt (dst ho))
        refine wpTail_take ho hsel hQ (fun j oj hj hT => ?_) k listed a w hfree (by simpa using hready) hy hkept ((ih k false false _ fr hrest hH2 hpre hsz (hJ i o e e1 a v vv hG ho hJ0 he1) (fun _ => ⟨hinv', hkept⟩) hfr' (.inr hk)).1 rfl)
        have hw := List.all_eq_true.1 hwaits j ((memN_iff tails j).1 hT)
        unfold waitsB at hw
        rw [hj] at hw
        obtain ⟨e, he, hb⟩ := Array.any_eq_true'.1 hw
        simp only [Bool.and_eq_true, beq_iff_eq] at hb
        exact ⟨e, he, hb.1, hb.2⟩
  | alt i p rest ih1 ih2 =>
    intro k m ta listed fr e A obs a w hp hH hpre hsz hJ0 hinv hfr h
    cases k with
    | zero => simp [planG] at hp
    | succ k =>
      simp only [planG, Bool.and_eq_true] at hp
      obtain ⟨⟨⟨⟨hmr, hG⟩, hta⟩, hp1⟩, hp2⟩ := hp
      rcases h with ⟨_, h⟩ | h
      · cases h
      · have hwhole := h
        obtain ⟨h1, h2⟩ := opersP_alt h
        replace h1 := need_some h1
        obtain ⟨o, ho, h1⟩ := h1
        have inv1 : memN i tails = false → Inv Ar obsr wr W A obs w ∧ Kept Ar obsr wr W w := fun hi => hinv (by
          have := hta
          rw [hi, Bool.false_or, Bool.not_eq_true'] at this
          exact this)
        have first : wpOp P ops Q i (fun a' w' => (memN i tails = false → Kept Ar obsr wr W w') ∧ wpTail P ops Q (Kept Ar obsr wr W) (memN · tails) k (listed.setIfInBounds i true) a' w') a w := by
          refine wpOp_mono ?_ (operG_wpOp (Q := Q) (R := fun v vv obs' A' w' => After C N s0 0 A obs w A' obs' w' ∧ Rl A' (Ok N A' obs' w') w' v vv ∧ (memN i tails = false → Inv Ar obsr wr W A' obs' w' ∧ Kept Ar obsr wr W w')) ho hH.env
            (fun e1 K1 hE1 h => opD_sound hC hcall hH hpre hsz hlen inv1 hE1 h) ⟨After.refl hH.st, undef_rl, inv1⟩ h1)
          rintro a' w' ⟨e1, v, vv, obs', A', hE1, he1, rfl, hk, hA, hR, hinv'⟩
          have hH1 : Here C N s0 0 As obss ws nt e1 A obs a w := hH.step (After.refl hH.st) hE1 hH.size hH.defers
          have hH2 := hH1.put hA hR o.dst (dstB_lt (dst ho))
          exact ⟨fun hi => (hinv' hi).2, (ih1 k false _ _ false hp1 hH2 (fun i v h => hA.mono.pre i v (hpre i v h)) (Nat.le_trans hsz hA.size) (hJ i o e e1 a v vv hG ho hJ0 he1) (fun ht => hinv' (by simp only [Bool.or_eq_false_iff] at ht; exact ht.2)) (fun h => by cases h) (.inr hk)).1 rfl⟩
        have others := (ih2 (k + 1) true ta listed fr hp2 hH hpre hsz hJ0 hinv hfr (h2.imp (fun h => ⟨rfl, h⟩) id)).2 rfl
        have all : ∀ j ∈ altsOf (.alt i p rest), wpOp P ops Q j (fun a' w' => (memN j tails = false → Kept Ar obsr wr W w') ∧ wpTail P ops Q (Kept Ar obsr wr W) (memN · tails) k (listed.setIfInBounds j true) a' w') a w := by
          intro j hj
          simp only [altsOf, List.mem_cons] at hj
          rcases hj with rfl | hj
          · exact first
          · exact others j hj
        refine ⟨fun hm => ?_, fun _ => all⟩
        rw [hm] at hmr
        simp only [Bool.false_or, Bool.and_eq_true, beq_iff_eq] at hmr
        refine wpTail_all rfl (fun e => by rw [e] at hmr; simp at hmr) fun j hj => ?_
        by_cases hx : X = some j
        · exact hX j hx _ k ta listed fr e A obs a w hmr.2 ⟨_, _, _, rfl⟩ hwhole hH hpre hsz hJ0 hinv
        · refine all j ?_
          have : j ∈ (Region.ready .any ops listed).filter (fun j => !(X == some j)) := List.mem_filter.2 ⟨hj, by simpa using hx⟩
          rw [hmr.1] at this
          simpa [altsOf] using this
theorem liveIds_iff : ∀ (obs : Obs) (k i : Nat), i ∈ liveIds k obs → ∃ j o, i = k + j ∧ obs[j]? = some o ∧ o.isGone = false
  | [], k, i, h => by simp [liveIds] at h
  | o :: r, k, i, h => by
    have tail : i ∈ liveIds (k + 1) r → ∃ j x, i = k + j ∧ (o :: r)[j]? = some x ∧ x.isGone = false := fun h => by
      obtain ⟨j, x, h1, h2, h3⟩ := liveIds_iff r (k + 1) i h
      exact ⟨j + 1, x, by omega, by simpa using h2, h3⟩
    cases o with
    | gone => exact tail (by simpa only [liveIds] using h)
    | box t cs sh =>
      rcases List.mem_cons.1 (by simpa only [liveIds] using h) with rfl | h
      · exact ⟨0, _, rfl, rfl, rfl⟩
      · exact tail h
    | nrow h0 t n cs =>
      rcases List.mem_cons.1 (by simpa only [liveIds] using h) with rfl | h
      · exact ⟨0, _, rfl, rfl, rfl⟩
      · exact tail h
    | row t n cs sh =>
      rcases List.mem_cons.1 (by simpa only [liveIds] using h) with rfl | h
      · exact ⟨0, _, rfl, rfl, rfl⟩
      · exact tail h
theorem St.avoid (h : St C N s0 0 A obs w) {w1 : World} (hs : w.heap.size ≤ w1.heap.size) (hk : ∀ b, b < w.heap.size → w1.heap[b]? = w.heap[b]?) (ho : w1.os = w.os) (ht : w1.tape = w.tape) (hu : w1.output = w.output) {b0 : Nat} (hb0 : w.heap.size ≤ b0) :
    St C (fun b => N b ∨ b = b0) s0 0 A obs w1 ∧ Mono (Ok N A obs w) (Ok (fun b => N b ∨ b = b0) A obs w1) A A w w1 := by
  have aE := h.ext w1 hs hk ho ht hu
  have hm : Mono (Ok N A obs w) (Ok (fun b => N b ∨ b = b0) A obs w1) A A w w1 :=
    ⟨fun _ _ h => h, fun b k => ⟨Nat.lt_of_lt_of_le k.lt hs, fun hn => hn.elim k.notN fun e => by have := k.lt; omega, (aE.mono.grow b k).apart⟩, fun b k => hk b k.lt⟩
  refine ⟨⟨h.len, Nat.le_trans h.base hs, h.one, ?_, ?_, ?_, aE.st.inj, ?_⟩, hm⟩
  · intro id t cs sh v h1 h2
    obtain ⟨g, cur, e, hg, hl, h1⟩ := h.box id t cs sh v h1 h2
    exact ⟨g, cur, e, by rw [hk g (Array.getElem?_eq_some_iff.1 hg).1]; exact hg, BoxR.mono hm cs hl, h1⟩
  · intro id t n cs sh v h1 h2
    obtain ⟨ti, vs, ht, hp, hown, hl, h3⟩ := h.row id t n cs sh v h1 h2
    exact ⟨ti, vs, ht, hp, ownsRow_same hown fun b hb => hk b (h.block_lt h1 rfl h2 hb), RlL.mono hm.nil cs hl, h3⟩
  · intro id h0 t n cs v h1 h2
    exact (h.nrow id h0 t n cs v h1 h2).same (fun _ _ h => h) fun b hb => hk b (h.foot_lt h1 rfl h2 hb)
  · intro id o v b h0 h1 g h2 h3
    have := aE.st.new id o v b h0 h1 g h2 h3
    refine ⟨this.1, fun hn => hn.elim this.2 fun e => ?_⟩
    have := h.foot_old hk h1 g h2 h3
    omega
theorem Here.adopt {t d : Nat} {z : Value} {cs : List V} {e0 : Env} {a0 : Act} {A1 : List Value} {obs1 : Obs} {w1 : World} (hX : Here C N s0 0 As obss ws nt e0 A1 obs1 a0 w1)
    (hY : Here C (fun b => N b ∨ b = w1.heap.size) s0 0 A1 obs1 (w1.alloc (.cells z.cells t)) nt e A obs a w) (hf : flatB C t cs = true) (hz : ∀ (A : List Value) (ok : Nat → Prop) (w : World), RlL A ok w cs z.cells.toList) (hone : ∀ x ∈ z.cells.toList, x.oneCell' = true)
    (hval : a.tmps.getD d undef = .pointer (some ⟨w1.heap.size, 0, none⟩)) :
    Here C N s0 0 As obss ws nt (putE e (some d) (.ptr obs.length 0)) (A ++ [.pointer (some ⟨w1.heap.size, 0, none⟩)]) (obs ++ [.box t cs false]) a w := by
  have hk1 : ∀ b, b < w1.heap.size → (w1.alloc (.cells z.cells t)).heap[b]? = w1.heap[b]? := fun b hb => heap_alloc_old w1 _ b hb
  have hs1 : (w1.alloc (.cells z.cells t)).heap.size = w1.heap.size + 1 := by
    show (w1.heap.push _).size = _
    rw [Array.size_push]
  have hav := (hX.st.avoid (w1 := w1.alloc (.cells z.cells t)) (b0 := w1.heap.size) (by omega) hk1 rfl rfl rfl (Nat.le_refl _)).2
  have hno : ¬ Open (w1.alloc (.cells z.cells t)) A1 obs1 w1.heap.size := fun ⟨id, o, v, h1, h2, h3, h4⟩ => by
    have := hX.st.foot_old hk1 h1 (open_not_gone h3) h2 h4
    omega
  have hb0 : w.heap[w1.heap.size]? = some (.cells z.cells t (0, 0)) := by
    rw [hY.frame _ (by omega) hno]
    exact heap_alloc_new w1 _
  have hbw : w1.heap.size < w.heap.size := by have := hY.hsize; omega
  have other : ∀ (id : Nat) (o : Ob) (v : Value), obs[id]? = some o → o.isGone = false → A[id]? = some v → ¬ foot w o v w1.heap.size := fun id o v h1 h2 h3 h4 =>
    (hY.st.new id o v _ (.inl (Nat.zero_le _)) h1 h2 h3 h4).2 (.inr rfl)
  have hlen := hY.st.len
  have pre : ∀ (id : Nat) (x : Value), A[id]? = some x → (A ++ [Value.pointer (some ⟨w1.heap.size, 0, none⟩)])[id]? = some x := fun id x hx => by
    rw [List.getElem?_append_left (List.getElem?_eq_some_iff.1 hx).1]; exact hx
  have split : ∀ (id : Nat) (o' : Ob) (v' : Value), (obs ++ [.box t cs false])[id]? = some o' → (A ++ [Value.pointer (some ⟨w1.heap.size, 0, none⟩)])[id]? = some v' → (obs[id]? = some o' ∧ A[id]? = some v') ∨ (id = obs.length ∧ o' = .box t cs false ∧ v' = .pointer (some ⟨w1.heap.size, 0, none⟩)) := by
    intro id o' v' h1 h2
    by_cases hid : id < obs.length
    · rw [List.getElem?_append_left hid] at h1
      rw [List.getElem?_append_left (by rw [hlen]; exact hid)] at h2
      exact .inl ⟨h1, h2⟩
    · rw [List.getElem?_append_right (by omega)] at h1
      rw [List.getElem?_append_right (by rw [hlen]; omega)] at h2
      have e : id - obs.length = 0 := by
        have := (List.getElem?_eq_some_iff.1 h1).1
        simp at this; omega
      rw [e] at h1; rw [hlen, e] at h2
      simp at h1 h2
      exact .inr ⟨by omega, h1.symm, h2.symm⟩
  have blk : ∀ {v : Value} {b : Nat}, v = .pointer (some ⟨w1.heap.size, 0, none⟩) → blockOf v = some b → b = w1.heap.size := fun e h => by
    rw [e] at h; simp [blockOf] at h; exact h.symm
  have hok : ∀ b, Ok (fun b => N b ∨ b = w1.heap.size) A obs w b → Ok N (A ++ [.pointer (some ⟨w1.heap.size, 0, none⟩)]) (obs ++ [.box t cs false]) w b := fun b k => ⟨k.lt, fun hn => k.notN (.inl hn), fun id o' v' h1 h2 h3 h4 => by
    rcases split id o' v' h1 h2 with ⟨h5, h6⟩ | ⟨_, e0, e⟩
    · exact k.apart id o' v' h5 h6 h3 h4
    · exact k.notN (.inr (blk e ((foot_flat (by rw [e0]; rfl)).1 h4)))⟩
  have hm : Mono (Ok (fun b => N b ∨ b = w1.heap.size) A obs w) (Ok N (A ++ [.pointer (some ⟨w1.heap.size, 0, none⟩)]) (obs ++ [.box t cs false]) w) A (A ++ [.pointer (some ⟨w1.heap.size, 0, none⟩)]) w w := ⟨pre, hok, fun _ _ => rfl⟩
  have hst : St C N s0 0 (A ++ [.pointer (some ⟨w1.heap.size, 0, none⟩)]) (obs ++ [.box t cs false]) w := by
    refine ⟨by simp [hlen], hY.st.base, ?_, ?_, ?_, ?_, ?_, ?_⟩
    · intro id y hy
      by_cases hid : id < A.length
      · rw [List.getElem?_append_left hid] at hy; exact hY.st.one id y hy
      · rw [List.getElem?_append_right (by omega)] at hy
        have e : id - A.length = 0 := by
          have := (List.getElem?_eq_some_iff.1 hy).1
          simp at this; omega
        rw [e] at hy; simp at hy; rw [← hy]; exact .inr ⟨_, rfl⟩
    · intro id t' cs' sh v' h1 h2
      rcases split id _ v' h1 h2 with ⟨h5, h6⟩ | ⟨_, e, e2⟩
      · obtain ⟨g, cur, e, hg, hl, h1⟩ := hY.st.box id t' cs' sh v' h5 h6
        exact ⟨g, cur, e, hg, BoxR.mono hm cs' hl, h1⟩
      · cases e
        exact ⟨w1.heap.size, z.cells, e2, hb0, BoxR.of hf (hz _ _ _), hone⟩
    · intro id t' n cs' sh v' h1 h2
      rcases split id _ v' h1 h2 with ⟨h5, h6⟩ | ⟨_, e, _⟩
      · obtain ⟨ti, vs, ht, hp, hown, hl, h1⟩ := hY.st.row id t' n cs' sh v' h5 h6
        exact ⟨ti, vs, ht, hp, hown, RlL.mono hm.nil cs' hl, h1⟩
      · cases e
    · intro id h0 t' n cs' v' h1 h2
      rcases split id _ v' h1 h2 with ⟨h5, h6⟩ | ⟨_, e, _⟩
      · exact (hY.st.nrow id h0 t' n cs' v' h5 h6).same hm.pre fun _ _ => rfl
      · cases e
    · intro i j o1 o2 v1 v2 b h1 h2 g1 g2 h3 h4 h5 h6
      rcases split i _ _ h1 h3 with ⟨a1, a2⟩ | ⟨a1, a4, a3⟩
      · rcases split j _ _ h2 h4 with ⟨b1, b2⟩ | ⟨b1, b4, b3⟩
        · exact hY.st.inj i j o1 o2 v1 v2 b a1 b1 g1 g2 a2 b2 h5 h6
        · exact (other i o1 v1 a1 g1 a2 (by rw [← blk b3 ((foot_flat (by rw [b4]; rfl)).1 h6)]; exact h5)).elim
      · rcases split j _ _ h2 h4 with ⟨b1, b2⟩ | ⟨b1, b4, b3⟩
        · exact (other j o2 v2 b1 g2 b2 (by rw [← blk a3 ((foot_flat (by rw [a4]; rfl)).1 h5)]; exact h6)).elim
        · omega
    · intro id o' v' b h0 h1 g h2 h3
      rcases split id _ _ h1 h2 with ⟨a1, a2⟩ | ⟨_, a4, a3⟩
      · have := hY.st.new id o' v' b (.inl (Nat.zero_le _)) a1 g a2 h3
        exact ⟨this.1, fun hn => this.2 (.inl hn)⟩
      · rw [blk a3 ((foot_flat (by rw [a4]; rfl)).1 h3)]
        exact ⟨hX.st.base, hX.fresh _ (Nat.le_refl _)⟩
  have ltX : ∀ {b : Nat}, b < ws.heap.size → b < w1.heap.size := fun h => Nat.lt_of_lt_of_le h hX.hsize
  refine ⟨hst, Nat.zero_le _, fun b hb => hX.fresh b (by omega), fun i v h => pre i v (hY.pre i v (hX.pre i v h)), fun b k => hok b (hY.grow b (hav.grow b (hX.grow b k))), fun b k => ?_, fun b hb hop => ?_, fun b hb => ?_, ?_, ?_, ?_, ?_, ?_, hY.size, hY.defers⟩
  · have k1 := hX.grow b k
    rw [hY.blk b (hav.grow b k1), hk1 b k1.lt, hX.blk b k]
  · rw [hY.frame b (by have := ltX hb; omega) (fun ⟨i, o, v, q1, q2, q3, q4⟩ => hop (hX.opens b hb ⟨i, o, v, q1, q2, q3, (foot_same (fun b hb => hk1 b (hX.st.foot_lt q1 (open_not_gone q3) q2 hb)) _).1 q4⟩)), hk1 b (ltX hb), hX.frame b hb hop]
  · rintro ⟨id, o', v', h1, h2, h3, h4⟩
    rcases split id _ _ h1 h2 with ⟨a1, a2⟩ | ⟨_, a4, a3⟩
    · obtain ⟨i, o, v, q1, q2, q3, q4⟩ := hY.opens b (by have := ltX hb; omega) ⟨id, o', v', a1, a2, h3, h4⟩
      exact hX.opens b hb ⟨i, o, v, q1, q2, q3, (foot_same (fun b hb => hk1 b (hX.st.foot_lt q1 (open_not_gone q3) q2 hb)) _).1 q4⟩
    · have := blk a3 ((foot_flat (by rw [a4]; rfl)).1 h4); have := ltX hb; omega
  · have := hX.hsize; omega
  · rw [hY.os]; exact hX.os
  · rw [hY.tape]; exact hX.tape
  · rw [hY.output]; exact hX.output
  · intro x
    simp only [putE, look_cons]
    split
    · rename_i e; subst e
      rw [hval]
      simp only [Rl]
      refine ⟨w1.heap.size, ?_, rfl⟩
      rw [← hlen]
      simp [blockOf]
    · exact Rl.mono hm _ (hY.env x)
section
variable {ops : Array Oper} {Q : Exit → Act → World → Prop}
theorem wpOp_alloc {R : Act → World → Prop} {i t : Nat} {o : Oper} {z : Value} {inf : TypeInfo} (hi : ops[i]? = some o) (hg : o.guard = none) (ho : o.op = .alloc t) (h1 : P.info? t = some inf) (h2 : inf.zero = some z)
    (h : R (a.put o.dst (.pointer (some ⟨w.heap.size, 0, none⟩))) (w.alloc (.cells z.cells t))) : wpOp P ops Q i R a w := by
  unfold wpOp
  simp only [hi]
  rw [if_pos (by simp [Region.wanted, hg])]
  have hr : (newVar t z).run P w = .ok ⟨w.heap.size, 0, none⟩ (w.alloc (.cells z.cells t)) := by simp [newVar, newRow, newObj, Sem.run]
  exact .inl (wp_value (by simp only [execOp, ho, Sem.run_bind, run_alloc h1 h2 hr, Result.andThen_ok]; rfl) h)
end
theorem plan_end (hC : CfgOk P C) {call : CallT} (hcall : CallFOk P C call) {ops : Array Oper} {W Z tails : List Nat} (hinjr : InjR Ar obsr wr) (hZ : ∀ i ∈ Z, ∃ v, Ar[i]? = some v ∧ ∀ b, blockOf v = some b → b < wr.heap.size ∧ (i ∉ W → ¬ InW Ar obsr wr W b)) {Q : Exit → Act → World → Prop} {K : Env → Obs → Option α} (hlen : Ar.length = obsr.length)
    (hQ : ∀ c a w, ¬ Q (.panic c) a w) (hsel : Region.noSelect ops = true) (hd : ops.toList.all (dstB nt) = true)
    (hK : ∀ e' obs' A' a' w', K e' obs' = some r → Here C N s0 0 As obss ws nt e' A' obs' a' w' → Q .normal a' w') {p : Plan} {k : Nat} {ta fr : Bool} {l : Array Bool} (hp : planE ops tails p k false ta l = true)
    (hH : Here C N s0 0 As obss ws nt e A obs a w) (hpre : ∀ (i : Nat) (v : Value), Ar[i]? = some v → A[i]? = some v) (hsz : wr.heap.size ≤ w.heap.size) (hinv : ta = false → Inv Ar obsr wr W A obs w ∧ Kept Ar obsr wr W w) (hfr : fr = true → w = wr ∧ A = Ar ∧ Same obsr obs)
    (h : opersP C nm call ops W obsr.length Z tails p fr e obs K = some r) : wpTail P ops Q (Kept Ar obsr wr W) (memN · tails) k l a w := by
  refine (plan_sound hC hcall (D := endD ops) (E := anyE) (X := none) (G := fun _ => true) (J := fun _ _ => True) hinjr hZ hlen hQ hsel hd (fun _ _ _ _ _ _ _ _ _ _ _ => trivial) (fun _ _ _ _ => trivial) ?_ (fun _ h => by cases h) p k false ta l fr hp hH hpre hsz trivial hinv hfr (.inr h)).1 rfl
  intro p k ta l fr e A obs a w hD hcase h hH _ _ _ _
  rcases hcase with rfl | ⟨_, _, rfl⟩
  · exact wpTail_done (by simpa [endD] using hD) (hK e obs A a w (by simpa only [opersP] using h) hH) k
  · cases hD
theorem alt_fr {call : CallT} {D E : Plan → Nat → Bool → Array Bool → Bool} {X : Option Nat} {G : Nat → Bool} {ops : Array Oper} {W Z tails : List Nat} {L : Nat} {K : Env → Obs → Option α} {fr : Bool} : ∀ (p : Plan) (k : Nat) (m ta : Bool) (l : Array Bool), planG D E X G ops tails p k m ta l = true →
    (∃ i q q', p = .alt i q q') → opersP C nm call ops W L Z tails p fr e obs K = some r → opersP C nm call ops W L Z tails p false e obs K = some r := by
  intro p
  induction p with
  | alt i q rest _ ih =>
    intro k m ta l hp _ h
    cases k with
    | zero => simp [planG] at hp
    | succ k =>
      simp only [planG, Bool.and_eq_true] at hp
      cases rest with
      | nil => simpa only [opersP] using h
      | alt j u v =>
        simp only [opersP] at h ⊢
        obtain ⟨h1, h2⟩ := both_some h
        have h3 := ih (k + 1) true ta l hp.2 ⟨_, _, _, rfl⟩ h2
        rw [h1, h3]
        exact both_self _
      | done => simp [planG] at hp
      | take => simp [planG] at hp
      | late => simp [planG] at hp
      | drop => simp [planG] at hp
  | done => rintro _ _ _ _ _ ⟨_, _, _, h⟩; cases h
  | take => rintro _ _ _ _ _ ⟨_, _, _, h⟩; cases h
  | late => rintro _ _ _ _ _ ⟨_, _, _, h⟩; cases h
  | drop => rintro _ _ _ _ _ ⟨_, _, _, h⟩; cases h
  | nil => rintro _ _ _ _ _ ⟨_, _, _, h⟩; cases h
theorem late_leaf (hC : CfgOk P C) {call : CallT} (hcall : CallFOk P C call) {ops : Array Oper} {W Z tails : List Nat} (hinjr : InjR Ar obsr wr) (hZ : ∀ i ∈ Z, ∃ v, Ar[i]? = some v ∧ ∀ b, blockOf v = some b → b < wr.heap.size ∧ (i ∉ W → ¬ InW Ar obsr wr W b)) {Q : Exit → Act → World → Prop} {K : Env → Obs → Option α} (hlen : Ar.length = obsr.length)
    (hQ : ∀ c a w, ¬ Q (.panic c) a w) (hsel : Region.noSelect ops = true) (hd : ops.toList.all (dstB nt) = true)
    (hK : ∀ e' obs' A' a' w', K e' obs' = some r → Here C N s0 0 As obss ws nt e' A' obs' a' w' → Q .normal a' w')
    {i0 t d : Nat} {o : Oper} (hi : ops[i0]? = some o) (ho : o.op = .alloc t) (hdst : o.dst = some d) {z : Value} (hz : ∀ ti, C.ty t = some ti → z.cells.toList = ti.zero) (hone : ∀ x ∈ z.cells.toList, x.oneCell' = true)
    {e0 : Env} {a0 : Act} {A1 : List Value} {obs1 : Obs} {w1 : World} (hX : Here C N s0 0 As obss ws nt e0 A1 obs1 a0 w1)
    (hY : Here C (fun b => N b ∨ b = w1.heap.size) s0 0 A1 obs1 (w1.alloc (.cells z.cells t)) nt e A obs a w)
    (hval : a.tmps.getD d undef = .pointer (some ⟨w1.heap.size, 0, none⟩)) (hpre : ∀ (i : Nat) (v : Value), Ar[i]? = some v → A[i]? = some v) (hsz1 : wr.heap.size ≤ w1.heap.size)
    {q : Plan} {k : Nat} {ta fr : Bool} {l : Array Bool} (hinv : ta = false → Inv Ar obsr wr W A obs w ∧ Kept Ar obsr wr W w) (hp : planE ops tails q k false ta l = true)
    (h : opersP C nm call ops W obsr.length Z tails (.late i0 q) fr e obs K = some r) : wpTail P ops Q (Kept Ar obsr wr W) (memN · tails) k l a w := by
  simp only [opersP] at h
  obtain ⟨o', ho', h⟩ := need_some h
  rw [hi] at ho'; cases ho'
  rw [ho] at h
  have h : (need (C.ty t) fun ti => newBox C obs t (ofConsts ti.zero) fun v obs => opersP C nm call ops W obsr.length Z tails q false (putE e o.dst v) obs K) = some r := h
  obtain ⟨ti, hti, h⟩ := need_some h
  unfold newBox at h
  obtain ⟨hf, h⟩ := must_some h
  have hH := hX.adopt hY hf (fun A ok w => by rw [hz ti hti]; exact ofConsts_rl _) hone hval
  rw [hdst] at h
  have hs2 : w1.heap.size ≤ w.heap.size := by
    have := hY.hsize
    have e : (w1.alloc (.cells z.cells t)).heap.size = w1.heap.size + 1 := by
      show (w1.heap.push _).size = _
      rw [Array.size_push]
    omega
  refine plan_end hC hcall hinjr hZ hlen hQ hsel hd hK hp hH (fun i v hv => ?_) (by omega) (fun ht => ⟨?_, (hinv ht).2⟩) (fun h => by cases h) h
  · have := hpre i v hv
    rw [List.getElem?_append_left (List.getElem?_eq_some_iff.1 this).1]; exact this
  · intro id x v b h1 h2 h3 h4 h5 h6
    by_cases hid : id < obs.length
    · rw [List.getElem?_append_left hid] at h2
      rw [List.getElem?_append_left (by rw [hY.st.len]; exact hid)] at h4
      exact (hinv ht).1 id x v b h1 h2 h3 h4 h5 h6
    · rw [List.getElem?_append_right (by rw [hY.st.len]; omega)] at h4
      have e : id - A.length = 0 := by
        have := (List.getElem?_eq_some_iff.1 h4).1
        simp at this; omega
      rw [e] at h4
      simp at h4
      have hid' : id - obs.length = 0 := by rw [← hY.st.len]; exact e
      rw [List.getElem?_append_right (by omega), hid'] at h2
      simp at h2
      have h5 := (foot_flat (by rw [← h2]; rfl)).1 h5
      rw [← h4] at h5
      simp [blockOf] at h5
      omega
theorem late_pending {t d : Nat} {z : Value} (hX : Here C N s0 0 As obss ws nt e A obs a w) (hd : d < nt) (hl : look e d = .u) :
    Here C (fun b => N b ∨ b = w.heap.size) s0 0 A obs (w.alloc (.cells z.cells t)) nt e A obs (a.put (some d) (.pointer (some ⟨w.heap.size, 0, none⟩))) (w.alloc (.cells z.cells t)) ∧
      (a.put (some d) (.pointer (some ⟨w.heap.size, 0, none⟩))).tmps.getD d undef = .pointer (some ⟨w.heap.size, 0, none⟩) := by
  have hk1 : ∀ b, b < w.heap.size → (w.alloc (.cells z.cells t)).heap[b]? = w.heap[b]? := fun b hb => heap_alloc_old w _ b hb
  have hs1 : (w.alloc (.cells z.cells t)).heap.size = w.heap.size + 1 := by
    show (w.heap.push _).size = _
    rw [Array.size_push]
  obtain ⟨h1, h2⟩ := hX.st.avoid (w1 := w.alloc (.cells z.cells t)) (b0 := w.heap.size) (by omega) hk1 rfl rfl rfl (Nat.le_refl _)
  have hE := (hX.env.mono h2).put (v := .u) (vv := .pointer (some ⟨w.heap.size, 0, none⟩)) (by simp only [Rl]) (some d) (fun x hx => by cases hx; exact Nat.lt_of_lt_of_le hd hX.size)
  refine ⟨Here.start h1 (Nat.zero_le _) (fun b hb hn => hn.elim (hX.fresh b (by omega)) (by omega)) (fun x => ?_) ?_ ?_, ?_⟩
  · have := hE x
    simp only [putE, look_cons] at this
    by_cases e1 : d = x
    · subst e1; rw [hl]; simp only [Rl]
    · rwa [if_neg e1] at this
  · simpa [Act.put] using hX.size
  · simpa [Act.put] using hX.defers
  · have hsz := Nat.lt_of_lt_of_le hd hX.size
    simp [Act.put, hsz]
theorem draw_sound (hC : CfgOk P C) {call : CallT} (hcall : CallFOk P C call) {id : Nat} {ops : Array Oper} {W tails : List Nat} {p : Plan} {Q : Exit → Act → World → Prop} {K : Env → Obs → Option α}
    (hH : Here C N s0 0 A0 obs0 w0 nt e A obs a w) (hQ : ∀ c a w, ¬ Q (.panic c) a w) (hsel : Region.noSelect ops = true) (hd : ops.toList.all (dstB nt) = true) (hp : planB ops tails p ops.size false false (Array.replicate ops.size false) = true)
    (hty : ∀ (i : Nat) (q : Plan) (o : Oper) (t : Nat), p = .drop i q → ops[i]? = some o → o.op = .alloc t → (C.ty t).isSome = true)
    (h : opersP C nm call ops W obs.length (liveIds 0 obs) tails p true e obs K = some r)
    (hK : ∀ e' obs' A' a' w', K e' obs' = some r → Here C N s0 0 A0 obs0 w0 nt e' A' obs' a' w' → Q .normal a' w') : (Code.region id ops true).wp P Q a w := by
  refine wp_region_tail (S := Kept A obs { w with drawn := w.drawn + 1 } W) (T := (memN · tails)) hC.mixed ?_
  have aD := After.drawn hH.st { w with drawn := w.drawn + 1 } rfl rfl rfl rfl
  have hHd := hH.step aD (hH.env.mono aD.mono) hH.size hH.defers
  have hHr : Here C N s0 0 A obs { w with drawn := w.drawn + 1 } nt e A obs a { w with drawn := w.drawn + 1 } := Here.start hHd.st (Nat.zero_le _) hHd.fresh hHd.env hHd.size hHd.defers
  have hinjr : InjR A obs { w with drawn := w.drawn + 1 } := hHd.st.inj
  have hZ : ∀ i ∈ liveIds 0 obs, ∃ v, A[i]? = some v ∧ ∀ b, blockOf v = some b → b < ({ w with drawn := w.drawn + 1 } : World).heap.size ∧ (i ∉ W → ¬ InW A obs { w with drawn := w.drawn + 1 } W b) := fun i hi => by
    obtain ⟨j, o, rfl, ho, hg⟩ := liveIds_iff obs 0 i hi
    rw [Nat.zero_add]
    have hj : j < A.length := by rw [hH.st.len]; exact (List.getElem?_eq_some_iff.1 ho).1
    exact ⟨A[j], List.getElem?_eq_getElem hj, fun b hb => ⟨hH.st.block_lt ho hg (List.getElem?_eq_getElem hj) hb, fun hiW ⟨i2, o2, v2, p1, p2, p3, p4, p5⟩ => hiW (by
      have := hinjr i2 j o2 o v2 A[j] b p2 ho p3 hg p4 (List.getElem?_eq_getElem hj) p5 (.inl hb)
      rw [← this]; exact p1)⟩⟩
  have hK' : ∀ e' obs' A' a' w', K e' obs' = some r → Here C N s0 0 A obs { w with drawn := w.drawn + 1 } nt e' A' obs' a' w' → Q .normal a' w' := fun e' obs' A' a' w' hk hH' =>
    hK e' obs' A' a' w' hk (hHd.step hH'.after hH'.env hH'.size hH'.defers)
  have hinv : Inv A obs { w with drawn := w.drawn + 1 } W A obs { w with drawn := w.drawn + 1 } := by
    intro id o v b h1 h2 h3 h4 h5 h6
    rcases h1 with h1 | h1
    · have := (List.getElem?_eq_some_iff.1 h2).1
      omega
    · exact ⟨id, o, v, h1, h2, open_gone h3, h4, h5⟩
  have hsame : Same obs obs := fun i o ho hg => ⟨o, ho, hg, fun _ => rfl⟩
  unfold planB at hp
  split at hp
  · rename_i i0 q
    split at hp
    · rename_i d hdst0
      simp only [Bool.and_eq_true, Bool.not_eq_true'] at hp
      obtain ⟨⟨⟨_, hal⟩, htl⟩, hp⟩ := hp
      obtain ⟨o, hi, hdst⟩ := Option.bind_eq_some_iff.1 hdst0
      clear hdst0
      unfold allocB at hal
      rw [hi] at hal
      simp only [Bool.and_eq_true, Option.isNone_iff_eq_none] at hal
      obtain ⟨⟨hg, _⟩, hop⟩ := hal
      obtain ⟨t, ho⟩ : ∃ t, o.op = .alloc t := by
        revert hop
        cases o.op <;> intro hop <;> first | exact ⟨_, rfl⟩ | cases hop
      simp only [opersP] at h
      obtain ⟨o', ho', h⟩ := need_some h
      rw [hi] at ho'; cases ho'
      rw [hdst] at h
      obtain ⟨ti, hti⟩ := Option.isSome_iff_exists.1 (hty i0 q o t rfl hi ho)
      obtain ⟨inf, z, _, hinf, _, _, hz, hzl, _, _, _, hone, _⟩ := (hC.ty t ti hti).info
      have hone : ∀ x ∈ z.cells.toList, x.oneCell' = true := by rw [hzl]; exact hone
      have hzl' : ∀ ti', C.ty t = some ti' → z.cells.toList = ti'.zero := fun ti' h' => by rw [hti] at h'; cases h'; exact hzl
      have hdn : d < nt := dstB_lt (List.all_eq_true.1 hd o (by rw [← Array.getElem?_toList] at hi; exact List.mem_of_getElem? hi)) d hdst
      have hHu : Here C N s0 0 A obs { w with drawn := w.drawn + 1 } nt (putE e (some d) .u) A obs a { w with drawn := w.drawn + 1 } := hHr.step (After.refl hHr.st) (fun x => by
        simp only [putE, look_cons]
        split
        · simp only [Rl]
        · exact hHr.env x) hHr.size hHr.defers
      have hlook : look (putE e (some d) .u) d = .u := by simp [putE, look_cons]
      have putL : ∀ (i : Nat) (o : Oper) (e e1 : Env) (v : V), lateG ops d i = true → ops[i]? = some o → look e d = .u → (o.guard = none → e1 = e) → look (putE e1 o.dst v) d = .u ∧ o.dst ≠ some d := fun i o e e1 v hG ho hl he => by
        unfold lateG at hG
        rw [ho] at hG
        simp only [Bool.and_eq_true, Option.isNone_iff_eq_none, Bool.not_eq_true', beq_eq_false_iff_ne, ne_eq] at hG
        rw [he hG.1]
        refine ⟨?_, hG.2⟩
        cases hds : o.dst with
        | none => exact hl
        | some d' =>
          have : d' ≠ d := fun e => hG.2 (by rw [hds, e])
          simp only [putE, look_cons, if_neg this]; exact hl
      have putD : ∀ (e : Env) (d' : Option Nat), look e d = .u → look (putE e d' .u) d = .u := fun e d' hl => by
        cases d' with
        | none => exact hl
        | some d' =>
          simp only [putE, look_cons]
          split
          · rfl
          · exact hl
      have kept1 : ∀ (w' : World) (ob : Obj), w.heap.size ≤ w'.heap.size → Kept A obs { w with drawn := w.drawn + 1 } W w' → Kept A obs { w with drawn := w.drawn + 1 } W (w'.alloc ob) := fun w' ob hs hk b hb hW => by
        rw [heap_alloc_old w' ob b (Nat.lt_of_lt_of_le hb hs)]
        exact hk b hb hW
      refine (plan_sound hC hcall (D := lateD0 ops tails i0) (E := lateE0 ops tails i0 d) (X := some i0) (G := lateG ops d) (J := fun e _ => look e d = .u) hinjr hZ hH.st.len hQ hsel hd
        (fun i o e e1 a v vv hG ho hl he => (putL i o e e1 v hG ho hl he).1) (fun e a d' hl => putD e d' hl) ?_ ?_ q ops.size false false _ true hp hHu (fun _ _ h => h) (Nat.le_refl _) hlook (fun _ => ⟨hinv, fun _ _ _ => rfl⟩) (fun _ => ⟨rfl, rfl, hsame⟩) (.inr h)).1 rfl
      · intro p k ta l fr e1 A1 obs1 a1 w1 hD hcase hrun hH1 hpre hsz hl1 hin
        rcases hcase with rfl | ⟨i, q', rfl⟩
        · cases k <;> simp [lateD0] at hD
        · cases k with
          | zero => simp [lateD0] at hD
          | succ k =>
            simp only [lateD0, Bool.and_eq_true, beq_iff_eq, Bool.not_eq_true'] at hD
            obtain ⟨⟨⟨hta, rfl⟩, hrd⟩, hpE⟩ := hD
            obtain ⟨hY, hval⟩ := late_pending (t := t) (z := z) hH1 hdn hl1
            refine wpTail_all hrd (by simp) fun j hj => ?_
            simp only [List.mem_singleton] at hj
            subst hj
            refine wpOp_alloc hi hg ho hinf hz ?_
            rw [hdst]
            exact ⟨fun _ => kept1 _ _ hsz (hin hta).2, late_leaf hC hcall hinjr hZ hH.st.len hQ hsel hd hK' hi ho hdst hzl' hone hH1 hY hval hpre hsz (fun _ => ⟨(hin hta).1.grow hH1.st (fun b hb => heap_alloc_old w1 _ b hb), kept1 _ _ hsz (hin hta).2⟩) hpE hrun⟩
      · intro i1 hi1 p k ta l fr e1 A1 obs1 a1 w1 hE1 halt h hH1 hpre hsz hl1 hin
        cases hi1
        simp only [lateE0, Bool.and_eq_true, Bool.not_eq_true'] at hE1
        obtain ⟨hta, hE1⟩ := hE1
        obtain ⟨hY, hval⟩ := late_pending (t := t) (z := z) hH1 hdn hl1
        refine wpOp_alloc hi hg ho hinf hz ?_
        rw [hdst]
        refine ⟨fun _ => kept1 _ _ hsz (hin hta).2, ?_⟩
        have hs1 : (w1.alloc (.cells z.cells t)).heap.size = w1.heap.size + 1 := by
          show (w1.heap.push _).size = _
          rw [Array.size_push]
        have hsz' : w.heap.size ≤ w1.heap.size := hsz
        refine (plan_sound hC hcall (D := lateD1 ops tails i0) (E := anyE) (X := none) (G := lateG ops d) (J := fun e a => look e d = .u ∧ a.tmps.getD d undef = .pointer (some ⟨w1.heap.size, 0, none⟩)) hinjr hZ hH.st.len hQ hsel hd
          (fun i o e e1 a v vv hG ho hl he => ⟨(putL i o e e1 v hG ho hl.1 he).1, ?_⟩) (fun e a d' hl => ⟨putD e d' hl.1, hl.2⟩) ?_ (fun _ h => by cases h) p k false ta _ false hE1 hY hpre (by show w.heap.size ≤ _; omega) ⟨hl1, hval⟩ (fun _ => ⟨(hin hta).1.grow hH1.st (fun b hb => heap_alloc_old w1 _ b hb), kept1 _ _ hsz (hin hta).2⟩) (fun h => by cases h) (.inr (alt_fr p k false ta _ hE1 halt h))).1 rfl
        · have hne := (putL i o e e1 v hG ho hl.1 he).2
          cases hds : o.dst with
          | none => exact hl.2
          | some d' =>
            have : d' ≠ d := fun e => hne (by rw [hds, e])
            have h2 := hl.2
            rw [Array.getD_eq_getD_getElem?] at h2 ⊢
            simpa [Act.put, Array.getElem?_setIfInBounds, this] using h2
        · intro p k ta l fr e2 A2 obs2 a2 w2 hD hcase hrun2 hH2 hpre2 hsz2 hl2 hin2
          rcases hcase with rfl | ⟨i, q', rfl⟩
          · cases hD
          · simp only [lateD1, Bool.and_eq_true, beq_iff_eq] at hD
            obtain ⟨rfl, hpE⟩ := hD
            exact late_leaf hC hcall hinjr hZ hH.st.len hQ hsel hd hK' hi ho hdst hzl' hone hH1 hH2 hl2.2 hpre2 hsz hin2 hpE hrun2
    · cases hp
  · exact plan_end hC hcall hinjr hZ hH.st.len hQ hsel hd hK' hp hHr (fun _ _ h => h) (Nat.le_refl _) (fun _ => ⟨hinv, fun _ _ _ => rfl⟩) (fun _ => ⟨rfl, rfl, hsame⟩) h
end
end Go.PI
