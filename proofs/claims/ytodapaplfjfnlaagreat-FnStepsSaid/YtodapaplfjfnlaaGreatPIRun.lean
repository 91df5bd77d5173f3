/-
  PI: code, functions: THE LAW.
-/
import Derived.Test.YtodapaplfjfnlaaGreatPIDraw3
import Derived.Test.YtodapaplfjfnlaaGreatPICall2
import Derived.Test.YtodapaplfjfnlaaGreatPIWrite2
import Derived.LoopN
import Derived.Laws.Sem
namespace Go.PI
open Go
set_option linter.unusedVariables false
set_option linter.unusedSimpArgs false
def lateTy (C : Cfg) (ops : Array Oper) : Plan → Bool
  | .drop i _ => match ops[i]? with
    | some o => match o.op with
      | .alloc t => (C.ty t).isSome
      | _ => true
    | none => true
  | _ => true
def codeB (C : Cfg) (f nt : Nat) : Code → Bool
  | .region id ops true => ops.toList.all (dstB nt) && Region.noSelect ops && planB ops (C.plan f id).2.2.1 (C.plan f id).2.2.2 ops.size false false (Array.replicate ops.size false) && lateTy C ops (C.plan f id).2.2.2
  | .region _ ops false => ops.toList.all (dstB nt)
  | .seq a b => codeB C f nt a && codeB C f nt b
  | .cond _ a b => codeB C f nt a && codeB C f nt b
  | .block _ a => codeB C f nt a
  | .loop a => codeB C f nt a
  | _ => true
def PrimOk (P : Program) (C : Cfg) (f : Nat) (p : Prim) : Prop :=
  ∀ (α : Type) (args : List V) (obs : Obs) (K : V → Obs → Option α) (r : α) (N : Nat → Prop) (s0 : Nat) (A : List Value) (w : World) (vals : Array Value),
    p.run α args obs K = some r → St C N s0 0 A obs w → (∀ b, w.heap.size ≤ b → ¬ N b) → RlL A (Ok N A obs w) w args vals.toList →
    Enters P f ∧ Calls P f vals w (fun en w' => ∃ vv, en = .returned vv ∧ Post C N s0 0 A obs w K r vv w')
structure CfgOk2 (P : Program) (C : Cfg) : Prop extends CfgOk P C where
  name : ∀ f fn, C.code f = some fn → (fn.name == "runtime.NumGoroutine") = false
  codes : ∀ f fn c, C.code f = some fn → fn.body = some c → codeB C f fn.ntmps c = true
  prims : ∀ f p, C.prim f = some p → PrimOk P C f p
section
variable {P : Program} {C : Cfg} {N : Nat → Prop} {s0 n0 : Nat} {A0 A A' : List Value} {obs0 obs obs' : Obs} {w0 w w' : World} {α : Type} {r : α} {nt : Nat} {e : Env} {a : Act}
def ExR : Exit' → Exit → Prop
  | .norm, .normal => True
  | .exit i, .exit j => i = j
  | .ret, .ret => True
  | _, _ => False
def ExPost (C : Cfg) (N : Nat → Prop) (s0 : Nat) (A0 : List Value) (obs0 : Obs) (w0 : World) (nt : Nat) (K : Exit' → Env → Obs → Option α) (r : α) (ex : Exit) (a : Act) (w : World) : Prop :=
  ∃ x e obs A, ExR x ex ∧ K x e obs = some r ∧ Here C N s0 0 A0 obs0 w0 nt e A obs a w
theorem ExPost.of {x : Exit'} {ex : Exit} {K : Exit' → Env → Obs → Option α} (hx : ExR x ex) (hk : K x e obs = some r) (hH : Here C N s0 0 A0 obs0 w0 nt e A obs a w) : ExPost C N s0 A0 obs0 w0 nt K r ex a w := ⟨x, e, obs, A, hx, hk, hH⟩
theorem ExPost.noPanic {K : Exit' → Env → Obs → Option α} (c : List PanicEntry) : ¬ ExPost C N s0 A0 obs0 w0 nt K r (.panic c) a w := by
  rintro ⟨x, _, _, _, hx, _⟩
  cases x <;> simp [ExR] at hx
def CodeOk (P : Program) (C : Cfg) (N : Nat → Prop) (s0 : Nat) (A0 : List Value) (obs0 : Obs) (w0 : World) (nt : Nat) (c : Code) (m : Env → Obs → (Exit' → Env → Obs → Option α) → Option α) (r : α) : Prop :=
  ∀ (K : Exit' → Env → Obs → Option α) (e : Env) (A : List Value) (obs : Obs) (a : Act) (w : World), Here C N s0 0 A0 obs0 w0 nt e A obs a w → m e obs K = some r → c.wp P (ExPost C N s0 A0 obs0 w0 nt K r) a w
theorem rounds_sound (hlen : A0.length = obs0.length) {c : Code} {id : Nat} {live : List Nat} {m : Env → Obs → (Exit' → Env → Obs → Option α) → Option α} (hm : CodeOk P C N s0 A0 obs0 w0 nt c m r) :
    ∀ (n : Nat) (K : Exit' → Env → Obs → Option α) (e : Env) (A : List Value) (obs : Obs) (a : Act) (w : World), Here C N s0 0 A0 obs0 w0 nt e A obs a w → exec.rounds C m id obs0.length live n e obs K = some r →
      Code.rounds P c (Exit.inBlock id (ExPost C N s0 A0 obs0 w0 nt K r)) n a w
  | 0, K, e, A, obs, a, w, hH, h => by simp [exec.rounds] at h
  | n + 1, K, e, A, obs, a, w, hH, h => by
    simp only [exec.rounds] at h
    rw [rounds_succ]
    refine Code.wp_mono ?_ (hm _ e A obs a w hH h)
    rintro ex a' w' ⟨x, e', obs', A', hx, hk, hH'⟩
    cases x with
    | norm =>
      cases ex <;> simp only [ExR] at hx
      obtain ⟨e2, obs2, A2, hk2, hH2⟩ := normal_sound (Nat.zero_le _) hlen hH' hk
      exact rounds_sound hlen hm n K e2 A2 obs2 a' w' hH2 hk2
    | exit i =>
      cases ex <;> simp only [ExR] at hx
      subst hx
      simp only [Exit.then, Exit.inBlock]
      cases hb : Nat.beq i id with
      | true =>
        rw [if_pos (Nat.eq_of_beq_eq_true hb)]
        dsimp only at hk
        rw [hb] at hk
        exact ExPost.of (x := .norm) trivial hk hH'
      | false =>
        rw [if_neg (Nat.ne_of_beq_eq_false hb)]
        dsimp only at hk
        rw [hb] at hk
        exact ExPost.of (x := .exit _) rfl hk hH'
    | ret =>
      cases ex <;> simp only [ExR] at hx
      exact ExPost.of (x := .ret) trivial hk hH'
theorem exec_sound (hC : CfgOk P C) {call : CallT} (hcall : CallFOk P C call) (hlen : A0.length = obs0.length) {fuel f : Nat} : ∀ (c : Code), codeB C f nt c = true → CodeOk P C N s0 A0 obs0 w0 nt c (fun e obs K => exec C call fuel f obs0.length c e obs K) r
  | .skip, hb, K, e, A, obs, a, w, hH, h => by
    simp only [exec] at h
    exact wp_skip (ExPost.of (x := .norm) trivial h hH)
  | .region id ops true, hb, K, e, A, obs, a, w, hH, h => by
    simp only [codeB, Bool.and_eq_true] at hb
    simp only [exec, forceN_eq, spineK_eq] at h
    exact draw_sound hC hcall hH (fun c a w => ExPost.noPanic c) hb.1.1.2 hb.1.1.1 hb.1.2 (fun i q o t hp ho hop => by
      have := hb.2
      rw [hp] at this
      simpa only [lateTy, ho, hop] using this) h fun e' obs' A' a' w' hk hH' => ExPost.of (x := .norm) trivial hk hH'
  | .region id ops false, hb, K, e, A, obs, a, w, hH, h => by
    simp only [codeB] at hb
    simp only [exec, spineK_eq] at h
    exact wp_region_list (opers_sound hC hcall ops.toList hH hb h fun e' obs' A' a' w' hk hH' => ExPost.of (x := .norm) trivial hk hH')
  | .seq x y, hb, K, e, A, obs, a, w, hH, h => by
    simp only [codeB, Bool.and_eq_true] at hb
    simp only [exec] at h
    refine wp_seq (Code.wp_mono ?_ (exec_sound hC hcall hlen x hb.1 _ e A obs a w hH h))
    rintro ex a' w' ⟨z, e', obs', A', hx, hk, hH'⟩
    cases z with
    | norm =>
      cases ex <;> simp only [ExR] at hx
      exact exec_sound hC hcall hlen y hb.2 K e' A' obs' a' w' hH' hk
    | exit i =>
      cases ex <;> simp only [ExR] at hx
      subst hx
      exact ExPost.of (x := .exit _) rfl hk hH'
    | ret =>
      cases ex <;> simp only [ExR] at hx
      exact ExPost.of (x := .ret) trivial hk hH'
  | .cond c x y, hb, K, e, A, obs, a, w, hH, h => by
    simp only [codeB, Bool.and_eq_true] at hb
    simp only [exec] at h
    replace h := asBool_some h
    obtain ⟨t, ht, h⟩ := h
    have ht : ev e c = .bool t := by simpa using ht
    have hc := ev_sound hH.env c
    rw [ht] at hc
    simp only [Rl] at hc
    refine wp_cond_split hc (fun e1 => ?_) (fun e1 => ?_)
    · subst e1; exact exec_sound hC hcall hlen x hb.1 K e A obs a w hH h
    · subst e1; exact exec_sound hC hcall hlen y hb.2 K e A obs a w hH h
  | .block id (.loop x), hb, K, e, A, obs, a, w, hH, h => by
    simp only [codeB] at hb
    simp only [exec] at h
    obtain ⟨e2, obs2, A2, hk2, hH2⟩ := normal_sound (Nat.zero_le _) hlen hH h
    exact wp_block (wp_loop_rounds fuel (rounds_sound hlen (exec_sound hC hcall hlen x hb) fuel K e2 A2 obs2 a w hH2 hk2))
  | .block id x, hb, K, e, A, obs, a, w, hH, h => by
    by_cases hx : ∃ y, x = .loop y
    · obtain ⟨y, rfl⟩ := hx
      simp only [codeB] at hb
      simp only [exec] at h
      obtain ⟨e2, obs2, A2, hk2, hH2⟩ := normal_sound (Nat.zero_le _) hlen hH h
      exact wp_block (wp_loop_rounds fuel (rounds_sound hlen (exec_sound hC hcall hlen y hb) fuel K e2 A2 obs2 a w hH2 hk2))
    · simp only [codeB] at hb
      replace h : exec C call fuel f obs0.length x e obs (fun x e obs => match x with
          | .exit i => bif Nat.beq i id then K .norm e obs else K (.exit i) e obs
          | x => K x e obs) = some r := by
        cases x <;> first | exact h | exact absurd ⟨_, rfl⟩ hx
      · refine wp_block (Code.wp_mono ?_ (exec_sound hC hcall hlen x hb _ e A obs a w hH h))
        rintro ex a' w' ⟨z, e', obs', A', hx, hk, hH'⟩
        cases z with
        | norm =>
          cases ex <;> simp only [ExR] at hx
          exact ExPost.of (x := .norm) trivial hk hH'
        | exit i =>
          cases ex <;> simp only [ExR] at hx
          subst hx
          simp only [Exit.inBlock]
          cases hb : Nat.beq i id with
          | true =>
            rw [if_pos (Nat.eq_of_beq_eq_true hb)]
            dsimp only at hk
            rw [hb] at hk
            exact ExPost.of (x := .norm) trivial hk hH'
          | false =>
            rw [if_neg (Nat.ne_of_beq_eq_false hb)]
            dsimp only at hk
            rw [hb] at hk
            exact ExPost.of (x := .exit _) rfl hk hH'
        | ret =>
          cases ex <;> simp only [ExR] at hx
          exact ExPost.of (x := .ret) trivial hk hH'
  | .exit i, hb, K, e, A, obs, a, w, hH, h => by
    simp only [exec] at h
    exact wp_exit (ExPost.of (x := .exit _) rfl h hH)
  | .ret, hb, K, e, A, obs, a, w, hH, h => by
    simp only [exec] at h
    exact wp_ret (ExPost.of (x := .ret) trivial h hH)
  | .loop x, hb, K, e, A, obs, a, w, hH, h => by simp [exec] at h
  | .rangeFunc .., hb, K, e, A, obs, a, w, hH, h => by simp [exec] at h
  | .scope _, hb, K, e, A, obs, a, w, hH, h => by simp [exec] at h
  | .label _, hb, K, e, A, obs, a, w, hH, h => by simp [exec] at h
  | .goto _, hb, K, e, A, obs, a, w, hH, h => by simp [exec] at h
  | .refuse _, hb, K, e, A, obs, a, w, hH, h => by simp [exec] at h
def resVar (tmps : Array Value) : ResultVar → Sem Value
  | .tmp t => pure (tmps.getD t undef)
  | .cell a t => do loadVar t (← asAddr (tmps.getD a undef))
theorem run_loadVar (hC : CfgOk P C) {t : Nat} {p : V} {pv : Value} (hS : St C N s0 n0 A obs w) (hp : Rl A (Ok N A obs w) w p pv) {K : V → Option α} (h : load C obs t p K = some r) :
    ∃ v vv, K v = some r ∧ (do loadVar t (← asAddr pv) : Sem Value).run P w = .ok vv w ∧ Rl A (Ok N A obs w) w v vv := by
  obtain ⟨v, vv, hk, hr, hR⟩ := load_sound hC hS hp h
  refine ⟨v, vv, hk, ?_, hR⟩
  have hpv : ∃ x, pv = .pointer (some x) := by
    unfold load at h
    replace h := need_some h
    obtain ⟨ti, _, h⟩ := h
    cases p with
    | ptr id off => simp only [Rl] at hp; obtain ⟨g, _, e⟩ := hp; exact ⟨_, e⟩
    | pin cs off => simp only [Rl] at hp; obtain ⟨b, o, vs, e, _⟩ := hp; exact ⟨_, e⟩
    | _ => dsimp only at h; cases h
  obtain ⟨x, rfl⟩ := hpv
  simpa [Instr.loadAt, Instr.sureAddr, asAddr] using hr
theorem results_sound (hC : CfgOk P C) (hS : St C N s0 n0 A obs w) (hE : EnvR A (Ok N A obs w) w e a.tmps) : ∀ (rs : List ResultVar) {K : List V → Option α}, results C obs e rs K = some r →
    ∃ vs vvs, K vs = some r ∧ (rs.mapM (resVar a.tmps)).run P w = .ok vvs w ∧ RlL A (Ok N A obs w) w vs vvs
  | [], K, h => ⟨[], [], by simpa [results] using h, by simp [Sem.run], by simp [RlL]⟩
  | .tmp t :: rs, K, h => by
    simp only [results] at h
    obtain ⟨vs, vvs, hk, hr, hR⟩ := results_sound hC hS hE rs h
    refine ⟨_, a.tmps.getD t undef :: vvs, hk, ?_, by simp only [RlL]; exact ⟨hE t, hR⟩⟩
    simp only [List.mapM_cons, resVar, Sem.run_bind, Sem.run_pure, Result.andThen_ok, hr]
  | .cell c t :: rs, K, h => by
    simp only [results] at h
    obtain ⟨v, vv, h, hr1, hR1⟩ := run_loadVar hC hS (hE c) h
    obtain ⟨vs, vvs, hk, hr, hR⟩ := results_sound hC hS hE rs h
    refine ⟨_, vv :: vvs, hk, ?_, by simp only [RlL]; exact ⟨hR1, hR⟩⟩
    rw [List.mapM_cons, Sem.run_bind]
    have : (resVar a.tmps (.cell c t)).run P w = .ok vv w := hr1
    simp only [this, Result.andThen_ok, Sem.run_bind, hr, Sem.run_pure]
theorem params_look : ∀ (args : List V) (i t : Nat), look (params i args) t = if i ≤ t ∧ t < i + args.length then args.getD (t - i) .u else .u
  | [], i, t => by
    simp only [params, look, List.length_nil]
    split
    · omega
    · rfl
  | v :: args, i, t => by
    simp only [params, look_cons, List.length_cons]
    rw [params_look args (i + 1) t]
    by_cases h : i = t
    · subst h; rw [if_pos rfl, if_pos (by omega)]; simp [List.getD]
    · rw [if_neg h]
      by_cases h2 : i + 1 ≤ t ∧ t < i + 1 + args.length
      · rw [if_pos h2, if_pos (by omega)]
        have : t - i = (t - (i + 1)) + 1 := by omega
        rw [this]; simp [List.getD]
      · rw [if_neg h2]
        split
        · omega
        · rfl
theorem enter_sound (hC : CfgOk2 P C) {call : CallT} (hcall : CallFOk P C call) (fuel : Nat) : CallOk P C (fun _ f args obs K => enter C call fuel f args obs K) := by
  intro α f args obs K r N s0 A w vals h hS hN hl
  unfold enter at h
  replace h := need_some h
  obtain ⟨fn, hf, h⟩ := h
  replace h := need_some h
  obtain ⟨c, hb, h⟩ := h
  have hfn := hC.code f fn hf
  refine ⟨⟨fn, c, hfn, hC.name f fn hf, hb⟩, ?_⟩
  refine calls_of_wp hfn hb ?_
  have hE : EnvR A (Ok N A obs w) w (params 0 args) (vals ++ Array.replicate (fn.ntmps - vals.size) undef) := by
    intro t
    rw [params_look]
    split
    · rename_i ht
      have hla := hl.length
      simp only [Array.length_toList] at hla
      obtain ⟨v, hv, hr⟩ := hl.get t args[t] (List.getElem?_eq_getElem (by omega))
      have e1 : args.getD (t - 0) .u = args[t]'(by omega) := by simp [List.getD, List.getElem?_eq_getElem (show t < args.length by omega)]
      rw [e1]
      have e2 : (vals ++ Array.replicate (fn.ntmps - vals.size) undef).getD t undef = v := by
        rw [Array.getD_eq_getD_getElem?, Array.getElem?_append_left (by omega)]
        rw [Array.getElem?_toList] at hv
        rw [hv]; rfl
      rw [e2]; exact hr
    · simp [Rl]
  have hH : Here C N s0 0 A obs w fn.ntmps (params 0 args) A obs { tmps := vals ++ Array.replicate (fn.ntmps - vals.size) undef, defers := [] } w :=
    Here.start hS (Nat.zero_le _) hN hE (by simp; omega) rfl
  refine Code.wp_mono ?_ (exec_sound hC.toCfgOk hcall hS.len c (hC.codes f fn c hf hb) _ _ A obs _ w hH h)
  rintro ex a' w' ⟨x, e', obs', A', hx, hk, hH'⟩
  have fin : ∀ (hk : (results C obs' e' fn.results.toList fun vs => match vs with
      | [v] => K v obs'
      | vs => K (.tup vs) obs') = some r), a'.defers = [] ∧ ∃ v, (Go.results fn a'.tmps).run P w' = .ok v w' ∧ ∃ vv, Ending.returned v = .returned vv ∧ Post C N s0 0 A obs w K r vv w' := by
    intro hk
    refine ⟨hH'.defers, ?_⟩
    obtain ⟨vs, vvs, hk, hr, hR⟩ := results_sound hC.toCfgOk hH'.st hH'.env _ hk
    have hm : (fn.results.mapM (resVar a'.tmps)).run P w' = .ok vvs.toArray w' := by
      rw [Array.mapM_eq_mapM_toList, Sem.run_map, hr]
      rfl
    have hres : (Go.results fn a'.tmps).run P w' = .ok (if h : vvs.toArray.size = 1 then vvs.toArray[0] else .tuple vvs.toArray) w' := by
      show ((do
        let vs ← fn.results.mapM (resVar a'.tmps)
        pure (if h : vs.size = 1 then vs[0] else .tuple vs)) : Sem Value).run P w' = _
      rw [Sem.run_bind, hm]
      rfl
    refine ⟨_, hres, _, rfl, ?_⟩
    split at hk
    · rename_i v
      cases vvs with
      | nil => simp [RlL] at hR
      | cons vv vvs =>
        cases vvs with
        | cons _ _ => simp [RlL] at hR
        | nil =>
          simp only [RlL] at hR
          exact ⟨v, obs', A', hk, hH'.after, by simpa using hR.1⟩
    · rename_i hne
      have hsz : ¬ vvs.toArray.size = 1 := by
        intro h1
        have := hR.length
        simp at h1
        rw [h1] at this
        cases vs with
        | nil => simp at this
        | cons v vs =>
          cases vs with
          | nil => exact hne v rfl
          | cons _ _ => simp at this
      refine ⟨_, obs', A', hk, hH'.after, ?_⟩
      rw [dif_neg hsz]
      simp only [Rl]
      exact ⟨_, rfl, by simpa using hR⟩
  cases x with
  | norm =>
    cases ex <;> simp only [ExR] at hx
    exact fin hk
  | exit i => dsimp only at hk; cases hk
  | ret =>
    cases ex <;> simp only [ExR] at hx
    exact fin hk
theorem callF_sound (hC : CfgOk2 P C) {call : CallT} (hcall : CallOk P C call) : CallFOk P C call := by
  intro α f args obs K r N s0 A w vals h hS hN hl
  unfold callF at h
  split at h
  · rename_i p hp
    exact hC.prims f p hp α args obs K r N s0 A w vals h hS hN hl
  · cases hi : C.inl f with
    | true => rw [hi] at h; exact hcall α f args obs K r N s0 A w vals h hS hN hl
    | false =>
      rw [hi] at h
      simp only [cond_false] at h
      split at h
      · exact callM_sound hcall hS hN hl h
      · obtain ⟨q1, q2⟩ := callX_sound hC.toCfgOk hcall hS hN hl h
        refine ⟨q1, Calls.mono q2 ?_⟩
        rintro en w' ⟨vv, rfl, v, obs1, A1, hk, hA, hR⟩
        obtain ⟨obs2, hk2, hA2⟩ := foldGo_sound obs1 0 hA.st hk
        exact ⟨vv, rfl, v, obs2, A1, hk2, hA.trans hA2, Rl.mono hA2.mono v hR⟩
      · exact callX_sound hC.toCfgOk hcall hS hN hl h
      · exact callX_sound hC.toCfgOk hcall hS hN hl h
theorem run_sound (hC : CfgOk2 P C) : ∀ (k : Nat), CallOk P C (run C k)
  | 0 => fun α f args obs K r N s0 A w vals h => by simp [run] at h
  | k + 1 => fun α f args obs K r N s0 A w vals h hS hN hl => enter_sound hC (callF_sound hC (run_sound hC k)) k α f args obs K r N s0 A w vals h hS hN hl
end
#print axioms run_sound
end Go.PI
