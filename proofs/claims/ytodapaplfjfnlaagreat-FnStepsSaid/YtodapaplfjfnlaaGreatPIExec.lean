/-
  PI: the operations, by their temporaries; calls by value.
-/
import Derived.Test.YtodapaplfjfnlaaGreatPIOps4
import Derived.Tactics
import Derived.Conc.MuLone
namespace Go.PI
open Go
set_option linter.unusedVariables false
set_option linter.unusedSimpArgs false
def Post {α : Type} (C : Cfg) (N : Nat → Prop) (s0 n0 : Nat) (A : List Value) (obs : Obs) (w : World) (K : V → Obs → Option α) (r : α) (vv : Value) (w' : World) : Prop :=
  ∃ v obs' A', K v obs' = some r ∧ After C N s0 n0 A obs w A' obs' w' ∧ Rl A' (Ok N A' obs' w') w' v vv
def Enters (P : Program) (f : Nat) : Prop := ∃ fn c, P.funcs[f]? = some fn ∧ (fn.name == "runtime.NumGoroutine") = false ∧ fn.body = some c
def CallOk (P : Program) (C : Cfg) (call : CallT) : Prop :=
  ∀ (α : Type) (f : Nat) (args : List V) (obs : Obs) (K : V → Obs → Option α) (r : α) (N : Nat → Prop) (s0 : Nat) (A : List Value) (w : World) (vals : Array Value),
    call α f args obs K = some r → St C N s0 0 A obs w → (∀ b, w.heap.size ≤ b → ¬ N b) → RlL A (Ok N A obs w) w args vals.toList →
    Enters P f ∧ Calls P f vals w (fun en w' => ∃ vv, en = .returned vv ∧ Post C N s0 0 A obs w K r vv w')
section
variable {P : Program} {C : Cfg} {nm : NM} {N : Nat → Prop} {s0 n0 : Nat} {A A' : List Value} {obs obs' : Obs} {w w' : World} {α : Type} {r : α}
theorem After.n0_le (h : After C N s0 n0 A obs w A' obs' w') (hS : St C N s0 n0 A obs w) : obs.length ≤ obs'.length := by
  rw [← hS.len, ← h.st.len]
  by_cases hz : A.length = 0
  · omega
  · have h1 : A[A.length - 1]? = some (A[A.length - 1]'(by omega)) := List.getElem?_eq_getElem (by omega)
    have := (List.getElem?_eq_some_iff.1 (h.mono.pre _ _ h1)).1
    omega
def EnvR (A : List Value) (ok : Nat → Prop) (w : World) (e : Env) (tmps : Array Value) : Prop := ∀ t, Rl A ok w (look e t) (tmps.getD t undef)
theorem EnvR.mono {ok ok' : Nat → Prop} (m : Mono ok ok' A A' w w') {e : Env} {tmps : Array Value} (h : EnvR A ok w e tmps) : EnvR A' ok' w' e tmps := fun t => Rl.mono m _ (h t)
theorem look_cons (s : Nat) (v : V) (e : Env) (t : Nat) : look ((s, v) :: e) t = if s = t then v else look e t := by
  simp only [look]
  cases h : Nat.beq s t with
  | true => rw [if_pos (Nat.eq_of_beq_eq_true h)]; rfl
  | false => rw [if_neg (Nat.ne_of_beq_eq_false h)]; rfl
theorem EnvR.put {ok : Nat → Prop} {e : Env} {a : Act} (h : EnvR A ok w e a.tmps) {v : V} {vv : Value} (hv : Rl A ok w v vv) (d : Option Nat) (hd : ∀ x, d = some x → x < a.tmps.size) : EnvR A ok w (putE e d v) (a.put d vv).tmps := by
  intro t
  cases d with
  | none => exact h t
  | some d =>
    simp only [putE, Act.put, look_cons]
    by_cases e1 : d = t
    · subst e1
      rw [if_pos rfl]
      have : (a.tmps.setIfInBounds d vv).getD d undef = vv := by
        simp [Array.getD, hd d rfl]
      rw [this]; exact hv
    · rw [if_neg e1]
      have : (a.tmps.setIfInBounds d vv).getD t undef = a.tmps.getD t undef := by
        simp only [Array.getD_eq_getD_getElem?, Array.getElem?_setIfInBounds_ne e1]
      rw [this]; exact h t
theorem ev_sound {ok : Nat → Prop} {e : Env} {a : Act} (h : EnvR A ok w e a.tmps) : ∀ (x : Operand), Rl A ok w (ev e x) (a.eval x)
  | .tmp t => h t
  | .const v => ofConst_rl v
  | .func f => by simp only [ev, Act.eval, Rl]; exact ⟨#[], rfl, by simp [RlL]⟩
  | .global g => by simp [ev, Rl]
theorem evs_sound {ok : Nat → Prop} {e : Env} {a : Act} (h : EnvR A ok w e a.tmps) : ∀ (xs : List Operand), RlL A ok w (evs e xs) (xs.map a.eval)
  | [] => by simp [evs, RlL]
  | x :: xs => by simp only [evs, List.map_cons, RlL]; exact ⟨ev_sound h x, evs_sound h xs⟩
theorem evps_sound {ok : Nat → Prop} {e : Env} {a : Act} (h : EnvR A ok w e a.tmps) : ∀ (xs : List (Nat × Operand)), PsR A ok w (evps e xs) (xs.map fun (i, x) => (i, a.eval x))
  | [] => by simp [evps, PsR]
  | (i, x) :: xs => by simp only [evps, List.map_cons, PsR]; exact ⟨trivial, ev_sound h x, evps_sound h xs⟩
theorem wp_value {o : Oper} {a : Act} {Q : Exit → Act → World → Prop} {R : Act → World → Prop} {vv : Value} (hr : (execOp a.eval o).run P w = .ok (.value vv) w') (h : R (a.put o.dst vv) w') : o.wp P a w R Q := by
  unfold Oper.wp; rw [hr]; exact h
theorem run_alloc {t : Nat} {z : Value} {i : TypeInfo} (hi : P.info? t = some i) (hz : i.zero = some z) {a : Addr} (h : (newVar t z).run P w = .ok a w') : (Instr.alloc t true (.tuple #[])).run P w = .ok (.pointer (some a)) w' := by
  have h1 : (zeroValue t).run P w = .ok z w := by simp [zeroValue, typeInfo, hi, hz]
  simp only [Instr.alloc, Sem.run_bind, h1, Result.andThen_ok, h]
  rfl
theorem run_box {t : Nat} {v : Value} {a : Addr} (h : (newVar t v).run P w = .ok a w') : (Instr.box t v).run P w = .ok (.pointer (some a)) w' := by
  simp only [Instr.box, Sem.run_bind, h, Result.andThen_ok]
  rfl
theorem isNilV_iff {v : V} (h : isNilV v = true) : v = .nilsl := by cases v <;> simp_all [isNilV]
theorem slNil_sound {x : V} {v : Value} {K : Bool → Option α} (h : slNil obs x K = some r) (hS : St C N s0 n0 A obs w) (hv : Rl A (Ok N A obs w) w x v) : ∃ a n c, v = .slice a n c ∧ K a.isNone = some r := by
  unfold slNil at h
  split at h
  · simp only [Rl] at hv
    exact ⟨none, 0, 0, hv, h⟩
  · obtain ⟨n, cs, h, a, c, vs, e, hn, hl, hat, _⟩ := slOf_sound h hS hv
    refine ⟨a, n, c, e, ?_⟩
    cases hb : Nat.beq n 0 with
    | true =>
      rw [hb] at h
      obtain ⟨h1, h2⟩ := both_some h
      cases a with
      | none => exact h1
      | some a => exact h2
    | false =>
      rw [hb] at h
      cases a with
      | some a => exact h
      | none =>
        rcases hat with ⟨h0, _⟩ | ⟨b, o, e, _⟩
        · rw [h0] at hb; cases hb
        · cases e
theorem nilOp_sound (hC : CfgOk P C) {op : BinOp} {t : Nat} {x : V} {xv : Value} {K : V → Option α} (hS : St C N s0 n0 A obs w) (hx : Rl A (Ok N A obs w) w x xv) (h : nilOp C obs op t x K = some r) :
    ∃ v vv, K v = some r ∧ (∀ w2 : World, (Go.binOp op t xv (.slice none 0 0)).run P w2 = .ok vv w2) ∧ Rl A (Ok N A obs w) w v vv ∧ (∀ a b, eqGuard op t a b xv (.slice none 0 0) = pure ()) := by
  unfold nilOp at h
  replace h := need_some h
  obtain ⟨ti, hti, h⟩ := h
  have hg : ∀ a n c op' p q, eqGuard op' t p q (.slice a n c) (.slice none 0 0) = pure () := fun a n c op' p q => by unfold eqGuard; split <;> rfl
  have heq : ∀ (e : Nat), P.underlying t = some (.slice e) → ∀ a n c (w2 : World), (Op.equal t (.slice a n c) (.slice none 0 0)).run P w2 = .ok a.isNone w2 := fun e hu a n c w2 => by
    rw [show Op.equal t (.slice a n c) (.slice none 0 0) = Op.equalIn (9999 + 1) t (.slice a n c) (.slice none 0 0) from rfl, Op.equalIn, Sem.run_bind, run_underlying hu]
    cases a <;> rfl
  split at h
  · rename_i e hty
    have hu := (hC.ty t ti hti).under_slice hty
    obtain ⟨a, n, c, rfl, h⟩ := slNil_sound h hS hx
    refine ⟨_, .bool a.isNone, h, fun w2 => ?_, by simp only [Rl], fun p q => hg a n c _ p q⟩
    show ((do pure (.bool (← Op.equal t (.slice a n c) (.slice none 0 0))) : Sem Value)).run P w2 = _
    rw [Sem.run_bind, heq e hu]
    rfl
  · rename_i e hty
    have hu := (hC.ty t ti hti).under_slice hty
    obtain ⟨a, n, c, rfl, h⟩ := slNil_sound h hS hx
    refine ⟨_, .bool (!a.isNone), h, fun w2 => ?_, by simp only [Rl], fun p q => hg a n c _ p q⟩
    show ((do pure (.bool (!(← Op.equal t (.slice a n c) (.slice none 0 0)))) : Sem Value)).run P w2 = _
    rw [Sem.run_bind, heq e hu]
    rfl
  · cases h
set_option maxHeartbeats 2000000 in
theorem op_sound (hC : CfgOk P C) {call : CallT} (hcall : ∀ (f : Nat) (args : List V) (K : V → Obs → Option α) (vals : Array Value), callF C call f args obs K = some r → RlL A (Ok N A obs w) w args vals.toList →
      Enters P f ∧ Calls P f vals w (fun en w' => ∃ vv, en = .returned vv ∧ Post C N s0 n0 A obs w K r vv w'))
    {e : Env} {a : Act} {o : Oper} {K : V → Obs → Option α} {Q : Exit → Act → World → Prop}
    (hE : EnvR A (Ok N A obs w) w e a.tmps) (hS : St C N s0 n0 A obs w) (hn0 : n0 ≤ obs.length) (hN : ∀ b, w.heap.size ≤ b → ¬ N b) (h : op C nm call e obs o.op K = some r) :
    o.wp P a w (fun a' w' => ∃ vv, a' = a.put o.dst vv ∧ Post C N s0 n0 A obs w K r vv w') Q := by
  have ev1 := fun x => ev_sound hE x
  have here : ∀ {v : V} {vv : Value}, K v obs = some r → Rl A (Ok N A obs w) w v vv → Post C N s0 n0 A obs w K r vv w := fun hk hr => ⟨_, _, _, hk, After.refl hS, hr⟩
  unfold op at h
  split at h
  · rename_i x ho
    exact wp_value (by simp only [execOp, ho]; rfl) ⟨_, rfl, here h (ev1 x)⟩
  · rename_i x ho
    exact wp_value (by simp only [execOp, ho]; rfl) ⟨_, rfl, here h (ev1 x)⟩
  · rename_i c x y ho
    replace h := asBool_some h
    obtain ⟨t, ht, h⟩ := h
    have hc := ev1 c
    have ht : ev e c = .bool t := by simpa using ht
    rw [ht] at hc
    simp only [Rl] at hc
    have h : K (bif t then ev e x else ev e y) obs = some r := by cases t <;> exact h
    refine wp_value (vv := if t then a.eval x else a.eval y) (by simp [execOp, ho, hc, Go.asBool]) ⟨_, rfl, here h ?_⟩
    cases t
    · exact ev1 y
    · exact ev1 x
  · rename_i t ho
    replace h := need_some h
    obtain ⟨ti, hti, h⟩ := h
    obtain ⟨i, z, d, hi, hs, hb, hz, hzl, hu, hagg, hd, hone, _⟩ := (hC.ty t ti hti).info
    obtain ⟨v, obs1, A1, w1, vv, hk, hr, hA, hR⟩ := newBox_sound (P := P) hn0 hN (x := z) (xs := ofConsts ti.zero) hS (by rw [hzl]; exact ofConsts_rl _) (by rw [hzl]; exact hone) h
    exact wp_value (by simp only [execOp, ho, Sem.run_bind, run_alloc hi hz hr, Result.andThen_ok]; rfl) ⟨_, rfl, _, _, _, hk, hA, hR⟩
  · rename_i t x ho
    replace h := need_some h
    obtain ⟨ti, hti, h⟩ := h
    have hx := ev1 x
    split at h
    · rename_i cs hcs
      obtain ⟨h1, h⟩ := must_some h
      rw [hcs] at hx
      simp only [Rl] at hx
      obtain ⟨arr, harr, hl, h1c⟩ := hx
      obtain ⟨v, obs1, A1, w1, vv, hk, hr, hA, hR⟩ := newBox_sound (P := P) hn0 hN (x := .agg arr) (xs := cs) hS hl h1c h
      exact wp_value (by simp only [execOp, ho, harr, Sem.run_bind, run_box hr, Result.andThen_ok]; rfl) ⟨_, rfl, _, _, _, hk, hA, hR⟩
    · rename_i hne
      obtain ⟨y, h, hy, _⟩ := unprj_sound hx h
      obtain ⟨h1, h⟩ := must_some h
      simp only [Bool.and_eq_true] at h1
      obtain ⟨o1, c1⟩ := oneCell_of_solid hS hy h1.1
      obtain ⟨v, obs1, A1, w1, vv, hk, hr, hA, hR⟩ := newBox_sound (P := P) hn0 hN (x := a.eval x) (xs := [y]) hS (by rw [c1]; simp only [RlL]; exact ⟨hy, trivial⟩) (by rw [c1]; simpa using o1) h
      exact wp_value (by simp only [execOp, ho, Sem.run_bind, run_box hr, Result.andThen_ok]; rfl) ⟨_, rfl, _, _, _, hk, hA, hR⟩
  · rename_i t ps ho
    obtain ⟨v, vv, hk, hr, hR⟩ := build_sound (vs := ps.map fun (i, x) => (i, a.eval x)) hC hS (by rw [Array.toList_map]; exact evps_sound hE ps.toList) h
    exact wp_value (by simp only [execOp, ho, Sem.run_bind, hr w, Result.andThen_ok]; rfl) ⟨_, rfl, here hk hR⟩
  · rename_i t n ps ho
    cases hb : nrowsB C nm t with
    | true =>
      rw [hb] at h; simp only [cond_true] at h
      obtain ⟨v, obs1, A1, w1, vv, hk, hr, hA, hR⟩ := buildSliceN_sound (vs := ps.map fun (i, x) => (i, a.eval x)) hC hn0 hN hS (by rw [Array.toList_map]; exact evps_sound hE ps.toList) h
      exact wp_value (by simp only [execOp, ho, Sem.run_bind, hr, Result.andThen_ok]; rfl) ⟨_, rfl, _, _, _, hk, hA, hR⟩
    | false =>
      rw [hb] at h; simp only [cond_false] at h
      obtain ⟨v, obs1, A1, w1, vv, hk, hr, hA, hR⟩ := buildSlice_sound (vs := ps.map fun (i, x) => (i, a.eval x)) hC hn0 hN hS (by rw [Array.toList_map]; exact evps_sound hE ps.toList) h
      exact wp_value (by simp only [execOp, ho, Sem.run_bind, hr, Result.andThen_ok]; rfl) ⟨_, rfl, _, _, _, hk, hA, hR⟩
  · rename_i t x ho
    obtain ⟨v, obs1, A1, vv, hk, hr, hA, hR⟩ := loadOut_sound hC hS (ev1 x) h
    exact wp_value (by simp only [execOp, ho, Sem.run_bind, hr, Result.andThen_ok]; rfl) ⟨_, rfl, _, _, _, hk, hA, hR⟩
  · rename_i t x y ho
    obtain ⟨obs1, w1, hk, hr, hA⟩ := store_sound hC hS (ev1 x) (ev1 y) h
    have : (execOp a.eval o).run P w = .ok .skip w1 := by simp only [execOp, ho, Sem.run_bind, hr, Result.andThen_ok]; rfl
    unfold Oper.wp
    rw [this]
    exact ⟨undef, rfl, _, _, _, hk, hA, by simp [Rl]⟩
  · rename_i x ho
    have hx := ev1 x
    split at h
    · rename_i i off he
      rw [he] at hx
      have hx' := hx
      simp only [Rl] at hx'
      obtain ⟨g, hg, e1⟩ := hx'
      exact wp_value (by simp only [execOp, ho, e1]; rfl) ⟨_, rfl, here h (by rw [← e1]; exact hx)⟩
    · rename_i cs off he
      rw [he] at hx
      have hx' := hx
      simp only [Rl] at hx'
      obtain ⟨b, o', vs, e1, _⟩ := hx'
      exact wp_value (by simp only [execOp, ho, e1]; rfl) ⟨_, rfl, here h (by rw [← e1]; exact hx)⟩
    · cases h
  · rename_i op t x y ty ho
    have hbin : ∃ v vv, K v obs = some r ∧ (∀ w2 : World, (Go.binOp op t (a.eval x) (a.eval y)).run P w2 = .ok vv w2) ∧ Rl A (Ok N A obs w) w v vv ∧ (∀ p q, eqGuard op t p q (a.eval x) (a.eval y) = pure ()) := by
      cases hn : isNilV (ev e y) with
      | true =>
        rw [hn] at h
        have hy := ev1 y
        rw [isNilV_iff hn] at hy
        simp only [Rl] at hy
        rw [hy]
        exact nilOp_sound (K := fun v => K v obs) hC hS (ev1 x) h
      | false => rw [hn] at h; exact binOp_sound (K := fun v => K v obs) hC (ev1 x) (ev1 y) h
    obtain ⟨v, vv, hk, hr, hR, hg⟩ := hbin
    have h0 : (eqGuard op t x y (a.eval x) (a.eval y)).run P w = .ok () w := by rw [hg x y]; rfl
    exact wp_value (by simp only [execOp, ho, Sem.run_bind, h0, hr w, Result.andThen_ok]; rfl) ⟨_, rfl, here hk hR⟩
  · rename_i op t x ho
    obtain ⟨v, vv, hk, hr, hR⟩ := unOp_sound (P := P) (ev1 x) h
    exact wp_value (by simp only [execOp, ho, Sem.run_bind, hr w, Result.andThen_ok]; rfl) ⟨_, rfl, here hk hR⟩
  · rename_i s d x ho
    obtain ⟨v, obs1, w1, vv, hk, hr, hA, hR⟩ := convert_sound hC hN hS (ev1 x) h
    exact wp_value (by simp only [execOp, ho, Sem.run_bind, hr, Result.andThen_ok]; rfl) ⟨_, rfl, _, _, _, hk, hA, hR⟩
  · rename_i f first caps ho
    split at h
    · rename_i hf
      obtain ⟨h1, h⟩ := must_some h
      refine wp_value (vv := .func (.func f) #[] (caps.map a.eval)) (by
        have : first = #[] := by simpa using hf
        simp [execOp, ho, Instr.makeFunc, this]) ⟨_, rfl, here h ?_⟩
      simp only [Rl]
      exact ⟨_, rfl, by rw [Array.toList_map]; exact evs_sound hE caps.toList⟩
    · cases h
  · rename_i t x y ho
    have go : ∃ v obs' A' w' vv, K v obs' = some r ∧ (Instr.makeSlice t (a.eval x) (a.eval y)).run P w = .ok vv w' ∧ After C N s0 n0 A obs w A' obs' w' ∧ Rl A' (Ok N A' obs' w') w' v vv := by
      cases hb : nrowsB C nm t with
      | true => rw [hb] at h; simp only [cond_true] at h; exact makeSliceN_sound hC hn0 hN hS (ev1 x) (ev1 y) h
      | false => rw [hb] at h; simp only [cond_false] at h; exact makeSlice_sound hC hn0 hN hS (ev1 x) (ev1 y) h
    obtain ⟨v, obs1, A1, w1, vv, hk, hr, hA, hR⟩ := go
    exact wp_value (by simp only [execOp, ho, Sem.run_bind, hr, Result.andThen_ok]; rfl) ⟨_, rfl, _, _, _, hk, hA, hR⟩
  · rename_i t x lo hi m ho
    split at h
    · have ro : ∀ (q : Option Operand), RlO A (Ok N A obs w) w (evo e q) (q.map a.eval) := fun q => by
        cases q with
        | none => simp [evo, RlO]
        | some q => simp only [evo, Option.map_some, RlO]; exact ev1 q
      obtain ⟨v, obs1, vv, hk, hr, hA, hR, _⟩ := slice_sound hC hS (ev1 x) (ro lo) (ro hi) h
      exact wp_value (by simp only [execOp, ho, Option.map_none, Sem.run_bind, hr w, Result.andThen_ok]; rfl) ⟨_, rfl, _, _, _, hk, hA, hR⟩
    · cases h
  · rename_i t x f ho
    obtain ⟨v, vv, hk, hr, hR⟩ := fieldAddr_sound (K := fun v => K v obs) hC (ev1 x) h
    exact wp_value (by simp only [execOp, ho, Sem.run_bind, hr w, Result.andThen_ok]; rfl) ⟨_, rfl, here hk hR⟩
  · rename_i t x f ho
    obtain ⟨v, vv, hk, hr, hR⟩ := field_sound (K := fun v => K v obs) hC (ev1 x) h
    exact wp_value (by simp only [execOp, ho, Sem.run_bind, hr w, Result.andThen_ok]; rfl) ⟨_, rfl, here hk hR⟩
  · rename_i t x i ho
    obtain ⟨v, vv, hk, hr, hR⟩ := indexAddr_sound hC hS (ev1 x) (ev1 i) h
    exact wp_value (by simp only [execOp, ho, Sem.run_bind, hr w, Result.andThen_ok]; rfl) ⟨_, rfl, here hk hR⟩
  · rename_i t x i ho
    split at h
    · rename_i s k i' hx hi
      replace h := need_some h
      obtain ⟨ti, hti, h⟩ := h
      split at h
      · rename_i hty
        obtain ⟨h1, h⟩ := must_some h
        have hu := (hC.ty t ti hti).under_str hty
        have e1 := ev1 x
        have e2 := ev1 i
        rw [hx] at e1; rw [hi] at e2
        simp only [Rl] at e1 e2
        simp only [inB, Bool.and_eq_true, decide_eq_true_eq] at h1
        have hlt : i'.toNat < s.size := by omega
        have hg : s[i'.toNat]? = some (s.data.toList.getD i'.toNat 0) := by
          have hl2 : i'.toNat < s.data.size := hlt
          have e3 : s[i'.toNat]? = some s[i'.toNat] := getElem?_pos s i'.toNat hlt
          rw [e3]
          have e4 : s[i'.toNat] = s.data[i'.toNat] := rfl
          have e5 : s.data[i'.toNat]? = some s.data[i'.toNat] := getElem?_pos s.data i'.toNat hl2
          simp [List.getD, e5, e4]
        refine wp_value (vv := .int .u8 (s.data.toList.getD i'.toNat 0).toNat) ?_ ⟨_, rfl, here h (by simp only [Rl])⟩
        simp [execOp, ho, e1, e2, Instr.index, asIntOf, run_underlying hu, h1.1, hg]
      · cases h
    · rename_i cs k i' hx hi
      have e1 := ev1 x
      have e2 := ev1 i
      rw [hx] at e1; rw [hi] at e2
      obtain ⟨v, vv, hk, hr, hR⟩ := indexArr_sound (K := fun v => K v obs) hC e1 e2 h
      exact wp_value (by simp only [execOp, ho, Sem.run_bind, hr w, Result.andThen_ok]; rfl) ⟨_, rfl, here hk hR⟩
    · cases h
  · rename_i x i ho
    split at h
    · rename_i vs hx
      replace h := get_some h
      obtain ⟨v, hv, h⟩ := h
      have e1 := ev1 x
      rw [hx] at e1
      simp only [Rl] at e1
      obtain ⟨arr, e1, hl⟩ := e1
      obtain ⟨vv, hvv, hr⟩ := hl.get i v hv
      rw [Array.getElem?_toList] at hvv
      exact wp_value (vv := vv) (by simp [execOp, ho, e1, Instr.extract, hvv]) ⟨_, rfl, here h hr⟩
    · cases h
  · rename_i b args argTypes ho
    have hm : ∀ (as : Array Operand) {l : List Operand}, as.toList = l → as.map a.eval = (l.map a.eval).toArray := fun as l e => by
      apply Array.toList_inj.1
      rw [Array.toList_map, e]
    split at h
    · rename_i x t hx ht
      obtain ⟨v, vv, hk, hr, hR⟩ := lenOf_sound (ty := o.type) hC hS (ev1 x) h
      have hat : argTypes = #[t] := Array.toList_inj.1 ht
      have hae : args.map a.eval = #[a.eval x] := by rw [hm args hx]; rfl
      exact wp_value (by simp only [execOp, ho, resolve, hae, hat, Sem.run_bind, Sem.run_pure, Result.andThen_ok, invoke, builtin, hr w]) ⟨_, rfl, here hk hR⟩
    · rename_i x y t t' hx ht
      cases htt : Nat.beq t t' with
      | false =>
        rw [htt] at h; simp only [cond_false] at h
        obtain ⟨v, obs1, A1, w1, vv, hk, hr, hA, hR⟩ := appendZ_sound (ty := o.type) hC hn0 hN hS (ev1 x) (ev1 y) h
        have hat : argTypes = #[t, t'] := Array.toList_inj.1 ht
        have hae : args.map a.eval = #[a.eval x, a.eval y] := by rw [hm args hx]; rfl
        exact wp_value (by simp only [execOp, ho, resolve, hae, hat, Sem.run_bind, Sem.run_pure, Result.andThen_ok, invoke, builtin, hr]) ⟨_, rfl, _, _, _, hk, hA, hR⟩
      | true =>
        rw [htt] at h; simp only [cond_true] at h
        have htt := Nat.eq_of_beq_eq_true htt
        subst htt
        have go : ∃ v obs' A' w' vv, K v obs' = some r ∧ (Builtin.append_ #[t, t] o.type #[a.eval x, a.eval y]).run P w = .ok vv w' ∧ After C N s0 n0 A obs w A' obs' w' ∧ Rl A' (Ok N A' obs' w') w' v vv := by
          cases hb : isNrow obs (ev e y) with
          | true => rw [hb] at h; simp only [cond_true] at h; exact appendN_sound (ty := o.type) hC hn0 hN hS (ev1 x) (ev1 y) h
          | false => rw [hb] at h; simp only [cond_false] at h; exact append_sound (ty := o.type) hC hn0 hN hS (ev1 x) (ev1 y) h
        obtain ⟨v, obs1, A1, w1, vv, hk, hr, hA, hR⟩ := go
        have hat : argTypes = #[t, t] := Array.toList_inj.1 ht
        have hae : args.map a.eval = #[a.eval x, a.eval y] := by rw [hm args hx]; rfl
        exact wp_value (by simp only [execOp, ho, resolve, hae, hat, Sem.run_bind, Sem.run_pure, Result.andThen_ok, invoke, builtin, hr]) ⟨_, rfl, _, _, _, hk, hA, hR⟩
    · rename_i x y hx
      obtain ⟨v, vv, hk, hr, hR⟩ := minI_sound (P := P) (ty := o.type) (ts := argTypes) (ev1 x) (ev1 y) h
      have hae : args.map a.eval = #[a.eval x, a.eval y] := by rw [hm args hx]; rfl
      exact wp_value (by simp only [execOp, ho, resolve, hae, Sem.run_bind, Sem.run_pure, Result.andThen_ok, invoke, builtin, hr w]) ⟨_, rfl, here hk hR⟩
    · rename_i x y hx
      obtain ⟨v, vv, hk, hr, hR⟩ := maxI_sound (P := P) (ty := o.type) (ts := argTypes) (ev1 x) (ev1 y) h
      have hae : args.map a.eval = #[a.eval x, a.eval y] := by rw [hm args hx]; rfl
      exact wp_value (by simp only [execOp, ho, resolve, hae, Sem.run_bind, Sem.run_pure, Result.andThen_ok, invoke, builtin, hr w]) ⟨_, rfl, here hk hR⟩
    · cases h
  · rename_i f args ats ho
    split at h
    · rename_i g caps hf
      have e1 := ev1 f
      rw [hf] at e1
      simp only [Rl] at e1
      obtain ⟨cv, e1, hl⟩ := e1
      obtain ⟨⟨fn, c, q1, q2, q3⟩, hc⟩ := hcall g _ K (args.map a.eval ++ cv) h (by rw [Array.toList_append, Array.toList_map]; exact (evs_sound hE args.toList).append hl)
      unfold Oper.wp
      have hr : (execOp a.eval o).run P w = .ok (.enter g (args.map a.eval ++ cv)) w := by
        simp only [execOp, ho, resolve, e1, Deferred.ofValue, Sem.run_bind, Sem.run_pure, Result.andThen_ok, invoke]
        have := MuLone.run_callFunc_enter q1 q2 q3 (args.map a.eval ++ cv) w
        simpa using this
      rw [hr, Oper.upon_enter]
      refine Calls.mono hc fun en w2 hq => ?_
      obtain ⟨vv, rfl, hp⟩ := hq
      exact ⟨vv, rfl, hp⟩
    · cases h
  · cases h
end
end Go.PI
