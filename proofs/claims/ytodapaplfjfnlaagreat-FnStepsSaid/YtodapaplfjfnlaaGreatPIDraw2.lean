/-
  PI: a region whose order is drawn: what may be taken first.
-/
import Derived.Test.YtodapaplfjfnlaaGreatPIDraw
namespace Go.PI
open Go
set_option linter.unusedVariables false
set_option linter.unusedSimpArgs false
section
variable {P : Program} {C : Cfg} {nm : NM} {N : Nat → Prop} {s0 n0 : Nat} {A0 A A' : List Value} {obs0 obs obs' : Obs} {w0 w w' : World} {α : Type} {r : α} {nt : Nat} {e : Env} {a : Act}
theorem calm_sound (hC : CfgOk P C) {call : CallT} {o : Oper} {K : V → Obs → Option α}
    (hE : EnvR A (Ok N A obs w) w e a.tmps) (hS : St C N s0 n0 A obs w) (hcalm : calmOp C o.op = true) (h : op C nm call e obs o.op K = some r) :
    ∃ v obs' vv, K v obs' = some r ∧ After C N s0 n0 A obs w A obs' w ∧ Rl A (Ok N A obs' w) w v vv ∧ (∀ w2 : World, (execOp a.eval o).run P w2 = .ok (.value vv) w2) ∧ (obs' = obs ∨ ∃ id, obs' = shutAt obs id) := by
  have ev1 := fun x => ev_sound hE x
  have here : ∀ {v : V} {vv : Value}, K v obs = some r → Rl A (Ok N A obs w) w v vv → (∀ w2 : World, (execOp a.eval o).run P w2 = .ok (.value vv) w2) →
      ∃ v obs' vv, K v obs' = some r ∧ After C N s0 n0 A obs w A obs' w ∧ Rl A (Ok N A obs' w) w v vv ∧ (∀ w2 : World, (execOp a.eval o).run P w2 = .ok (.value vv) w2) ∧ (obs' = obs ∨ ∃ id, obs' = shutAt obs id) :=
    fun hk hr hx => ⟨_, _, _, hk, After.refl hS, hr, hx, .inl rfl⟩
  unfold op at h
  split at h
  · rename_i x ho
    exact here h (ev1 x) fun w2 => by simp only [execOp, ho]; rfl
  · rename_i x ho
    exact here h (ev1 x) fun w2 => by simp only [execOp, ho]; rfl
  · rename_i c x y ho
    replace h := asBool_some h
    obtain ⟨t, ht, h⟩ := h
    have hc := ev1 c
    have ht : ev e c = .bool t := by simpa using ht
    rw [ht] at hc
    simp only [Rl] at hc
    have h : K (bif t then ev e x else ev e y) obs = some r := by cases t <;> exact h
    refine here (vv := if t then a.eval x else a.eval y) h ?_ fun w2 => by simp [execOp, ho, hc, Go.asBool]
    cases t
    · exact ev1 y
    · exact ev1 x
  · rename_i t ho; rw [ho] at hcalm; cases hcalm
  · rename_i t x ho; rw [ho] at hcalm; cases hcalm
  · rename_i t ps ho
    obtain ⟨v, vv, hk, hr, hR⟩ := build_sound (vs := ps.map fun (i, x) => (i, a.eval x)) hC hS (by rw [Array.toList_map]; exact evps_sound hE ps.toList) h
    exact here hk hR fun w2 => by simp only [execOp, ho, Sem.run_bind, hr w2, Result.andThen_ok]; rfl
  · rename_i t n ps ho; rw [ho] at hcalm; cases hcalm
  · rename_i t x ho; rw [ho] at hcalm; cases hcalm
  · rename_i t x y ho; rw [ho] at hcalm; cases hcalm
  · rename_i x ho
    have hx := ev1 x
    split at h
    · rename_i i off he
      rw [he] at hx
      have hx' := hx
      simp only [Rl] at hx'
      obtain ⟨g, hg, e1⟩ := hx'
      exact here (vv := a.eval x) h hx fun w2 => by simp only [execOp, ho, e1]; rfl
    · rename_i cs off he
      rw [he] at hx
      have hx' := hx
      simp only [Rl] at hx'
      obtain ⟨b, o', vs, e1, _⟩ := hx'
      exact here (vv := a.eval x) h hx fun w2 => by simp only [execOp, ho, e1]; rfl
    · cases h
  · rename_i op t x y ty ho
    have hbin : ∃ v vv, K v obs = some r ∧ (∀ w2 : World, (Go.binOp op t (a.eval x) (a.eval y)).run P w2 = .ok vv w2) ∧ Rl A (Ok N A obs w) w v vv ∧ (∀ p q, eqGuard op t p q (a.eval x) (a.eval y) = pure ()) := by
      cases hn : isNilV (ev e y) with
      | true =>
        rw [hn] at h
        have hy := ev1 y
        rw [isNilV_iff hn] at hy
        simp only [Rl] at hy
        rw [hy]
        exact nilOp_sound (K := fun v => K v obs) hC hS (ev1 x) h
      | false => rw [hn] at h; exact binOp_sound (K := fun v => K v obs) hC (ev1 x) (ev1 y) h
    obtain ⟨v, vv, hk, hr, hR, hg⟩ := hbin
    refine here hk hR fun w2 => ?_
    have h0 : (eqGuard op t x y (a.eval x) (a.eval y)).run P w2 = .ok () w2 := by rw [hg x y]; rfl
    simp only [execOp, ho, Sem.run_bind, h0, hr w2, Result.andThen_ok]; rfl
  · rename_i op t x ho
    obtain ⟨v, vv, hk, hr, hR⟩ := unOp_sound (P := P) (ev1 x) h
    exact here hk hR fun w2 => by simp only [execOp, ho, Sem.run_bind, hr w2, Result.andThen_ok]; rfl
  · rename_i s d x ho
    rw [ho] at hcalm
    simp only [calmOp] at hcalm
    unfold convert at h
    replace h := need_some h
    obtain ⟨ts, hts, h⟩ := h
    replace h := need_some h
    obtain ⟨td, htd, h⟩ := h
    rw [htd] at hcalm
    have hcalm : ∃ k, td.ty = .int k := by
      cases hty : td.ty <;> simp [hty] at hcalm
      exact ⟨_, rfl⟩
    obtain ⟨k, hty⟩ := hcalm
    rw [hty] at h
    obtain ⟨ds, hus⟩ := (hC.ty s ts hts).under_any
    have hu := (hC.ty d td htd).under_int hty
    have hx := ev1 x
    cases he : ev e x with
    | int k2 n =>
      rw [he] at h hx
      simp only [Rl] at hx
      refine here (vv := .int k (k.wrap n)) h (by simp only [Rl]) fun w2 => ?_
      have hcv : (Go.convert s d (.int k2 n)).run P w2 = .ok (.int k (k.wrap n)) w2 := by
        simp only [Go.convert, Sem.run_bind, run_underlying hus, run_underlying hu, Result.andThen_ok]
        rfl
      simp only [execOp, ho, hx, Sem.run_bind, hcv, Result.andThen_ok]; rfl
    | _ => rw [he] at h; cases h
  · rename_i f first caps ho
    split at h
    · rename_i hf
      obtain ⟨h1, h⟩ := must_some h
      refine here (vv := .func (.func f) #[] (caps.map a.eval)) h ?_ fun w2 => by
        have : first = #[] := by simpa using hf
        simp [execOp, ho, Instr.makeFunc, this]
      simp only [Rl]
      exact ⟨_, rfl, by rw [Array.toList_map]; exact evs_sound hE caps.toList⟩
    · cases h
  · rename_i t x y ho; rw [ho] at hcalm; cases hcalm
  · rename_i t x lo hi m ho
    split at h
    · have ro : ∀ (q : Option Operand), RlO A (Ok N A obs w) w (evo e q) (q.map a.eval) := fun q => by
        cases q with
        | none => simp [evo, RlO]
        | some q => simp only [evo, Option.map_some, RlO]; exact ev1 q
      obtain ⟨v, obs1, vv, hk, hr, hA, hR, hsh⟩ := slice_sound hC hS (ev1 x) (ro lo) (ro hi) h
      exact ⟨_, _, _, hk, hA, hR, fun w2 => by simp only [execOp, ho, Option.map_none, Sem.run_bind, hr w2, Result.andThen_ok]; rfl, hsh⟩
    · cases h
  · rename_i t x f ho
    obtain ⟨v, vv, hk, hr, hR⟩ := fieldAddr_sound (K := fun v => K v obs) hC (ev1 x) h
    exact here hk hR fun w2 => by simp only [execOp, ho, Sem.run_bind, hr w2, Result.andThen_ok]; rfl
  · rename_i t x f ho
    obtain ⟨v, vv, hk, hr, hR⟩ := field_sound (K := fun v => K v obs) hC (ev1 x) h
    exact here hk hR fun w2 => by simp only [execOp, ho, Sem.run_bind, hr w2, Result.andThen_ok]; rfl
  · rename_i t x i ho
    obtain ⟨v, vv, hk, hr, hR⟩ := indexAddr_sound hC hS (ev1 x) (ev1 i) h
    exact here hk hR fun w2 => by simp only [execOp, ho, Sem.run_bind, hr w2, Result.andThen_ok]; rfl
  · rename_i t x i ho
    split at h
    · rename_i s k i' hx hi
      replace h := need_some h
      obtain ⟨ti, hti, h⟩ := h
      split at h
      · rename_i hty
        obtain ⟨h1, h⟩ := must_some h
        have hu := (hC.ty t ti hti).under_str hty
        have e1 := ev1 x
        have e2 := ev1 i
        rw [hx] at e1; rw [hi] at e2
        simp only [Rl] at e1 e2
        simp only [inB, Bool.and_eq_true, decide_eq_true_eq] at h1
        have hlt : i'.toNat < s.size := by omega
        have hg : s[i'.toNat]? = some (s.data.toList.getD i'.toNat 0) := by
          have hl2 : i'.toNat < s.data.size := hlt
          have e3 : s[i'.toNat]? = some s[i'.toNat] := getElem?_pos s i'.toNat hlt
          rw [e3]
          have e4 : s[i'.toNat] = s.data[i'.toNat] := rfl
          have e5 : s.data[i'.toNat]? = some s.data[i'.toNat] := getElem?_pos s.data i'.toNat hl2
          simp [List.getD, e5, e4]
        refine here (vv := .int .u8 (s.data.toList.getD i'.toNat 0).toNat) h (by simp only [Rl]) fun w2 => ?_
        simp [execOp, ho, e1, e2, Instr.index, asIntOf, run_underlying hu, h1.1, hg]
      · cases h
    · rename_i cs k i' hx hi
      have e1 := ev1 x
      have e2 := ev1 i
      rw [hx] at e1; rw [hi] at e2
      obtain ⟨v, vv, hk, hr, hR⟩ := indexArr_sound (K := fun v => K v obs) hC e1 e2 h
      exact here hk hR fun w2 => by simp only [execOp, ho, Sem.run_bind, hr w2, Result.andThen_ok]; rfl
    · cases h
  · rename_i x i ho
    split at h
    · rename_i vs hx
      replace h := get_some h
      obtain ⟨v, hv, h⟩ := h
      have e1 := ev1 x
      rw [hx] at e1
      simp only [Rl] at e1
      obtain ⟨arr, e1, hl⟩ := e1
      obtain ⟨vv, hvv, hr⟩ := hl.get i v hv
      rw [Array.getElem?_toList] at hvv
      exact here (vv := vv) h hr fun w2 => by simp [execOp, ho, e1, Instr.extract, hvv]
    · cases h
  · rename_i b args argTypes ho
    have hm : ∀ (as : Array Operand) {l : List Operand}, as.toList = l → as.map a.eval = (l.map a.eval).toArray := fun as l e => by
      apply Array.toList_inj.1
      rw [Array.toList_map, e]
    split at h
    · rename_i x t hx ht
      obtain ⟨v, vv, hk, hr, hR⟩ := lenOf_sound (ty := o.type) hC hS (ev1 x) h
      have hat : argTypes = #[t] := Array.toList_inj.1 ht
      have hae : args.map a.eval = #[a.eval x] := by rw [hm args hx]; rfl
      exact here hk hR fun w2 => by simp only [execOp, ho, resolve, hae, hat, Sem.run_bind, Sem.run_pure, Result.andThen_ok, invoke, builtin, hr w2]
    · rename_i x y t t' hx ht
      rw [ho] at hcalm; cases hcalm
    · rename_i x y hx
      obtain ⟨v, vv, hk, hr, hR⟩ := minI_sound (P := P) (ty := o.type) (ts := argTypes) (ev1 x) (ev1 y) h
      have hae : args.map a.eval = #[a.eval x, a.eval y] := by rw [hm args hx]; rfl
      exact here hk hR fun w2 => by simp only [execOp, ho, resolve, hae, Sem.run_bind, Sem.run_pure, Result.andThen_ok, invoke, builtin, hr w2]
    · rename_i x y hx
      obtain ⟨v, vv, hk, hr, hR⟩ := maxI_sound (P := P) (ty := o.type) (ts := argTypes) (ev1 x) (ev1 y) h
      have hae : args.map a.eval = #[a.eval x, a.eval y] := by rw [hm args hx]; rfl
      exact here hk hR fun w2 => by simp only [execOp, ho, resolve, hae, Sem.run_bind, Sem.run_pure, Result.andThen_ok, invoke, builtin, hr w2]
    · cases h
  · rename_i f args ats ho
    rw [ho] at hcalm; cases hcalm
  · cases h
def InW (Ar : List Value) (obsr : Obs) (wr : World) (W : List Nat) (b : Nat) : Prop := ∃ (i : Nat) (o : Ob) (v : Value), i ∈ W ∧ obsr[i]? = some o ∧ o.isGone = false ∧ Ar[i]? = some v ∧ foot wr o v b
def Kept (Ar : List Value) (obsr : Obs) (wr : World) (W : List Nat) (w2 : World) : Prop := ∀ b, b < wr.heap.size → ¬ InW Ar obsr wr W b → w2.heap[b]? = wr.heap[b]?
def Inv (Ar : List Value) (obsr : Obs) (wr : World) (W : List Nat) (A : List Value) (obs : Obs) (w : World) : Prop :=
  ∀ (id : Nat) (o : Ob) (v : Value) (b : Nat), (obsr.length ≤ id ∨ id ∈ W) → obs[id]? = some o → o.isOpen = true → A[id]? = some v → foot w o v b → b < wr.heap.size → InW Ar obsr wr W b
def InjR (Ar : List Value) (obsr : Obs) (wr : World) : Prop := ∀ (i j : Nat) (o o' : Ob) (v v' : Value) (b : Nat), obsr[i]? = some o → obsr[j]? = some o' → o.isGone = false → o'.isGone = false → Ar[i]? = some v → Ar[j]? = some v' → foot wr o v b → foot wr o' v' b → i = j
def Same (obsr obs : Obs) : Prop := ∀ (i : Nat) (o : Ob), obs[i]? = some o → o.isGone = false → ∃ o', obsr[i]? = some o' ∧ o'.isGone = false ∧ (o.isOpen = true → o = o')
theorem Inv.grow {Ar : List Value} {obsr : Obs} {wr : World} {W : List Nat} {N : Nat → Prop} {s0 n0 : Nat} (h : Inv Ar obsr wr W A obs w) (hS : St C N s0 n0 A obs w) (hk : ∀ b, b < w.heap.size → w'.heap[b]? = w.heap[b]?) : Inv Ar obsr wr W A obs w' :=
  fun id o v b h1 h2 h3 h4 h5 h6 => h id o v b h1 h2 h3 h4 ((foot_same (fun b hb => hk b (hS.foot_lt h2 (open_gone h3) h4 hb)) _).1 h5) h6
theorem Same.shut {obsr : Obs} (h : Same obsr obs) (hs : obs' = obs ∨ ∃ id, obs' = shutAt obs id) : Same obsr obs' := by
  rcases hs with rfl | ⟨k, rfl⟩
  · exact h
  · intro i o ho hg
    unfold shutAt at ho
    cases hk : obs[k]? with
    | none => rw [hk] at ho; exact h i o ho hg
    | some x =>
      rw [hk] at ho
      dsimp only at ho
      rw [setOb_get] at ho
      split at ho
      · rename_i e
        subst e
        rw [hk] at ho
        simp at ho
        subst ho
        obtain ⟨o', q1, q2, _⟩ := h i x hk (shutOb_isGone x hg)
        exact ⟨o', q1, q2, fun hop => by rw [shutOb_isOpen] at hop; cases hop⟩
      · exact h i o ho hg
theorem allOpen_iff : ∀ (W : List Nat), allOpen obs W = true → ∀ i ∈ W, ∃ o, obs[i]? = some o ∧ o.isOpen = true
  | [], _, i, hi => by simp at hi
  | j :: W, h, i, hi => by
    simp only [allOpen, Bool.and_eq_true] at h
    rcases List.mem_cons.1 hi with rfl | hi
    · cases ho : obs[i]? with
      | none => rw [ho] at h; simp at h
      | some o => rw [ho] at h; exact ⟨o, rfl, by rw [← openB_eq]; exact h.1⟩
    · exact allOpen_iff W h.2 i hi
theorem shutOb_open {o : Ob} (h : (shutOb o).isOpen = true) : False := by rw [shutOb_isOpen] at h; cases h
theorem shutAt_get' (obs : Obs) (i j : Nat) : (shutAt obs i)[j]? = if j = i then (obs[j]?).map shutOb else obs[j]? := by
  unfold shutAt
  cases hi : obs[i]? with
  | none =>
    dsimp only
    split
    · rename_i e; rw [e, hi]; rfl
    · rfl
  | some o =>
    dsimp only
    rw [setOb_get]
    split
    · rename_i e; rw [e, hi]; rfl
    · rfl
theorem Inv.shut {Ar : List Value} {obsr : Obs} {wr : World} {W : List Nat} (h : Inv Ar obsr wr W A obs w) (hs : obs' = obs ∨ ∃ id, obs' = shutAt obs id) : Inv Ar obsr wr W A obs' w := by
  intro id o v b h1 h2 h3 h4 h5 h6
  rcases hs with rfl | ⟨i, rfl⟩
  · exact h id o v b h1 h2 h3 h4 h5 h6
  · rw [shutAt_get'] at h2
    split at h2
    · cases ho : obs[id]? with
      | none => rw [ho] at h2; simp at h2
      | some x => rw [ho] at h2; simp at h2; subst h2; exact (shutOb_open h3).elim
    · exact h id o v b h1 h2 h3 h4 h5 h6
theorem opT_sound (hC : CfgOk P C) {call : CallT} {o : Oper} {K : V → Obs → Option α} {W Z : List Nat} {fr : Bool} {Ar : List Value} {obsr : Obs} {wr : World} (hinjr : InjR Ar obsr wr)
    (hZ : ∀ i ∈ Z, ∀ v b, A[i]? = some v → blockOf v = some b → b < wr.heap.size ∧ (i ∉ W → ¬ InW Ar obsr wr W b)) (hpre : ∀ (i : Nat) (v : Value), Ar[i]? = some v → A[i]? = some v) (hkept : Kept Ar obsr wr W w)
    (hE : EnvR A (Ok N A obs w) w e a.tmps) (hS : St C N s0 n0 A obs w) (hfr : fr = true → w = wr ∧ A = Ar ∧ Same obsr obs) (h : opT C nm call W Z fr e obs o.op K = some r) :
    ∃ v obs' vv, K v obs' = some r ∧ After C N s0 n0 A obs w A obs' w ∧ Rl A (Ok N A obs' w) w v vv ∧ (∀ w2 : World, Kept Ar obsr wr W w2 → (execOp a.eval o).run P w2 = .ok (.value vv) w2) ∧ (obs' = obs ∨ ∃ id, obs' = shutAt obs id) := by
  unfold opT at h
  split at h
  · rename_i t x ho
    obtain ⟨h1, h⟩ := must_some h
    obtain ⟨v, vv, b, hk, hr, hR, hb⟩ := load_calm hC hS (ev_sound hE x) h
    refine ⟨v, obs, vv, hk, After.refl hS, hR, fun w2 h2 => ?_, .inl rfl⟩
    have fin : w2.heap[b]? = w.heap[b]? → (execOp a.eval o).run P w2 = .ok (.value vv) w2 := fun hh => by
      have := hr w2 hh
      simp only [execOp, ho, Sem.run_bind, this, Result.andThen_ok]; rfl
    cases hz : loadZ W Z obs (ev e x) with
    | true =>
      rcases hb with ⟨cs, off, e1, hok⟩ | ⟨id, off, y, o', e1, h3, h4, h5, h6⟩
      · rw [e1] at hz; cases hz
      · rw [e1] at hz
        simp only [loadZ, Bool.and_eq_true, Bool.not_eq_true'] at hz
        obtain ⟨hlt, hnW⟩ := hZ id ((memN_iff Z id).1 hz.1) y b h3 h4
        have hnW := hnW fun hi => by rw [(memN_iff W id).2 hi] at hz; exact absurd hz.2.1 (by simp)
        exact fin ((h2 b hlt hnW).trans (hkept b hlt hnW).symm)
    | false =>
      rw [hz, Bool.false_or] at h1
      simp only [Bool.and_eq_true] at h1
      obtain ⟨rfl, rfl, hsm⟩ := hfr h1.1
      have hbw : b < w.heap.size ∧ ¬ InW A obsr w W b := by
        rcases hb with ⟨cs, off, e1, hok⟩ | ⟨id, off, y, o', e1, h3, h4, h5, h6⟩
        · refine ⟨hok.lt, fun ⟨i, oi, v, hi, q1, q2, hv, hf⟩ => ?_⟩
          rw [e1] at h1
          obtain ⟨o', ho', hop⟩ := allOpen_iff W h1.2 i hi
          obtain ⟨o2, p1, _, p3⟩ := hsm i o' ho' (open_gone hop)
          rw [q1] at p1; cases p1
          rw [p3 hop] at ho'
          exact hok.apart i oi v ho' hv (by rw [← p3 hop]; exact hop) hf
        · refine ⟨hS.block_lt h5 h6 h3 h4, fun ⟨i, oi, v, hi, q1, q2, hv, hf⟩ => ?_⟩
          rw [e1] at h1
          simp only [loadB, Bool.and_eq_true, Bool.not_eq_true'] at h1
          have hne : i ≠ id := fun e2 => by rw [← e2, (memN_iff W i).2 hi] at h1; exact absurd h1.2.1 (by simp)
          obtain ⟨o2, p1, p2, _⟩ := hsm id o' h5 h6
          exact hne (hinjr i id oi o2 v y b q1 p1 q2 p2 hv h3 hf (.inl h4))
      exact fin (h2 b hbw.1 hbw.2)
  · rename_i hne
    obtain ⟨h1, h⟩ := must_some h
    obtain ⟨v, obs1, vv, hk, hA, hR, hx, hsh⟩ := calm_sound hC hE hS h1 h
    exact ⟨v, obs1, vv, hk, hA, hR, fun w2 _ => hx w2, hsh⟩
end
end Go.PI
