/-
  PI: operations one after another; a loop's head.
-/
import Derived.Test.YtodapaplfjfnlaaGreatPIExec
import Derived.Orders
namespace Go.PI
open Go
set_option linter.unusedVariables false
set_option linter.unusedSimpArgs false
def CallFOk (P : Program) (C : Cfg) (call : CallT) : Prop :=
  ∀ (α : Type) (f : Nat) (args : List V) (obs : Obs) (K : V → Obs → Option α) (r : α) (N : Nat → Prop) (s0 : Nat) (A : List Value) (w : World) (vals : Array Value),
    callF C call f args obs K = some r → St C N s0 0 A obs w → (∀ b, w.heap.size ≤ b → ¬ N b) → RlL A (Ok N A obs w) w args vals.toList →
    Enters P f ∧ Calls P f vals w (fun en w' => ∃ vv, en = .returned vv ∧ Post C N s0 0 A obs w K r vv w')
structure Here (C : Cfg) (N : Nat → Prop) (s0 n0 : Nat) (A0 : List Value) (obs0 : Obs) (w0 : World) (nt : Nat) (e : Env) (A : List Value) (obs : Obs) (a : Act) (w : World) : Prop where
  st : St C N s0 n0 A obs w
  n0_le : n0 ≤ obs.length
  fresh : ∀ b, w.heap.size ≤ b → ¬ N b
  pre : ∀ (id : Nat) (v : Value), A0[id]? = some v → A[id]? = some v
  grow : ∀ b, Ok N A0 obs0 w0 b → Ok N A obs w b
  blk : ∀ b, Ok N A0 obs0 w0 b → w.heap[b]? = w0.heap[b]?
  frame : ∀ b, b < w0.heap.size → ¬ Open w0 A0 obs0 b → w.heap[b]? = w0.heap[b]?
  opens : ∀ b, b < w0.heap.size → Open w A obs b → Open w0 A0 obs0 b
  hsize : w0.heap.size ≤ w.heap.size
  os : w.os = w0.os
  tape : w.tape = w0.tape
  output : w.output = w0.output
  env : EnvR A (Ok N A obs w) w e a.tmps
  size : nt ≤ a.tmps.size
  defers : a.defers = []
section
variable {P : Program} {C : Cfg} {nm : NM} {N : Nat → Prop} {s0 n0 : Nat} {A0 A A' : List Value} {obs0 obs obs' : Obs} {w0 w w' : World} {α : Type} {r : α} {nt : Nat} {e : Env} {a : Act}
theorem Here.after (h : Here C N s0 n0 A0 obs0 w0 nt e A obs a w) : After C N s0 n0 A0 obs0 w0 A obs w :=
  ⟨h.st, ⟨h.pre, h.grow, h.blk⟩, h.frame, h.opens, h.hsize, h.os, h.tape, h.output⟩
theorem Here.step (h : Here C N s0 n0 A0 obs0 w0 nt e A obs a w) (k : After C N s0 n0 A obs w A' obs' w') {e' : Env} {a' : Act} (hE : EnvR A' (Ok N A' obs' w') w' e' a'.tmps) (hs : nt ≤ a'.tmps.size) (hd : a'.defers = []) :
    Here C N s0 n0 A0 obs0 w0 nt e' A' obs' a' w' := by
  have t := h.after.trans k
  exact ⟨t.st, Nat.le_trans h.n0_le (k.n0_le h.st), fun b hb => h.fresh b (Nat.le_trans k.size hb), t.mono.pre, t.mono.grow, t.mono.blk, t.frame, t.opens, t.size, t.os, t.tape, t.output, hE, hs, hd⟩
theorem Here.put (h : Here C N s0 n0 A0 obs0 w0 nt e A obs a w) (k : After C N s0 n0 A obs w A' obs' w') {v : V} {vv : Value} (hv : Rl A' (Ok N A' obs' w') w' v vv) (d : Option Nat) (hd : ∀ x, d = some x → x < nt) :
    Here C N s0 n0 A0 obs0 w0 nt (putE e d v) A' obs' (a.put d vv) w' := by
  refine h.step k ((h.env.mono k.mono).put hv d fun x hx => Nat.lt_of_lt_of_le (hd x hx) h.size) ?_ ?_
  · cases d with
    | none => exact h.size
    | some d => simpa [Act.put] using h.size
  · cases d with
    | none => exact h.defers
    | some d => simpa [Act.put] using h.defers
theorem Here.start (hS : St C N s0 n0 A obs w) (hn : n0 ≤ obs.length) (hN : ∀ b, w.heap.size ≤ b → ¬ N b) (hE : EnvR A (Ok N A obs w) w e a.tmps) (hs : nt ≤ a.tmps.size) (hd : a.defers = []) : Here C N s0 n0 A obs w nt e A obs a w :=
  ⟨hS, hn, hN, fun _ _ h => h, fun _ h => h, fun _ _ => rfl, fun _ _ _ => rfl, fun _ _ h => h, Nat.le_refl _, rfl, rfl, rfl, hE, hs, hd⟩
def dstB (n : Nat) (o : Oper) : Bool := match o.dst with | some d => Nat.blt d n | none => true
theorem dstB_lt {n : Nat} {o : Oper} (h : dstB n o = true) : ∀ x, o.dst = some x → x < n := fun x hx => by
  unfold dstB at h; rw [hx] at h; exact Nat.le_of_ble_eq_true h
theorem look_size {t : Nat} {b : Bool} {tmps : Array Value} (h : tmps.getD t undef = .bool b) : tmps[t]? = some (.bool b) := by
  rw [Array.getD_eq_getD_getElem?] at h
  cases hv : tmps[t]? with
  | none => rw [hv] at h; simp [undef] at h
  | some v => rw [hv] at h; simpa using h
theorem isUndef_eq {v : V} (h : isUndef v = true) : v = .tup [] := by
  unfold isUndef at h
  split at h
  · rfl
  · cases h
theorem undef_rl {A : List Value} {ok : Nat → Prop} : Rl A ok w (.tup []) undef := by simp only [Rl]; exact ⟨#[], rfl, by simp [RlL]⟩
theorem guard_undef {ops : Array Oper} {o : Oper} {j d : Nat} {want : Bool} {ok : Nat → Prop} (hg : o.guard = some (j, want)) (hj : (ops[j]?).bind (·.dst) = some d) (hE : EnvR A ok w e a.tmps) (ht : look e d = .tup []) : Region.wanted o (yielded ops a.tmps) = false := by
  have hv := hE d
  rw [ht] at hv
  simp only [Rl] at hv
  obtain ⟨x, hx, hl⟩ := hv
  have hy : yielded ops a.tmps j = none := by
    unfold yielded
    rw [hj]
    simp only [Option.bind_some]
    rw [Array.getD_eq_getD_getElem?] at hx
    cases hq : a.tmps[d]? with
    | none => rfl
    | some q =>
      rw [hq] at hx
      simp only [Option.getD_some] at hx
      rw [hx]
  simp [Region.wanted, hg, hy]
theorem oper_sound (hC : CfgOk P C) {call : CallT} (hcall : CallFOk P C call) {all : Array Oper} {o : Oper} {K : Env → Obs → Option α} {Q : Exit → Act → World → Prop}
    (hH : Here C N s0 0 A0 obs0 w0 nt e A obs a w) (hd : dstB nt o = true) (h : oper C nm call all e obs o K = some r) :
    if Region.wanted o (yielded all a.tmps) then o.wp P a w (fun a' w' => ∃ e' obs' A', K e' obs' = some r ∧ Here C N s0 0 A0 obs0 w0 nt e' A' obs' a' w') Q
    else ∃ e' obs' A', K e' obs' = some r ∧ Here C N s0 0 A0 obs0 w0 nt e' A' obs' (a.put o.dst undef) w := by
  have one : ∀ (e1 : Env), Here C N s0 0 A0 obs0 w0 nt e1 A obs a w → op C nm call e1 obs o.op (fun v obs => K (putE e1 o.dst v) obs) = some r →
      o.wp P a w (fun a' w' => ∃ e' obs' A', K e' obs' = some r ∧ Here C N s0 0 A0 obs0 w0 nt e' A' obs' a' w') Q := by
    intro e1 h1 h
    refine Oper.wp_mono ?_ (op_sound hC (fun f args K vals hk hl => hcall _ f args obs K r N s0 A w vals hk h1.st h1.fresh hl) h1.env h1.st h1.n0_le h1.fresh h)
    rintro a2 w2 ⟨vv, rfl, v, obs1, A1, hk, hA, hR⟩
    exact ⟨_, obs1, A1, hk, h1.put hA hR o.dst (dstB_lt hd)⟩
  unfold oper operG at h
  split at h
  · rename_i hg
    rw [if_pos (by simp [Region.wanted, hg])]
    exact one e hH h
  · rename_i j want hg
    split at h
    · cases h
    · rename_i d hj
      cases hu : isUndef (look e d) with
      | true =>
        rw [hu] at h
        rw [if_neg (by rw [guard_undef hg hj hH.env (isUndef_eq hu)]; simp)]
        exact ⟨_, obs, A, h, hH.put (After.refl hH.st) undef_rl o.dst (dstB_lt hd)⟩
      | false =>
      rw [hu] at h
      replace h := asBool_some h
      obtain ⟨t, ht, h⟩ := h
      have ht : look e d = .bool t := by simpa using ht
      have hv := hH.env d
      rw [ht] at hv
      simp only [Rl] at hv
      have hy : yielded all a.tmps j = some t := by
        unfold yielded
        rw [hj]
        simp [look_size hv]
      have hE1 : Here C N s0 0 A0 obs0 w0 nt ((d, .bool t) :: e) A obs a w := by
        refine hH.step (After.refl hH.st) (fun x => ?_) hH.size hH.defers
        rw [look_cons]
        split
        · rename_i hx; subst hx; simp only [Rl]; exact hv
        · exact hH.env x
      have h : (bif t == want then op C nm call ((d, .bool t) :: e) obs o.op fun v obs => K (putE ((d, .bool t) :: e) o.dst v) obs else K (putE ((d, .bool t) :: e) o.dst (.tup [])) obs) = some r := by
        cases t <;> exact h
      have hw : Region.wanted o (yielded all a.tmps) = (t == want) := by
        simp only [Region.wanted, hg, hy]
        cases t <;> cases want <;> rfl
      rw [hw]
      cases hb : t == want with
      | true =>
        rw [hb] at h
        rw [if_pos rfl]
        exact one _ hE1 h
      | false =>
        rw [hb] at h
        rw [if_neg (by simp)]
        exact ⟨_, obs, A, h, hE1.put (After.refl hH.st) undef_rl o.dst (dstB_lt hd)⟩
theorem store_cells_row {id bt n : Nat} {cs : List V} {g cap : Nat} {cur : Array Value} {off : Nat} {tb : TI} {vs : List Value} (hS : St C N s0 n0 A obs w) (ho : obs[id]? = some (.row bt n cs false)) (hv : A[id]? = some (.slice (some ⟨g, 0, none⟩) n cap))
    (hC : C.ty bt = some tb) (hp : 0 < tb.size) (q1 : vs.length = n * tb.size) (hh : w.heap[g]? = some (.cells cur bt (0, 0))) (q6 : n ≤ cap) (q7 : cap ≤ maxLen) (q8 : cur.size = cap * tb.size) (q9 : cur.toList.take (n * tb.size) = vs)
    (hl : RlL [] (Ok N A obs w) w cs vs) (hone : ∀ x ∈ vs, x.oneCell' = true)
    {xs : List V} {ys : List Value} (hx : RlL [] (Ok N A obs w) w xs ys) (h1 : ∀ y ∈ ys, y.oneCell' = true) (hin : off + xs.length ≤ cs.length) :
    ∃ w', (storeCells ⟨g, off, none⟩ ys).run P w = .ok () w' ∧ After C N s0 n0 A obs w A (setOb obs id (.row bt n (splice cs off xs) false)) w' := by
  have hlen := hl.length
  have hxl := hx.length
  have hcap : n * tb.size ≤ cap * tb.size := Nat.mul_le_mul_right _ q6
  have hr := run_storeCells_at P g off bt ys 0 cur w hh (by omega) h1
  simp only [Nat.add_zero] at hr
  refine ⟨_, hr, ?_⟩
  refine hS.write (o' := .row bt n (splice cs off xs) false) ho rfl hv rfl rfl rfl (by simp) (fun b hb hne => setRow_other w g b _ hne) rfl rfl rfl ?_ ?_
  · intro t1 cs1 sh1 e; cases e
  · intro t1 n1 cs1 sh1 e
    cases e
    refine ⟨tb, vs.take off ++ ys ++ vs.drop (off + ys.length), hC, hp, ⟨?_, .inr ⟨g, cap, _, rfl, Nat.zero_le _, setRow_heap w g cur _ bt (0, 0) hh, q6, q7, ?_, ?_⟩⟩, hl.splice off hx, ?_⟩
    · simp only [List.length_append, List.length_take, List.length_drop]; omega
    · simp only [List.size_toArray, List.length_append, List.length_take, List.length_drop, Array.length_toList]; omega
    · rw [← q9]
      have hl9 : vs.length = (cur.toList.take (n * tb.size)).length := by rw [q9]
      simp only [List.length_take, Array.length_toList] at hl9
      exact take_splice cur.toList ys off (n * tb.size) (by omega)
    · intro y hy
      simp only [List.mem_append, List.append_assoc] at hy
      rcases hy with hy | hy | hy
      · exact hone y (List.mem_of_mem_take hy)
      · exact h1 y hy
      · exact hone y (List.mem_of_mem_drop hy)
theorem reps_length (z : List V) : ∀ n, (reps n z).length = n * z.length
  | 0 => by simp [reps]
  | n + 1 => by simp only [reps, List.length_append, reps_length z n, Nat.succ_mul]; omega
theorem clearAt_sound (hC : CfgOk P C) {t : Nat} {x l : V} {xv lv : Value} {K : Obs → Option α} (hS : St C N s0 n0 A obs w) (hx : Rl A (Ok N A obs w) w x xv) (hl : Rl A (Ok N A obs w) w l lv) (h : clearAt C obs t x l K = some r) :
    ∃ obs' w' sv, K obs' = some r ∧ (∀ w2 : World, (Instr.sliceAt t xv (some lv) none none).run P w2 = .ok sv w2) ∧ (∀ ty, (Builtin.clear_ #[t] ty #[sv]).run P w = .ok (.tuple #[]) w') ∧ After C N s0 n0 A obs w A obs' w' := by
  unfold clearAt at h
  replace h := elemOf_some hC h
  obtain ⟨e, te, hu, hte', hte, hp, h⟩ := h
  obtain ⟨ii, z, d, hi, hs, hby, hz, hzl, hu', hagg, hd, hone1, hlv, hz1, hzlen⟩ := hte.info
  have hzs : z.cells.size = te.size := by rw [← Array.length_toList, hzl]; exact hzlen
  have hse : ∀ w2 : World, (sizeOf e).run P w2 = .ok te.size w2 := fun w2 => (hC.ty e te hte').size_ne (w := w2)
  have hzv : ∀ w2 : World, (zeroValue e).run P w2 = .ok z w2 := fun w2 => by simp [zeroValue, typeInfo, hi, hz]
  split at h
  · rename_i id
    split at h
    · rename_i bt n cs ho
      obtain ⟨hbe, h⟩ := must_some h
      have hbe := Nat.eq_of_beq_eq_true hbe
      subst hbe
      obtain ⟨k, hk, hb⟩ := bnd_some (x := some l) (v := some lv) (by simpa [RlO] using hl) h
      simp only [Rl] at hx
      obtain ⟨tb, vs, hCb, hpb, ⟨q1, q2⟩, hl0, hone⟩ := hS.row id _ n cs false xv ho hx
      rw [hte'] at hCb; cases hCb
      rcases hb with ⟨e0, _⟩ | ⟨kk, i, e0, e1, i0, i1, rfl⟩
      · cases e0
      cases e1
      have hln : i.toNat ≤ n := by omega
      have hlen := hl0.length
      have run : ∀ a c, n ≤ c → ∀ w2 : World, (Instr.sliceAt t (.slice a n c) (some (.int kk i)) none none).run P w2 = .ok (.slice (if c = i.toNat then a else a.map (·.add (i.toNat * te.size))) (n - i.toNat) (c - i.toNat)) w2 := fun a c hnc w2 => by
        simp [Instr.sliceAt, Instr.slice, run_underlying hu, run_bounds (P := P) (w := w2) (lo := some (.int kk i)) (hi := none) true hnc hln (Nat.le_refl n) (.inl ⟨rfl, rfl⟩) (.inr ⟨kk, i, rfl, i0, rfl⟩), hse]
      have hsame : n - i.toNat = 0 → setOb obs id (.row e n (splice cs (i.toNat * te.size) (reps (n - i.toNat) (ofConsts te.zero))) false) = obs := fun h0 => by
        have e2 : splice cs (i.toNat * te.size) (reps (n - i.toNat) (ofConsts te.zero)) = cs := by
          rw [h0]; simp [splice, reps]
        rw [e2, setOb_set]
        obtain ⟨hlt, he⟩ := List.getElem?_eq_some_iff.1 ho
        rw [← he, List.set_getElem_self]
      rcases q2 with ⟨rfl, rfl⟩ | ⟨g, cap, cur, rfl, q4, hh, q6, q7, q8, q9⟩
      · refine ⟨_, w, _, hk, run none 0 (Nat.le_refl 0), fun ty => ?_, ?_⟩
        · have : (if 0 = i.toNat then (none : Option Addr) else (none : Option Addr).map (·.add (i.toNat * te.size))) = none := by split <;> rfl
          rw [this]
          simp [Builtin.clear_, run_underlying hu]
        · rw [hsame (by omega)]; exact After.refl hS
      · by_cases h0 : n - i.toNat = 0
        · refine ⟨_, w, _, hk, run _ cap q6, fun ty => ?_, ?_⟩
          · rw [h0]
            cases (if cap = i.toNat then (some ⟨g, 0, none⟩ : Option Addr) else (some ⟨g, 0, none⟩ : Option Addr).map (·.add (i.toNat * te.size))) <;>
            simp [Builtin.clear_, run_underlying hu]
          · rw [hsame h0]; exact After.refl hS
        · have hcells : (Builtin.zeroCells z.cells (n - i.toNat)).toList = (List.replicate (n - i.toNat) te.zero).flatten := by
            have := madeCells_eq z.cells te.size hzs hp (n - i.toNat)
            rw [hzl] at this
            rw [← this]
            unfold Builtin.zeroCells madeCells
            rw [hzs]
          have hzc : (ofConsts te.zero).length = te.size := by rw [(ofConsts_rl (A := []) (ok := NoB) (w := w) te.zero).length]; exact hzlen
          have hmul : n * te.size = i.toNat * te.size + (n - i.toNat) * te.size := by rw [← Nat.add_mul]; congr 1; omega
          obtain ⟨w', hr, hA⟩ := store_cells_row (P := P) (off := i.toNat * te.size) (xs := reps (n - i.toNat) (ofConsts te.zero)) (ys := (List.replicate (n - i.toNat) te.zero).flatten) hS ho hx hte' hpb q1 hh q6 q7 q8 q9 hl0 hone
            (reps_rl (ofConsts_rl te.zero) _) (fun u hu => by
              obtain ⟨l, hl1, hl2⟩ := List.mem_flatten.1 hu
              rw [(List.mem_replicate.1 hl1).2] at hl2
              exact hone1 u hl2) (by rw [reps_length, hzc]; omega)
          refine ⟨_, w', _, hk, run _ cap q6, fun ty => ?_, hA⟩
          rw [if_neg (by omega)]
          obtain ⟨m, hm⟩ : ∃ m, n - i.toNat = m + 1 := ⟨n - i.toNat - 1, by omega⟩
          rw [hm] at hcells hr ⊢
          simp only [Option.map_some, add_at, Nat.zero_add]
          simp [Builtin.clear_, run_underlying hu, hzv, hcells, hr]
    · cases h
  · cases h
theorem clears_eq {o o2 : Oper} {t : Nat} {x l : Operand} (h : clears o o2 = some (t, x, l)) : ∃ d, o.op = .slice t x (some l) none none ∧ o.dst = some d ∧ o.guard = none ∧ o2.guard = none ∧ ∃ args ats, o2.op = .call { callee := .builtin .clear, args := args, argTypes := ats } ∧ args = #[.tmp d] ∧ ats = #[t] := by
  unfold clears at h
  split at h
  · rename_i args ats ho2
    split at h
    · rename_i t' x' l' d d' t'' h1 h2 h3 h4 h5 h6
      cases hb : Nat.beq d d' && Nat.beq t' t'' with
      | false => rw [hb] at h; cases h
      | true =>
        rw [hb] at h
        simp only [Bool.and_eq_true] at hb
        have e1 := Nat.eq_of_beq_eq_true hb.1
        have e2 := Nat.eq_of_beq_eq_true hb.2
        subst e1 e2
        cases h
        exact ⟨d, h1, h2, h3, h4, args, ats, ho2, Array.toList_inj.1 h5, Array.toList_inj.1 h6⟩
    · cases h
  · cases h
theorem opers_sound (hC : CfgOk P C) {call : CallT} (hcall : CallFOk P C call) {all : Array Oper} {Q : Exit → Act → World → Prop} : ∀ (ops : List Oper) {K : Env → Obs → Option α} {e : Env} {A : List Value} {obs : Obs} {a : Act} {w : World},
    Here C N s0 0 A0 obs0 w0 nt e A obs a w → ops.all (dstB nt) = true → opers C nm call all ops e obs K = some r →
    (∀ e' obs' A' a' w', K e' obs' = some r → Here C N s0 0 A0 obs0 w0 nt e' A' obs' a' w' → Q .normal a' w') → wpList P all Q ops a w
  | [], K, e, A, obs, a, w, hH, _, h, hQ => hQ e obs A a w (by simpa [opers] using h) hH
  | [o], K, e, A, obs, a, w, hH, hd, h, hQ => by
    simp only [List.all_cons, List.all_nil, Bool.and_eq_true] at hd
    simp only [opers] at h
    have h1 := oper_sound (Q := Q) hC hcall hH hd.1 h
    have next : ∀ {a' : Act} {w' : World}, (∃ e' obs' A', K e' obs' = some r ∧ Here C N s0 0 A0 obs0 w0 nt e' A' obs' a' w') → wpList P all Q [] a' w' := by
      rintro a' w' ⟨e', obs', A', hk, hH'⟩
      exact hQ e' obs' A' a' w' hk hH'
    unfold wpList
    split
    · rename_i hw
      rw [if_pos hw] at h1
      exact .inl (Oper.wp_mono (fun _ _ h => next h) h1)
    · rename_i hw
      rw [if_neg hw] at h1
      exact next h1
  | o :: o2 :: ops, K, e, A, obs, a, w, hH, hd, h, hQ => by
    have hd' := hd
    simp only [List.all_cons, Bool.and_eq_true] at hd
    simp only [opers] at h
    split at h
    · rename_i c hc
      obtain ⟨t, x, l⟩ := c
      obtain ⟨d, h1, h2, h3, h4, args, ats, h5, rfl, rfl⟩ := clears_eq hc
      obtain ⟨obs1, w1, sv, hk, hr, hcl, hA⟩ := clearAt_sound hC hH.st (ev_sound hH.env x) (ev_sound hH.env l) h
      have hH1 := hH.put (After.refl hH.st) (v := .u) (vv := sv) (by simp [Rl]) o.dst (dstB_lt hd.1)
      have hH2 := hH1.put hA (v := .u) (vv := .tuple #[]) (by simp [Rl]) o2.dst (dstB_lt hd.2.1)
      have hn : d < a.tmps.size := Nat.lt_of_lt_of_le (dstB_lt hd.1 d h2) hH.size
      have hev : (a.put o.dst sv).eval (.tmp d) = sv := by
        rw [h2]
        simp [Act.put, Act.eval, Array.getD, hn]
      unfold wpList
      rw [if_pos (by simp [Region.wanted, h3])]
      refine .inl (wp_value (vv := sv) (by simp only [execOp, h1, Option.map_none, Option.map_some, Sem.run_bind, hr w, Result.andThen_ok]; rfl) ?_)
      unfold wpList
      rw [if_pos (by simp [Region.wanted, h4])]
      refine .inl (wp_value (vv := .tuple #[]) (w' := w1) ?_ (opers_sound hC hcall ops hH2 hd.2.2 hk hQ))
      have hae : (#[.tmp d] : Array Operand).map (a.put o.dst sv).eval = #[sv] := by simp [hev]
      simp only [execOp, h5, resolve, hae, Sem.run_bind, Sem.run_pure, Result.andThen_ok, invoke, builtin, hcl]
    · have h1 := oper_sound (Q := Q) hC hcall hH hd.1 h
      have next : ∀ {a' : Act} {w' : World}, (∃ e' obs' A', opers C nm call all (o2 :: ops) e' obs' K = some r ∧ Here C N s0 0 A0 obs0 w0 nt e' A' obs' a' w') → wpList P all Q (o2 :: ops) a' w' := by
        rintro a' w' ⟨e', obs', A', hk, hH'⟩
        exact opers_sound hC hcall (o2 :: ops) hH' (by simp only [List.all_cons, Bool.and_eq_true]; exact hd.2) hk hQ
      unfold wpList
      split
      · rename_i hw
        rw [if_pos hw] at h1
        exact .inl (Oper.wp_mono (fun _ _ h => next h) h1)
      · rename_i hw
        rw [if_neg hw] at h1
        exact next h1
  termination_by ops => ops.length
theorem idx_some : ∀ (m : List Nat) (x k j : Nat), idx x m k = some j → k ≤ j ∧ m[j - k]? = some x
  | [], _, _, _, h => by simp [idx] at h
  | y :: r, x, k, j, h => by
    simp only [idx] at h
    cases hb : Nat.beq x y with
    | true =>
      rw [hb] at h; simp at h; subst h
      exact ⟨Nat.le_refl _, by simp [Nat.eq_of_beq_eq_true hb]⟩
    | false =>
      rw [hb] at h; simp at h
      obtain ⟨h1, h2⟩ := idx_some r x (k + 1) j h
      refine ⟨by omega, ?_⟩
      have : j - k = (j - (k + 1)) + 1 := by omega
      rw [this]; simpa using h2
theorem memN_iff : ∀ (l : List Nat) (x : Nat), memN x l = true ↔ x ∈ l
  | [], x => by simp [memN]
  | y :: r, x => by
    simp only [memN, Bool.or_eq_true, List.mem_cons, memN_iff r x]
    exact ⟨fun h => h.imp Nat.eq_of_beq_eq_true id, fun h => h.imp (fun h => by rw [h]; exact Nat.beq_refl y) id⟩
theorem nodupN_iff : ∀ (l : List Nat), nodupN l = true → l.Nodup
  | [], _ => List.nodup_nil
  | x :: r, h => by
    simp only [nodupN, Bool.and_eq_true, Bool.not_eq_true'] at h
    refine List.nodup_cons.2 ⟨fun hm => ?_, nodupN_iff r h.2⟩
    rw [(memN_iff r x).2 hm] at h; exact absurd h.1 (by simp)
theorem allLt_iff : ∀ (n : Nat) (l : List Nat), allLt n l = true → ∀ x ∈ l, x < n
  | n, [], _, x, hx => by simp at hx
  | n, y :: r, h, x, hx => by
    simp only [allLt, Bool.and_eq_true] at h
    rcases List.mem_cons.1 hx with rfl | hx
    · exact Nat.le_of_ble_eq_true h.1
    · exact allLt_iff n r h.2 x hx
theorem reach_prefix : ∀ (n : Nat) (acc todo : List Nat), ∃ t, reach C obs n acc todo = acc ++ t
  | 0, acc, todo => ⟨[], by simp [reach]⟩
  | n + 1, acc, [] => ⟨[], by simp [reach]⟩
  | n + 1, acc, i :: todo => by
    simp only [reach]
    cases memN i acc with
    | true => exact reach_prefix n acc todo
    | false =>
      obtain ⟨t, ht⟩ := reach_prefix n (acc ++ [i]) (obIds C obs[i]? ++ todo)
      exact ⟨i :: t, by simp only [cond_false]; rw [ht]; simp⟩
theorem upto_get : ∀ (n i : Nat), i < n → (upto n)[i]? = some i
  | 0, i, h => by omega
  | n + 1, i, h => by
    have hl : ∀ n, (upto n).length = n := fun n => by induction n with
      | zero => rfl
      | succ n ih => simp [upto, ih]
    simp only [upto]
    by_cases hi : i < n
    · rw [List.getElem?_append_left (by rw [hl]; exact hi)]; exact upto_get n i hi
    · have : i = n := by omega
      subst this
      rw [List.getElem?_append_right (by rw [hl]; exact Nat.le_refl _), hl]; simp
theorem pick_get : ∀ (m : List Nat) (j : Nat), (pick obs m)[j]? = (m[j]?).map fun i => (obs[i]?).getD .gone
  | [], j => by simp [pick]
  | i :: m, 0 => by simp only [pick, List.getElem?_cons_zero, Option.map_some]; cases obs[i]? <;> rfl
  | i :: m, j + 1 => by simp only [pick, List.getElem?_cons_succ]; exact pick_get m j
theorem pick_length : ∀ (m : List Nat), (pick obs m).length = m.length
  | [] => rfl
  | i :: m => by simp [pick, pick_length m]
theorem renObs_get (m : List Nat) : ∀ (os : Obs) (j : Nat), (renObs C m os)[j]? = (os[j]?).map (renOb C m)
  | [], j => by simp [renObs]
  | o :: os, 0 => by simp [renObs]
  | o :: os, j + 1 => by simp only [renObs, List.getElem?_cons_succ]; exact renObs_get m os j
theorem renObs_length (m : List Nat) : ∀ (os : Obs), (renObs C m os).length = os.length
  | [] => rfl
  | o :: os => by simp [renObs, renObs_length m os]
theorem look_renEnv (m live : List Nat) (e : Env) (t : Nat) : look (renEnv m (envAt e live)) t = .u ∨ look (renEnv m (envAt e live)) t = renV m (look e t) := by
  induction live with
  | nil => exact .inl rfl
  | cons s live ih =>
    simp only [envAt, renEnv, look_cons]
    by_cases h : s = t
    · rw [if_pos h, h]; exact .inr rfl
    · rw [if_neg h]; exact ih
def picked (A : List Value) (m : List Nat) : List Value := m.map fun i => A.getD i undef
section
variable {m : List Nat} {ok ok' : Nat → Prop}
theorem picked_get (hm : ∀ x ∈ m, x < A.length) {i j : Nat} (h : m[j]? = some i) : (picked A m)[j]? = A[i]? := by
  unfold picked
  rw [List.getElem?_map, h]
  have hi := hm i (List.mem_of_getElem? h)
  simp [List.getD, List.getElem?_eq_getElem hi]
theorem renV_sound (hm : ∀ x ∈ m, x < A.length) (hok : ∀ b, ok b → ok' b) : ∀ {v : V} {vv : Value}, Rl A ok w v vv → Rl (picked A m) ok' w (renV m v) vv := by
  have M : Mono ok ok' [] (picked A m) w w := ⟨fun _ _ h => by simp at h, hok, fun _ _ => rfl⟩
  have ref : ∀ {m : List Nat}, (∀ x ∈ m, x < A.length) → ∀ {i : Nat} {vv : Value}, A[i]? = some vv → Rl (picked A m) ok' w (match idx i m 0 with | some j => .ref j | none => .u) vv := by
    intro m hm i vv h
    cases hi : idx i m 0 with
    | none => simp [Rl]
    | some j =>
      simp only [Rl]
      rw [picked_get hm (by simpa using (idx_some m i 0 j hi).2)]; exact h
  have ptr : ∀ {m : List Nat}, (∀ x ∈ m, x < A.length) → ∀ {i off : Nat} {vv : Value}, Rl A ok w (.ptr i off) vv → Rl (picked A m) ok' w (match idx i m 0 with | some j => .ptr j off | none => .u) vv := by
    intro m hm i off vv h
    cases hi : idx i m 0 with
    | none => simp [Rl]
    | some j =>
      simp only [Rl] at h ⊢
      rw [picked_get hm (by simpa using (idx_some m i 0 j hi).2)]; exact h
  have lst : ∀ {m : List Nat}, (∀ x ∈ m, x < A.length) → ∀ (cs : List V) {vs : List Value}, RlL A ok w cs vs → RlL (picked A m) ok' w (renV.renL m cs) vs := by
    intro m hm cs
    have M : Mono ok ok' [] (picked A m) w w := ⟨fun _ _ h => by simp at h, hok, fun _ _ => rfl⟩
    induction cs with
    | nil => intro vs h; cases vs <;> simp_all [RlL, renV.renL]
    | cons c cs ih =>
      intro vs h
      cases vs with
      | nil => simp [RlL] at h
      | cons v vs =>
        simp only [RlL] at h
        have h2 := ih h.2
        have h1 := h.1
        cases c with
        | ref i => simp only [Rl] at h1; simp only [renV.renL, RlL]; exact ⟨ref hm h1, h2⟩
        | ptr i off => simp only [renV.renL, RlL]; exact ⟨ptr hm h1, h2⟩
        | fn => simp only [renV.renL, RlL, Rl]; exact ⟨trivial, h2⟩
        | agg => simp only [renV.renL, RlL, Rl]; exact ⟨trivial, h2⟩
        | tup => simp only [renV.renL, RlL, Rl]; exact ⟨trivial, h2⟩
        | osl => simp only [renV.renL, RlL, Rl]; exact ⟨trivial, h2⟩
        | own => simp only [Rl] at h1
        | u => simp only [renV.renL, RlL, Rl]; exact ⟨trivial, h2⟩
        | bool => simp only [renV.renL, RlL]; exact ⟨Rl.mono M _ (h1.free rfl), h2⟩
        | int => simp only [renV.renL, RlL]; exact ⟨Rl.mono M _ (h1.free rfl), h2⟩
        | str => simp only [renV.renL, RlL]; exact ⟨Rl.mono M _ (h1.free rfl), h2⟩
        | nilsl => simp only [renV.renL, RlL]; exact ⟨Rl.mono M _ (h1.free rfl), h2⟩
        | nilp => simp only [renV.renL, RlL]; exact ⟨Rl.mono M _ (h1.free rfl), h2⟩
        | nilf => simp only [renV.renL, RlL]; exact ⟨Rl.mono M _ (h1.free rfl), h2⟩
        | nili => simp only [renV.renL, RlL]; exact ⟨Rl.mono M _ (h1.free rfl), h2⟩
        | sl => simp only [renV.renL, RlL]; exact ⟨Rl.mono M _ (h1.free rfl), h2⟩
        | prj cs off => simp only [renV.renL, RlL]; refine ⟨Rl.mono M _ ?_, h2⟩; simp only [Rl] at h1 ⊢; exact h1
        | pin cs off => simp only [renV.renL, RlL]; refine ⟨Rl.mono M _ ?_, h2⟩; simp only [Rl] at h1 ⊢; exact h1
  intro v vv h
  cases v with
  | ref i => simp only [Rl] at h; exact ref hm h
  | ptr i off => exact ptr hm h
  | fn f caps =>
    simp only [Rl] at h
    obtain ⟨cv, e, hl⟩ := h
    simp only [renV, Rl]
    exact ⟨cv, e, lst hm caps hl⟩
  | agg cs =>
    simp only [Rl] at h
    obtain ⟨a, e, hl, ho⟩ := h
    simp only [renV, Rl]
    refine ⟨a, e, ?_, ho⟩
    have h0 := lst (m := []) (by simp) cs hl
    exact RlL.mono (ok := ok') ⟨fun _ _ h => by simp [picked] at h, fun _ h => h, fun _ _ => rfl⟩ _ h0
  | tup => simp [renV, Rl]
  | osl => simp [renV, Rl]
  | own => simp only [Rl] at h
  | u => simp [renV, Rl]
  | bool => exact Rl.mono M _ (h.free rfl)
  | int => exact Rl.mono M _ (h.free rfl)
  | str => exact Rl.mono M _ (h.free rfl)
  | nilsl => exact Rl.mono M _ (h.free rfl)
  | nilp => exact Rl.mono M _ (h.free rfl)
  | nilf => exact Rl.mono M _ (h.free rfl)
  | nili => exact Rl.mono M _ (h.free rfl)
  | sl => exact Rl.mono M _ (h.free rfl)
  | prj cs off => refine Rl.mono M _ ?_; simp only [Rl] at h ⊢; exact h
  | pin cs off => refine Rl.mono M _ ?_; simp only [Rl] at h ⊢; exact h
theorem renCells_sound (hm : ∀ x ∈ m, x < A.length) (hok : ∀ b, ok b → ok' b) : ∀ {cs : List V} {vs : List Value}, RlL A ok w cs vs → RlL (picked A m) ok' w (renCells m cs) vs
  | [], [], _ => by simp [renCells, RlL]
  | [], _ :: _, h => by simp [RlL] at h
  | _ :: _, [], h => by simp [RlL] at h
  | c :: cs, v :: vs, h => by simp only [RlL, renCells] at h ⊢; exact ⟨renV_sound hm hok h.1, renCells_sound hm hok h.2⟩
end
theorem renOb_cases (m : List Nat) (o : Ob) : renOb C m o = o ∨ renOb C m o = .gone ∨ ∃ t cs cs' sh, o = .box t cs sh ∧ renOb C m o = .box t cs' sh := by
  cases o with
  | gone => exact .inl rfl
  | row => exact .inl rfl
  | nrow h => cases h with
    | nil => exact .inl rfl
    | cons => exact .inr (.inl rfl)
  | box t cs sh =>
    cases ht : C.ty t with
    | none => exact .inr (.inl (by simp only [renOb, ht]))
    | some ti =>
      cases hs : hasSl ti.leaves with
      | true => exact .inr (.inr ⟨t, cs, renCells m cs, sh, rfl, by simp only [renOb, ht, hs, cond_true]⟩)
      | false => exact .inl (by simp only [renOb, ht, hs, cond_false])
theorem renOb_open (m : List Nat) (o : Ob) (h : (renOb C m o).isOpen = true) : o.isOpen = true := by
  rcases renOb_cases (C := C) m o with e | e | ⟨t, cs, cs', sh, rfl, e⟩ <;> rw [e] at h
  · exact h
  · cases h
  · cases sh <;> simp_all [Ob.isOpen]
theorem renOb_gone (m : List Nat) (o : Ob) (h : (renOb C m o).isGone = false) : o.isGone = false := by
  rcases renOb_cases (C := C) m o with e | e | ⟨t, cs, cs', sh, rfl, e⟩ <;> rw [e] at h
  · exact h
  · cases h
  · exact h
theorem renOb_row (m : List Nat) (o : Ob) (h : (renOb C m o).isRow = true) : o.isRow = true := by
  rcases renOb_cases (C := C) m o with e | e | ⟨t, cs, cs', sh, rfl, e⟩ <;> rw [e] at h
  · exact h
  · cases h
  · exact h
theorem unnilAt_sound (hS : St C N s0 n0 A obs w) (hn : n0 ≤ obs.length) (i : Nat) (p : Nat × Nat) : ∃ A', After C N s0 n0 A obs w A' (unnilAt C i obs p) w := by
  unfold unnilAt
  split
  · rename_i t cs hi
    split
    · rename_i te hj hte
      cases hb : Nat.blt 0 te.size && slB C t with
      | false => exact ⟨A, After.refl hS⟩
      | true =>
        simp only [Bool.and_eq_true] at hb
        have hpos : 0 < te.size := Nat.le_of_ble_eq_true hb.1
        have hP : After C N s0 n0 A obs w (A ++ [.slice none 0 0]) (obs ++ [(unnilRow p.2).2]) w := by
          unfold unnilRow at hte ⊢
          cases hne : nestE p.2 with
          | some e' =>
            rw [hne] at hte
            exact hS.pushO hn (.nrow [] e' 0 []) (.slice none 0 0) w (Nat.le_refl _) (fun _ _ => rfl) rfl rfl rfl (fun b h => by simp [foot, blockOf, footL, plug, cellsOf] at h) (.inl ⟨_, _, _, rfl⟩)
              (fun t cs sh h => by cases h) (fun t n cs sh h => by cases h) (fun h t n cs e => by
                cases e
                exact NRow_nil hte hpos)
          | none =>
            rw [hne] at hte
            exact hS.push hn (.row p.2 0 [] false) (.slice none 0 0) w (Nat.le_refl _) (fun _ _ => rfl) rfl rfl rfl (fun b h => by simp [blockOf] at h) (.inl ⟨_, _, _, rfl⟩)
              (fun t cs sh h => by cases h) (fun t n cs sh h => by
                cases h
                exact ⟨te, [], hte, hpos, ⟨by simp, .inl ⟨rfl, rfl⟩⟩, by simp [RlL], by simp⟩)
        have hlt : i < obs.length := (List.getElem?_eq_some_iff.1 hi).1
        have hi2 : (obs ++ [(unnilRow p.2).2])[i]? = some (.box t cs false) := by rw [List.getElem?_append_left hlt]; exact hi
        have hlA : i < A.length := by rw [hS.len]; exact hlt
        have hv : (A ++ [Value.slice none 0 0])[i]? = some A[i] := by rw [List.getElem?_append_left hlA]; exact List.getElem?_eq_getElem hlA
        obtain ⟨g, cur, ev, hg, hl, h1⟩ := hP.st.box i t cs false _ hi2 hv
        obtain ⟨v, hvj, hr⟩ := hl.1.get p.1 _ hj
        simp only [Rl] at hr
        subst hr
        have hsp := RlL.splice (xs := cs) (ys := [.ref obs.length]) (us := [Value.slice none 0 0]) p.1 hl.1 (by
          simp only [RlL, Rl]
          refine ⟨?_, trivial⟩
          rw [List.getElem?_append_right (by rw [hS.len]; exact Nat.le_refl _), hS.len]; simp)
        have hcur : cur.toList.take p.1 ++ [Value.slice none 0 0] ++ cur.toList.drop (p.1 + 1) = cur.toList := by
          obtain ⟨hl2, he⟩ := List.getElem?_eq_some_iff.1 hvj
          rw [← he, List.append_assoc, List.singleton_append, ← List.drop_eq_getElem_cons hl2, List.take_append_drop]
        rw [List.length_singleton, hcur] at hsp
        have hW := hP.st.write hi2 rfl hv (by rw [ev]; rfl) (o' := .box t (splice cs p.1 [.ref obs.length]) false) rfl rfl (w' := w) (Nat.le_refl _) (fun _ _ _ => rfl) rfl rfl rfl
          (fun t' cs' sh' e => by
            cases e
            exact ⟨g, cur, ev, hg, ⟨hsp, fun ti h3 h4 => by
              have := hb.2
              unfold slB at this
              rw [h3] at this
              dsimp only at this
              rw [h4] at this; cases this⟩, h1⟩)
          (fun t n cs sh e => by cases e)
        exact ⟨_, hP.trans hW⟩
    · exact ⟨A, After.refl hS⟩
  · exact ⟨A, After.refl hS⟩
theorem unnilsAt_sound (i : Nat) : ∀ (ps : List (Nat × Nat)) {A : List Value} {obs : Obs}, St C N s0 n0 A obs w → n0 ≤ obs.length → ∃ A', After C N s0 n0 A obs w A' (unnilsAt C i ps obs) w
  | [], A, obs, hS, _ => ⟨A, After.refl hS⟩
  | p :: ps, A, obs, hS, hn => by
    obtain ⟨A1, h1⟩ := unnilAt_sound hS hn i p
    obtain ⟨A2, h2⟩ := unnilsAt_sound i ps h1.st (Nat.le_trans hn (h1.n0_le hS))
    exact ⟨A2, h1.trans h2⟩
theorem unnilBox_sound (hS : St C N s0 n0 A obs w) (hn : n0 ≤ obs.length) (i : Nat) : ∃ A', After C N s0 n0 A obs w A' (unnilBox C i obs) w := by
  unfold unnilBox
  split
  · split
    · exact unnilsAt_sound i _ hS hn
    · exact ⟨A, After.refl hS⟩
  · exact ⟨A, After.refl hS⟩
theorem unnils_sound : ∀ (is : List Nat) {A : List Value} {obs : Obs}, St C N s0 n0 A obs w → n0 ≤ obs.length → ∃ A', After C N s0 n0 A obs w A' (unnils C is obs) w
  | [], A, obs, hS, _ => ⟨A, After.refl hS⟩
  | i :: is, A, obs, hS, hn => by
    obtain ⟨A1, h1⟩ := unnilBox_sound hS hn i
    obtain ⟨A2, h2⟩ := unnils_sound is h1.st (Nat.le_trans hn (h1.n0_le hS))
    exact ⟨A2, h1.trans h2⟩
theorem normal0_sound (hkeep : n0 ≤ obs0.length) (hlen0 : A0.length = obs0.length) {live : List Nat} {K : Env → Obs → Option α} (hH : Here C N s0 n0 A0 obs0 w0 nt e A obs a w)
    (h : normal0 C obs0.length live e obs K = some r) : ∃ e' obs' A', K e' obs' = some r ∧ Here C N s0 n0 A0 obs0 w0 nt e' A' obs' a w := by
  unfold normal0 at h
  replace h := must_some h
  obtain ⟨hb, h⟩ := h
  simp only [Bool.and_eq_true] at hb
  obtain ⟨t1, e1⟩ := reach_prefix (C := C) (obs := obs) 200 (upto obs0.length) (obs.take obs0.length |>.flatMap (fun o => obIds C (some o)))
  obtain ⟨t2, e2⟩ := reach_prefix (C := C) (obs := obs) 200 (reach C obs 200 (upto obs0.length) (obs.take obs0.length |>.flatMap (fun o => obIds C (some o)))) (envIds (envAt e live))
  generalize hmdef : reach C obs 200 (reach C obs 200 (upto obs0.length) (obs.take obs0.length |>.flatMap (fun o => obIds C (some o)))) (envIds (envAt e live)) = m at hb h e2
  rw [e1, List.append_assoc] at e2
  have hnd := nodupN_iff m hb.1
  have hlt := allLt_iff obs.length m hb.2
  have hltA : ∀ x ∈ m, x < A.length := fun x hx => by rw [hH.st.len]; exact hlt x hx
  have hul : (upto obs0.length).length = obs0.length := by
    have hl : ∀ n, (upto n).length = n := fun n => by induction n with
      | zero => rfl
      | succ n ih => simp [upto, ih]
    exact hl _
  have hkeepi : ∀ i, i < obs0.length → m[i]? = some i := fun i hi => by
    rw [e2, List.getElem?_append_left (by rw [hul]; exact hi)]; exact upto_get _ i hi
  have hge : ∀ j i, m[j]? = some i → obs0.length ≤ j → obs0.length ≤ i := fun j i hj hk => by
    rcases Nat.lt_or_ge i obs0.length with hi | hi
    · have h1 := hkeepi i hi
      have hj1 := (List.getElem?_eq_some_iff.1 hj).1
      have hi1 := (List.getElem?_eq_some_iff.1 h1).1
      have := (List.getElem_inj hnd (h₀ := hj1) (h₁ := hi1)).1 (by
        rw [(List.getElem?_eq_some_iff.1 hj).2, (List.getElem?_eq_some_iff.1 h1).2])
      omega
    · exact hi
  have minj : ∀ j j' i, m[j]? = some i → m[j']? = some i → j = j' := fun j j' i h1 h2 =>
    (List.getElem_inj hnd (h₀ := (List.getElem?_eq_some_iff.1 h1).1) (h₁ := (List.getElem?_eq_some_iff.1 h2).1)).1 (by
      rw [(List.getElem?_eq_some_iff.1 h1).2, (List.getElem?_eq_some_iff.1 h2).2])
  have back : ∀ (j : Nat) (o' : Ob) (v : Value), (renObs C m (pick obs m))[j]? = some o' → (picked A m)[j]? = some v → ∃ i o, m[j]? = some i ∧ obs[i]? = some o ∧ A[i]? = some v ∧ o' = renOb C m o := by
    intro j o' v h1 h2
    rw [renObs_get, pick_get] at h1
    cases hj : m[j]? with
    | none => rw [hj] at h1; simp at h1
    | some i =>
      rw [hj] at h1
      have hi := hlt i (List.mem_of_getElem? hj)
      simp only [Option.map_some, List.getElem?_eq_getElem hi, Option.getD_some, Option.some.injEq] at h1
      exact ⟨i, obs[i], rfl, List.getElem?_eq_getElem hi, by rw [← picked_get hltA hj]; exact h2, h1.symm⟩
  have rfoot : ∀ {o : Ob} {v : Value} {b : Nat}, foot w (renOb C m o) v b → foot w o v b := fun {o v b} hf => by
    rcases renOb_cases (C := C) m o with e | e | ⟨t, cs, cs', sh, e1, e2⟩
    · rw [e] at hf; exact hf
    · rw [e] at hf; exact .inl ((foot_flat rfl).1 hf)
    · rw [e2] at hf; exact .inl ((foot_flat rfl).1 hf)
  have ropen := fun o => renOb_open (C := C) m o
  have rgone := fun o => renOb_gone (C := C) m o
  have rrow := fun o => renOb_row (C := C) m o
  have hok : ∀ b, Ok N A obs w b → Ok N (picked A m) (renObs C m (pick obs m)) w b := fun b k => ⟨k.lt, k.notN, fun j o' v h1 h2 h3 h4 => by
    obtain ⟨i, o, hj, ho, hv, rfl⟩ := back j o' v h1 h2
    exact k.apart i o v ho hv (ropen o h3) (rfoot h4)⟩
  have hM0 : Mono (Ok N A obs w) (Ok N (picked A m) (renObs C m (pick obs m)) w) [] [] w w := ⟨fun _ _ h => by simp at h, hok, fun _ _ => rfl⟩
  suffices hH2 : Here C N s0 n0 A0 obs0 w0 nt (renEnv m (envAt e live)) (picked A m) (renObs C m (pick obs m)) a w by
    exact ⟨_, _, _, h, hH2⟩
  refine ⟨⟨by rw [renObs_length, pick_length]; simp [picked], hH.st.base, ?_, ?_, ?_, ?_, ?_, ?_⟩, ?_, hH.fresh, ?_, fun b k => hok b (hH.grow b k), hH.blk, hH.frame, ?_, hH.hsize, hH.os, hH.tape, hH.output, ?_, hH.size, hH.defers⟩
  · intro j v hv
    cases hj : m[j]? with
    | none => simp [picked, hj] at hv
    | some i => rw [picked_get hltA hj] at hv; exact hH.st.one i v hv
  · intro j t cs sh v h1 h2
    obtain ⟨i, o, hj, ho, hv, e3⟩ := back j _ v h1 h2
    cases o with
    | gone => simp [renOb] at e3
    | row => simp [renOb] at e3
    | nrow h0 => cases h0 <;> simp [renOb] at e3
    | box t0 cs0 sh0 =>
      simp only [renOb] at e3
      obtain ⟨g, cur, ev, hg, hl, ho1⟩ := hH.st.box i t0 cs0 sh0 v ho hv
      cases ht : C.ty t0 with
      | none => rw [ht] at e3; cases e3
      | some ti =>
        rw [ht] at e3
        dsimp only at e3
        cases hs : hasSl ti.leaves with
        | true =>
          rw [hs] at e3; simp only [cond_true, Ob.box.injEq] at e3
          obtain ⟨rfl, rfl, rfl⟩ := e3
          exact ⟨g, cur, ev, hg, ⟨renCells_sound hltA hok hl.1, fun ti' h3 h4 => by rw [ht] at h3; cases h3; rw [hs] at h4; cases h4⟩, ho1⟩
        | false =>
          rw [hs] at e3; simp only [cond_false, Ob.box.injEq] at e3
          obtain ⟨rfl, rfl, rfl⟩ := e3
          have h0 := RlL.mono hM0 cs (hl.2 ti ht hs)
          exact ⟨g, cur, ev, hg, ⟨h0.lift, fun _ _ _ => h0⟩, ho1⟩
  · intro j t n cs sh v h1 h2
    obtain ⟨i, o, hj, ho, hv, e3⟩ := back j _ v h1 h2
    have e4 : o = .row t n cs sh := by
      cases o with
      | gone => simp [renOb] at e3
      | row => simp [renOb] at e3; simp [e3]
      | nrow h0 => cases h0 <;> simp [renOb] at e3
      | box t0 cs0 sh0 =>
        simp only [renOb] at e3
        split at e3
        · cases hs : hasSl _ <;> rw [hs] at e3 <;> cases e3
        · cases e3
    subst e4
    obtain ⟨ti, vs, ht, hp, hown, hl, ho1⟩ := hH.st.row i t n cs sh v ho hv
    exact ⟨ti, vs, ht, hp, hown, RlL.mono hM0 cs hl, ho1⟩
  · intro j h0 t n cs v h1 h2
    obtain ⟨i, o, hj, ho, hv, e3⟩ := back j _ v h1 h2
    have e4 : o = .nrow h0 t n cs ∧ h0 = [] := by
      cases o with
      | gone => simp [renOb] at e3
      | row => simp [renOb] at e3
      | nrow h1 => cases h1 with
        | nil => simp [renOb] at e3; simp [e3]
        | cons => simp [renOb] at e3
      | box t0 cs0 sh0 =>
        simp only [renOb] at e3
        split at e3
        · cases hs : hasSl _ <;> rw [hs] at e3 <;> cases e3
        · cases e3
    obtain ⟨rfl, rfl⟩ := e4
    exact (hH.st.nrow i [] t n cs v ho hv).nil
  · intro j j' o1 o2 v1 v2 b h1 h2 g1 g2 h3 h4 h5 h6
    obtain ⟨i, p1, q1, q2, q3, rfl⟩ := back j o1 v1 h1 h3
    obtain ⟨i', p2, q1', q2', q3', rfl⟩ := back j' o2 v2 h2 h4
    have := hH.st.inj i i' p1 p2 v1 v2 b q2 q2' (rgone _ g1) (rgone _ g2) q3 q3' (rfoot h5) (rfoot h6)
    subst this
    exact minj j j' i q1 q1'
  · intro j o' v b h0 h1 hg h2 h3
    obtain ⟨i, o, hj, ho, hv, rfl⟩ := back j o' v h1 h2
    refine hH.st.new i o v b ?_ ho (rgone _ hg) hv (rfoot h3)
    rcases h0 with h0 | h0
    · refine .inl ?_
      rcases Nat.lt_or_ge j obs0.length with hlt' | hge'
      · have := hkeepi j hlt'
        rw [hj] at this; cases this; exact h0
      · exact Nat.le_trans hkeep (hge j i hj hge')
    · exact .inr (rrow _ h0)
  · rw [renObs_length, pick_length, e2, List.length_append, hul]; omega
  · intro id v hv
    have hid : id < obs0.length := by rw [← hlen0]; exact (List.getElem?_eq_some_iff.1 hv).1
    rw [picked_get hltA (hkeepi id hid)]
    exact hH.pre id v hv
  · rintro b hb' ⟨j, o', v, h1, h2, h3, h4⟩
    obtain ⟨i, o, hj, ho, hv, rfl⟩ := back j o' v h1 h2
    exact hH.opens b hb' ⟨i, o, v, ho, hv, ropen o h3, rfoot h4⟩
  · intro t
    rcases look_renEnv m live e t with h1 | h1
    · rw [h1]; simp [Rl]
    · rw [h1]; exact renV_sound hltA hok (hH.env t)
theorem normal_sound (hkeep : n0 ≤ obs0.length) (hlen0 : A0.length = obs0.length) {live : List Nat} {K : Env → Obs → Option α} (hH : Here C N s0 n0 A0 obs0 w0 nt e A obs a w)
    (h : normal C obs0.length live e obs K = some r) : ∃ e' obs' A', K e' obs' = some r ∧ Here C N s0 n0 A0 obs0 w0 nt e' A' obs' a w := by
  obtain ⟨A2, hA2⟩ := unnils_sound (upto obs.length) hH.st hH.n0_le
  exact normal0_sound hkeep hlen0 (hH.step hA2 (hH.env.mono hA2.mono) hH.size hH.defers) h
end
end Go.PI
