/-
  PI: a table of a program, by lists; that it fits, by reckoning.
-/
import Derived.Test.YtodapaplfjfnlaaGreatPIRun
namespace Go.PI
open Go
set_option linter.unusedVariables false
set_option linter.unusedSimpArgs false
def leafOf : Value → Leaf
  | .int k _ => .int k
  | .bool _ => .bool
  | .string _ => .str
  | .slice .. => .sl
  | _ => .oth
def tyOfDesc : TypeDesc → Ty
  | .int k => .int k
  | .bool => .bool
  | .string => .str
  | .slice e => .slice e
  | .struct fs => .struct (fs.toList.map fun f => (f.offset, f.type))
  | .array n e => .arr n e
  | .pointer e => .ptr e
  | _ => .oth
def aggDesc : TypeDesc → Bool
  | .struct _ => true
  | .array _ _ => true
  | _ => false
def notAgg : Value → Bool
  | .agg _ => false
  | _ => true
def fieldsOk (P : Program) : TypeDesc → Bool
  | .struct fs => fs.toList.all fun f => (P.info? f.type).isSome
  | _ => true
def mkTI (P : Program) (t : Nat) : Option TI :=
  match P.info? t with
  | none => none
  | some i => match i.zero with
    | none => none
    | some z => match P.underlying t with
      | none => none
      | some d => bif z.cells.toList.all Value.oneCell' && Nat.beq z.cells.toList.length i.size && (aggDesc d || notAgg z) && fieldsOk P d then
          some { ty := tyOfDesc d, size := i.size, bytes := i.bytes, agg := aggDesc d, leaves := z.cells.toList.map leafOf, zero := z.cells.toList } else none
theorem mkTI_sound {P : Program} {t : Nat} {ti : TI} (h : mkTI P t = some ti) : TyOk P t ti := by
  unfold mkTI at h
  cases hi : P.info? t with
  | none => rw [hi] at h; cases h
  | some i =>
    rw [hi] at h; dsimp only at h
    cases hz : i.zero with
    | none => rw [hz] at h; cases h
    | some z =>
      rw [hz] at h; dsimp only at h
      cases hd : P.underlying t with
      | none => rw [hd] at h; cases h
      | some d =>
        rw [hd] at h; dsimp only at h
        cases hb : z.cells.toList.all Value.oneCell' && Nat.beq z.cells.toList.length i.size && (aggDesc d || notAgg z) && fieldsOk P d with
        | false => rw [hb] at h; cases h
        | true =>
          rw [hb] at h
          simp only [cond_true, Option.some.injEq] at h
          subst h
          simp only [Bool.and_eq_true] at hb
          obtain ⟨⟨⟨h1, h2⟩, h3⟩, h4⟩ := hb
          have h2 := Nat.eq_of_beq_eq_true h2
          refine ⟨i, z, d, hi, rfl, rfl, hz, rfl, hd, ?_, ?_, ?_, ?_, ?_, h2⟩
          · cases d <;> rfl
          · cases d <;> simp only [tyOfDesc]
            rename_i fs
            exact ⟨fs, rfl, rfl, fun f hf => List.all_eq_true.1 h4 f hf⟩
          · exact fun v hv => List.all_eq_true.1 h1 v hv
          · simpa using h2
          · intro ha
            have ha : aggDesc d = false := ha
            rw [ha, Bool.false_or] at h3
            cases z <;> simp_all [notAgg, Value.cells]
def tyFind : List (Nat × TI) → Nat → Option TI
  | [], _ => none
  | (s, ti) :: r, t => bif Nat.beq s t then some ti else tyFind r t
def fnFind : List (Nat × Func) → Nat → Option Func
  | [], _ => none
  | (s, f) :: r, t => bif Nat.beq s t then some f else fnFind r t
def liveFind : List (Nat × Nat × List Nat) → Nat → Nat → List Nat
  | [], _, _ => []
  | (f, id, l) :: r, g, j => bif Nat.beq f g && Nat.beq id j then l else liveFind r g j
def planFind : List (Nat × Nat × List Nat × List Nat × List Nat × Plan) → Nat → Nat → List Nat × List Nat × List Nat × Plan
  | [], _, _ => ([], [], [], .nil)
  | (f, id, p) :: r, g, j => bif Nat.beq f g && Nat.beq id j then p else planFind r g j
def ownFind : List (Nat × List (Option Nat)) → Nat → List (Option Nat)
  | [], _ => []
  | (s, l) :: r, t => bif Nat.beq s t then l else ownFind r t
inductive PrimK where
  | delete (e : Nat)
  | grow (e : Nat)
  | trim
  | insert (e : Nat)
def primDelete (e : Nat) (ty : Nat → Option TI) : Prim := {
  run := fun _ args obs K => match args with
    | [.ref id, .int .i64 i, .int .i64 j] => match obs[id]? with
      | some (.row t n cs false) => need (ty t) fun te => must (decide (0 ≤ i) && decide (i ≤ j) && decide (j ≤ n) && Nat.beq t e)
          (K (.ref obs.length) (setOb obs id .gone ++ [.row t (n - (j.toNat - i.toNat)) (cs.take (i.toNat * te.size) ++ cs.drop (j.toNat * te.size)) false]))
      | _ => none
    | _ => none }
def primGrow (e : Nat) (ty : Nat → Option TI) : Prim := {
  run := fun _ args obs K => match args with
    | [.nilsl, .int .i64 n] => need (ty e) fun te => must (decide (0 ≤ n) && decide (n * te.bytes ≤ 140737488355328) && decide (n ≤ 4611686018427387904)) (K (.ref obs.length) (obs ++ [.row e 0 [] false]))
    | _ => none }
def trimL (l cs : List UInt8) : List UInt8 := ((l.reverse.dropWhile (cs.contains ·)).reverse).dropWhile (cs.contains ·)
def asciiB (l : List UInt8) : Bool := l.all (fun b => decide (b.toNat < 128))
def primTrim : Prim := {
  run := fun _ args obs K => match args with
    | [.str s, .str c] => must (decide (s.size ≤ 9223372036854775807) && (decide (c.size < 4294967281) && asciiB c.data.toList)) (K (.str ⟨(trimL s.data.toList c.data.toList).toArray⟩) obs)
    | _ => none }
def primInsert (e : Nat) (ty : Nat → Option TI) : Prim := {
  run := fun _ args obs K => match args with
    | [.ref id, .int .i64 i, .ref id2] => match obs[id]? with
      | some (.row t n cs false) => match obs[id2]? with
        | some (.row t2 m ys false) => need (ty t) fun te => must (decide (0 ≤ i) && (decide (i ≤ n) && (Nat.beq t e && (Nat.beq t2 e && (!Nat.beq id id2 && (Nat.beq m 1 && Nat.ble ((n + 1) * te.bytes) 1000000000))))))
          (K (.ref obs.length) (setOb obs id .gone ++ [.row t (n + 1) (cs.take i.toNat ++ ys ++ cs.drop i.toNat) false]))
        | _ => none
      | _ => none
    | _ => none }
def primOf (ty : Nat → Option TI) : PrimK → Prim
  | .delete e => primDelete e ty
  | .grow e => primGrow e ty
  | .trim => primTrim
  | .insert e => primInsert e ty
def primFind : List (Nat × PrimK) → Nat → Option PrimK
  | [], _ => none
  | (s, l) :: r, t => bif Nat.beq s t then some l else primFind r t
def numFind : List (Nat × Nat) → Nat → Nat
  | [], _ => 0
  | (s, l) :: r, t => bif Nat.beq s t then l else numFind r t
def listFind : List (Nat × List Nat) → Nat → List Nat
  | [], _ => []
  | (s, l) :: r, t => bif Nat.beq s t then l else listFind r t
structure Tab where
  fns : List (Nat × Func)
  tys : List (Nat × TI)
  inl : List Nat
  wri : List (Nat × Nat)
  els : List (Nat × List Nat)
  own : List (Nat × List (Option Nat))
  live : List (Nat × Nat × List Nat)
  plan : List (Nat × Nat × List Nat × List Nat × List Nat × Plan)
  prims : List (Nat × PrimK)
  nest : List (Nat × List Nat × Bool) := []
def nestFind : List (Nat × List Nat × Bool) → Nat → NM
  | [], _ => ⟨fun _ => false, false⟩
  | (s, l) :: r, t => bif Nat.beq s t then ⟨fun e => memN e l.1, l.2⟩ else nestFind r t
def Tab.cfg (T : Tab) : Cfg :=
  { code := fnFind T.fns, ty := tyFind T.tys, inl := fun f => memN f T.inl, wri := fun f => numFind T.wri f, els := listFind T.els, own := ownFind T.own, live := liveFind T.live, plan := planFind T.plan, prim := fun f => (primFind T.prims f).map (primOf (tyFind T.tys)), nest := nestFind T.nest }
theorem tyFind_some : ∀ {l : List (Nat × TI)} {t : Nat} {ti : TI}, tyFind l t = some ti → (t, ti) ∈ l
  | [], _, _, h => by simp [tyFind] at h
  | (s, x) :: r, t, ti, h => by
    simp only [tyFind] at h
    cases hb : Nat.beq s t with
    | true => rw [hb] at h; simp at h; subst h; rw [Nat.eq_of_beq_eq_true hb]; simp
    | false => rw [hb] at h; exact List.mem_cons_of_mem _ (tyFind_some h)
theorem fnFind_some : ∀ {l : List (Nat × Func)} {t : Nat} {f : Func}, fnFind l t = some f → (t, f) ∈ l
  | [], _, _, h => by simp [fnFind] at h
  | (s, x) :: r, t, ti, h => by
    simp only [fnFind] at h
    cases hb : Nat.beq s t with
    | true => rw [hb] at h; simp at h; subst h; rw [Nat.eq_of_beq_eq_true hb]; simp
    | false => rw [hb] at h; exact List.mem_cons_of_mem _ (fnFind_some h)
theorem primFind_some : ∀ {l : List (Nat × PrimK)} {t : Nat} {k : PrimK}, primFind l t = some k → (t, k) ∈ l
  | [], _, _, h => by simp [primFind] at h
  | (s, x) :: r, t, k, h => by
    simp only [primFind] at h
    cases hb : Nat.beq s t with
    | true => rw [hb] at h; have h := Option.some.inj h; rw [← h, Nat.eq_of_beq_eq_true hb]; simp
    | false => rw [hb] at h; exact List.mem_cons_of_mem _ (primFind_some h)
theorem map_eq_mem {α β : Type} {f g : α → β} : ∀ {l : List α}, l.map f = l.map g → ∀ x ∈ l, f x = g x
  | [], _, x, hx => by simp at hx
  | y :: l, h, x, hx => by
    simp only [List.map_cons, List.cons.injEq] at h
    rcases List.mem_cons.1 hx with rfl | hx
    · exact h.1
    · exact map_eq_mem h.2 x hx
def fnB (C : Cfg) (p : Nat × Func) : Bool := !(p.2.name == "runtime.NumGoroutine") && match p.2.body with
  | some c => codeB C p.1 p.2.ntmps c
  | none => true
theorem Tab.ok {P : Program} (T : Tab) (hm : P.follows .mixedOrders = true) (hf : T.fns.map (fun p => P.funcs[p.1]?) = T.fns.map (fun p => some p.2)) (ht : T.tys.map (fun p => mkTI P p.1) = T.tys.map (fun p => some p.2))
    (hb : T.fns.all (fnB T.cfg) = true) (hp : ∀ p ∈ T.prims, PrimOk P T.cfg p.1 (primOf (tyFind T.tys) p.2)) : CfgOk2 P T.cfg := {
  code := fun f fn h => map_eq_mem hf (f, fn) (fnFind_some h)
  ty := fun t ti h => mkTI_sound (map_eq_mem ht (t, ti) (tyFind_some h))
  mixed := hm
  name := fun f fn h => by
    have := List.all_eq_true.1 hb (f, fn) (fnFind_some h)
    simp only [fnB, Bool.and_eq_true, Bool.not_eq_true'] at this
    exact this.1
  codes := fun f fn c h hc => by
    have := List.all_eq_true.1 hb (f, fn) (fnFind_some h)
    simp only [fnB, Bool.and_eq_true, hc] at this
    exact this.2
  prims := fun f p h => by
    have h : (primFind T.prims f).map (primOf (tyFind T.tys)) = some p := h
    cases hk : primFind T.prims f with
    | none => rw [hk] at h; cases h
    | some k => rw [hk] at h; cases h; exact hp _ (primFind_some hk) }
end Go.PI
