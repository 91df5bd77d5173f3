/-
  PI: what an abstract value stands for in the machine's memory, and what keeps it standing.
-/
import Derived.Test.YtkjjneejmjfhlaaDoorPIDef
import Derived.Laws.AppendOwn
import Derived.Laws.OwnMore
import Derived.Laws.Slices
import Derived.Laws.MakeOwn
import Derived.Below
namespace Go.PI
open Go
set_option linter.unusedVariables false

def blockOf : Value → Option Nat
  | .slice (some a) _ _ => some a.block
  | .pointer (some a) => some a.block
  | _ => none
def Ob.isOpen : Ob → Bool
  | .box _ _ false => true
  | .row _ _ _ false => true
  | _ => false
def Ob.isShut : Ob → Bool
  | .box _ _ true => true
  | .row _ _ _ true => true
  | _ => false
def Ob.isRow : Ob → Bool
  | .row .. => true
  | _ => false
def Ob.isGone : Ob → Bool
  | .gone => true
  | _ => false

/-- The blocks of objects that may be written. -/
def Open (A : List Value) (obs : Obs) (b : Nat) : Prop := ∃ (id : Nat) (o : Ob) (v : Value), obs[id]? = some o ∧ A[id]? = some v ∧ o.isOpen = true ∧ blockOf v = some b
/-- The blocks that a borrowed slice may lie in: none of 'N', and none that an open object has. -/
structure Ok (N : Nat → Prop) (A : List Value) (obs : Obs) (w : World) (b : Nat) : Prop where
  lt : b < w.heap.size
  notN : ¬ N b
  apart : ∀ (id : Nat) (o : Ob) (v : Value), obs[id]? = some o → A[id]? = some v → o.isOpen = true → blockOf v ≠ some b

def LiesAt (ok : Nat → Prop) (w : World) (b o : Nat) (vs : List Value) : Prop :=
  ok b ∧ ∀ i v, vs[i]? = some v → w.cell? ⟨b, o + i, none⟩ = some v ∧ v.oneCell' = true
def Lies (ok : Nat → Prop) (w : World) (n : Nat) (a : Option Addr) (vs : List Value) : Prop :=
  (n = 0 ∧ vs = []) ∨ ∃ b o, a = some ⟨b, o, none⟩ ∧ LiesAt ok w b o vs

mutual
def Rl (A : List Value) (ok : Nat → Prop) (w : World) : V → Value → Prop
  | .u, _ => True
  | .bool b, v => v = .bool b
  | .int k n, v => v = .int k n
  | .str s, v => v = .string s
  | .nilsl, v => v = .slice none 0 0
  | .nilp, v => v = .pointer none
  | .nilf, v => v = .nilFunc
  | .nili, v => v = .nilIface
  | .sl n cs, v => ∃ a c vs, v = .slice a n c ∧ n ≤ c ∧ RlL [] ok w cs vs ∧ Lies ok w n a vs
  | .osl n cs, v => ∃ a c vs, v = .slice a n c ∧ n ≤ c ∧ RlL [] ok w cs vs ∧ Lies ok w n a vs
  | .ref id, v => A[id]? = some v
  | .prj cs off, v => RlAt [] ok w cs off v
  | .ptr id off, v => ∃ g, (A[id]?).bind blockOf = some g ∧ v = .pointer (some ⟨g, off, none⟩)
  | .pin cs off, v => ∃ b o vs, v = .pointer (some ⟨b, o + off, none⟩) ∧ RlL [] ok w cs vs ∧ LiesAt ok w b o vs
  | .fn f caps, v => ∃ cv : Array Value, v = .func (.func f) #[] cv ∧ RlL A ok w caps cv.toList
  | .agg cs, v => ∃ a : Array Value, v = .agg a ∧ RlL A ok w cs a.toList ∧ ∀ x ∈ a.toList, x.oneCell' = true
  | .tup cs, v => ∃ a : Array Value, v = .tuple a ∧ RlL A ok w cs a.toList
def RlL (A : List Value) (ok : Nat → Prop) (w : World) : List V → List Value → Prop
  | [], [] => True
  | x :: xs, v :: vs => Rl A ok w x v ∧ RlL A ok w xs vs
  | _, _ => False
def RlAt (A : List Value) (ok : Nat → Prop) (w : World) : List V → Nat → Value → Prop
  | [], _, _ => False
  | x :: _, 0, v => Rl A ok w x v
  | _ :: r, i + 1, v => RlAt A ok w r i v
end

/-- What turns from one state to the next. -/
structure Mono (ok ok' : Nat → Prop) (A A' : List Value) (w w' : World) : Prop where
  pre : ∀ (id : Nat) (v : Value), A[id]? = some v → A'[id]? = some v
  grow : ∀ b, ok b → ok' b
  blk : ∀ b, ok b → w'.heap[b]? = w.heap[b]?

theorem Mono.refl {ok : Nat → Prop} {A : List Value} {w : World} : Mono ok ok A A w w := ⟨fun _ _ h => h, fun _ h => h, fun _ _ => rfl⟩
theorem Mono.trans {ok ok' ok'' : Nat → Prop} {A A' A'' : List Value} {w w' w'' : World} (h : Mono ok ok' A A' w w') (k : Mono ok' ok'' A' A'' w' w'') : Mono ok ok'' A A'' w w'' :=
  ⟨fun i v hv => k.pre i v (h.pre i v hv), fun b hb => k.grow b (h.grow b hb), fun b hb => (k.blk b (h.grow b hb)).trans (h.blk b hb)⟩

theorem Mono.nil {ok ok' : Nat → Prop} {A A' : List Value} {w w' : World} (h : Mono ok ok' A A' w w') : Mono ok ok' [] [] w w' := ⟨fun _ _ h => h, h.grow, h.blk⟩
theorem LiesAt.mono {ok ok' : Nat → Prop} {A A' : List Value} {w w' : World} (m : Mono ok ok' A A' w w') {b o : Nat} {vs : List Value} (h : LiesAt ok w b o vs) : LiesAt ok' w' b o vs := by
  obtain ⟨hb, hc⟩ := h
  refine ⟨m.grow b hb, fun i v hv => ?_⟩
  obtain ⟨h1, h2⟩ := hc i v hv
  exact ⟨(World.cell?_of_block (w := w) (m.blk b hb)).trans h1, h2⟩
theorem Lies.mono {ok ok' : Nat → Prop} {A A' : List Value} {w w' : World} (m : Mono ok ok' A A' w w') {n : Nat} {a : Option Addr} {vs : List Value} (h : Lies ok w n a vs) : Lies ok' w' n a vs := by
  rcases h with h | ⟨b, o, rfl, h⟩
  · exact .inl h
  · exact .inr ⟨b, o, rfl, h.mono m⟩

mutual
theorem Rl.mono {ok ok' : Nat → Prop} {A A' : List Value} {w w' : World} (m : Mono ok ok' A A' w w') : ∀ (x : V) {v : Value}, Rl A ok w x v → Rl A' ok' w' x v
  | .u, _, _ => by simp [Rl]
  | .bool _, _, h => by simpa [Rl] using h
  | .int _ _, _, h => by simpa [Rl] using h
  | .str _, _, h => by simpa [Rl] using h
  | .nilsl, _, h => by simpa [Rl] using h
  | .nilp, _, h => by simpa [Rl] using h
  | .nilf, _, h => by simpa [Rl] using h
  | .nili, _, h => by simpa [Rl] using h
  | .sl n cs, v, h => by
    simp only [Rl] at h ⊢
    obtain ⟨a, c, vs, e, hn, hl, hm⟩ := h
    exact ⟨a, c, vs, e, hn, RlL.mono m.nil cs hl, hm.mono m⟩
  | .osl n cs, v, h => by
    simp only [Rl] at h ⊢
    obtain ⟨a, c, vs, e, hn, hl, hm⟩ := h
    exact ⟨a, c, vs, e, hn, RlL.mono m.nil cs hl, hm.mono m⟩
  | .ref id, v, h => by simp only [Rl] at h ⊢; exact m.pre _ _ h
  | .prj cs off, v, h => by simp only [Rl] at h ⊢; exact RlAt.mono m.nil cs off h
  | .ptr id off, v, h => by
    simp only [Rl] at h ⊢
    obtain ⟨g, hg, e⟩ := h
    refine ⟨g, ?_, e⟩
    cases ha : A[id]? with
    | none => simp [ha] at hg
    | some y => rw [m.pre _ _ ha]; simpa [ha] using hg
  | .pin cs off, v, h => by
    simp only [Rl] at h ⊢
    obtain ⟨b, o, vs, e, hl, hm⟩ := h
    exact ⟨b, o, vs, e, RlL.mono m.nil cs hl, hm.mono m⟩
  | .fn f caps, v, h => by
    simp only [Rl] at h ⊢
    obtain ⟨cv, e, hl⟩ := h
    exact ⟨cv, e, RlL.mono m caps hl⟩
  | .agg cs, v, h => by
    simp only [Rl] at h ⊢
    obtain ⟨cv, e, hl, ho⟩ := h
    exact ⟨cv, e, RlL.mono m cs hl, ho⟩
  | .tup cs, v, h => by
    simp only [Rl] at h ⊢
    obtain ⟨cv, e, hl⟩ := h
    exact ⟨cv, e, RlL.mono m cs hl⟩
theorem RlL.mono {ok ok' : Nat → Prop} {A A' : List Value} {w w' : World} (m : Mono ok ok' A A' w w') : ∀ (xs : List V) {vs : List Value}, RlL A ok w xs vs → RlL A' ok' w' xs vs
  | [], [], _ => by simp [RlL]
  | [], _ :: _, h => by simp [RlL] at h
  | _ :: _, [], h => by simp [RlL] at h
  | x :: xs, v :: vs, h => by
    simp only [RlL] at h ⊢
    exact ⟨Rl.mono m x h.1, RlL.mono m xs h.2⟩
theorem RlAt.mono {ok ok' : Nat → Prop} {A A' : List Value} {w w' : World} (m : Mono ok ok' A A' w w') : ∀ (xs : List V) (i : Nat) {v : Value}, RlAt A ok w xs i v → RlAt A' ok' w' xs i v
  | [], _, _, h => by simp [RlAt] at h
  | x :: _, 0, v, h => by simp only [RlAt] at h ⊢; exact Rl.mono m x h
  | _ :: r, i + 1, v, h => by simp only [RlAt] at h ⊢; exact RlAt.mono m r i h
end

section
variable {A : List Value} {ok : Nat → Prop} {w : World}
theorem Mono.lift : Mono ok ok [] A w w := ⟨fun _ _ h => by simp at h, fun _ h => h, fun _ _ => rfl⟩
theorem Rl.lift {x : V} {v : Value} (h : Rl [] ok w x v) : Rl A ok w x v := Rl.mono Mono.lift x h
theorem RlL.lift {xs : List V} {vs : List Value} (h : RlL [] ok w xs vs) : RlL A ok w xs vs := RlL.mono Mono.lift xs h
theorem Rl.free {B : List Value} {x : V} {v : Value} (hx : x.idFree = true) (h : Rl A ok w x v) : Rl B ok w x v := by
  cases x <;> simp_all [V.idFree, Rl]
theorem RlL.free {B : List Value} : ∀ {xs : List V} {vs : List Value}, xs.all V.idFree = true → RlL A ok w xs vs → RlL B ok w xs vs
  | [], [], _, _ => by simp [RlL]
  | [], _ :: _, _, h => by simp [RlL] at h
  | _ :: _, [], _, h => by simp [RlL] at h
  | x :: xs, v :: vs, hf, h => by
    simp only [List.all_cons, Bool.and_eq_true] at hf
    simp only [RlL] at h ⊢
    exact ⟨h.1.free hf.1, RlL.free hf.2 h.2⟩
theorem RlL.length : ∀ {xs : List V} {vs : List Value}, RlL A ok w xs vs → xs.length = vs.length
  | [], [], _ => rfl
  | [], _ :: _, h => by simp [RlL] at h
  | _ :: _, [], h => by simp [RlL] at h
  | _ :: xs, _ :: vs, h => by simp only [RlL] at h; simp [RlL.length h.2]
theorem RlL.get : ∀ {xs : List V} {vs : List Value}, RlL A ok w xs vs → ∀ (i : Nat) (x : V), xs[i]? = some x → ∃ v, vs[i]? = some v ∧ Rl A ok w x v
  | [], [], _, i, x, h => by simp at h
  | [], _ :: _, h, _, _, _ => by simp [RlL] at h
  | _ :: _, [], h, _, _, _ => by simp [RlL] at h
  | y :: xs, v :: vs, h, 0, x, hx => by simp only [RlL] at h; simp at hx; subst hx; exact ⟨v, rfl, h.1⟩
  | y :: xs, v :: vs, h, i + 1, x, hx => by simp only [RlL] at h; simpa using RlL.get h.2 i x (by simpa using hx)
theorem RlL.append : ∀ {xs : List V} {vs : List Value} {ys : List V} {us : List Value}, RlL A ok w xs vs → RlL A ok w ys us → RlL A ok w (xs ++ ys) (vs ++ us)
  | [], [], _, _, _, k => k
  | [], _ :: _, _, _, h, _ => by simp [RlL] at h
  | _ :: _, [], _, _, h, _ => by simp [RlL] at h
  | x :: xs, v :: vs, _, _, h, k => by simp only [RlL, List.cons_append] at h ⊢; exact ⟨h.1, RlL.append h.2 k⟩
theorem RlL.take : ∀ (n : Nat) {xs : List V} {vs : List Value}, RlL A ok w xs vs → RlL A ok w (xs.take n) (vs.take n)
  | 0, _, _, _ => by simp [RlL]
  | n + 1, [], [], _ => by simp [RlL]
  | n + 1, [], _ :: _, h => by simp [RlL] at h
  | n + 1, _ :: _, [], h => by simp [RlL] at h
  | n + 1, x :: xs, v :: vs, h => by simp only [RlL, List.take_succ_cons] at h ⊢; exact ⟨h.1, RlL.take n h.2⟩
theorem RlL.drop : ∀ (n : Nat) {xs : List V} {vs : List Value}, RlL A ok w xs vs → RlL A ok w (xs.drop n) (vs.drop n)
  | 0, _, _, h => h
  | n + 1, [], [], _ => by simp [RlL]
  | n + 1, [], _ :: _, h => by simp [RlL] at h
  | n + 1, _ :: _, [], h => by simp [RlL] at h
  | n + 1, x :: xs, v :: vs, h => by simp only [RlL, List.drop_succ_cons] at h ⊢; exact RlL.drop n h.2
theorem RlL.splice {xs ys : List V} {vs us : List Value} (off : Nat) (h : RlL A ok w xs vs) (k : RlL A ok w ys us) : RlL A ok w (splice xs off ys) (vs.take off ++ us ++ vs.drop (off + us.length)) := by
  unfold PI.splice
  rw [k.length]
  exact ((h.take off).append k).append (h.drop _)
theorem RlAt.get : ∀ {xs : List V} {i : Nat} {v : Value}, RlAt A ok w xs i v → ∃ x, xs[i]? = some x ∧ Rl A ok w x v
  | [], _, _, h => by simp [RlAt] at h
  | x :: _, 0, v, h => ⟨x, rfl, by simpa [RlAt] using h⟩
  | _ :: r, i + 1, v, h => by simp only [RlAt] at h; simpa using RlAt.get h
theorem RlAt.of : ∀ {xs : List V} {i : Nat} {x : V} {v : Value}, xs[i]? = some x → Rl A ok w x v → RlAt A ok w xs i v
  | [], _, _, _, h, _ => by simp at h
  | y :: _, 0, x, v, h, k => by simp at h; subst h; simpa [RlAt] using k
  | _ :: r, i + 1, x, v, h, k => by simp only [RlAt]; exact RlAt.of (xs := r) (i := i) (by simpa using h) k
theorem RlL.of_mem {xs : List V} {vs : List Value} (h : RlL A ok w xs vs) {i : Nat} {v : Value} (hv : vs[i]? = some v) : ∃ x, xs[i]? = some x ∧ Rl A ok w x v := by
  have hl := h.length
  have hi : i < xs.length := by rw [hl]; exact (List.getElem?_eq_some_iff.1 hv).1
  obtain ⟨v', h1, h2⟩ := h.get i xs[i] (List.getElem?_eq_getElem hi)
  rw [h1] at hv
  cases hv
  exact ⟨xs[i], List.getElem?_eq_getElem hi, h2⟩
end

/-! ### the state -/
/-- Types as the program has them. -/
structure TyOk (P : Program) (t : Nat) (ti : TI) : Prop where
  info : ∃ i z d, P.info? t = some i ∧ i.size = ti.size ∧ i.bytes = ti.bytes ∧ i.zero = some z ∧ z.cells.toList = ti.zero ∧ P.underlying t = some d ∧
    (ti.agg = (match d with | .struct _ | .array _ _ => true | _ => false)) ∧
    (match ti.ty with
      | .int k => d = .int k
      | .bool => d = .bool
      | .str => d = .string
      | .slice e => d = .slice e
      | .struct fs => ∃ fields : Array Field, d = .struct fields ∧ fs = fields.toList.map (fun f => (f.offset, f.type)) ∧ ∀ f ∈ fields.toList, (P.info? f.type).isSome = true
      | .arr n e => d = .array n e
      | .ptr e => d = .pointer e
      | .oth => True) ∧
    (∀ v ∈ ti.zero, v.oneCell' = true) ∧ ti.leaves.length = ti.size ∧ (ti.agg = false → z.cells = #[z]) ∧ ti.zero.length = ti.size

structure CfgOk (P : Program) (C : Cfg) : Prop where
  code : ∀ f fn, C.code f = some fn → P.funcs[f]? = some fn
  ty : ∀ t ti, C.ty t = some ti → TyOk P t ti
  mixed : P.follows .mixedOrders = true

def Place (v : Value) : Prop := (∃ a n c, v = .slice a n c) ∨ ∃ a, v = .pointer a
theorem Place.of_own {w : World} {t size n : Nat} {v : Value} {vs : List Value} (h : w.ownsRow 0 t size v n vs) : Place v := by
  rcases h.2 with ⟨rfl, _⟩ | ⟨g, cap, cur, rfl, _⟩
  · exact .inl ⟨_, _, _, rfl⟩
  · exact .inl ⟨_, _, _, rfl⟩
/-- The cells of a box: where its type bears no slices, nothing that is told by number. -/
def BoxR (C : Cfg) (A : List Value) (ok : Nat → Prop) (w : World) (t : Nat) (cs : List V) (vs : List Value) : Prop :=
  RlL A ok w cs vs ∧ ∀ ti, C.ty t = some ti → hasSl ti.leaves = false → RlL [] ok w cs vs
theorem BoxR.mono {C : Cfg} {ok ok' : Nat → Prop} {A A' : List Value} {w w' : World} {t : Nat} (m : Mono ok ok' A A' w w') (xs : List V) {vs : List Value} (h : BoxR C A ok w t xs vs) : BoxR C A' ok' w' t xs vs :=
  ⟨RlL.mono m xs h.1, fun ti h1 h2 => RlL.mono m.nil xs (h.2 ti h1 h2)⟩
theorem BoxR.of {C : Cfg} {ok : Nat → Prop} {A : List Value} {w : World} {t : Nat} {xs : List V} {vs : List Value} (hf : flatB C t xs = true) (h : RlL A ok w xs vs) : BoxR C A ok w t xs vs :=
  ⟨h, fun ti h1 h2 => by
    unfold flatB at hf
    rw [h1] at hf
    simp only [h2, Bool.false_or] at hf
    exact h.free hf⟩
theorem BoxR.splice {C : Cfg} {ok : Nat → Prop} {A : List Value} {w : World} {t : Nat} {xs ys : List V} {vs us : List Value} (off : Nat) (h : BoxR C A ok w t xs vs) (k : BoxR C A ok w t ys us) : BoxR C A ok w t (PI.splice xs off ys) (vs.take off ++ us ++ vs.drop (off + us.length)) :=
  ⟨h.1.splice off k.1, fun ti h1 h2 => (h.2 ti h1 h2).splice off (k.2 ti h1 h2)⟩
structure St (C : Cfg) (N : Nat → Prop) (s0 n0 : Nat) (A : List Value) (obs : Obs) (w : World) : Prop where
  len : A.length = obs.length
  base : s0 ≤ w.heap.size
  one : ∀ (id : Nat) (v : Value), A[id]? = some v → Place v
  box : ∀ (id : Nat) (t : Nat) (cs : List V) (sh : Bool) (v : Value), obs[id]? = some (.box t cs sh) → A[id]? = some v →
    ∃ g cur, v = .pointer (some ⟨g, 0, none⟩) ∧ w.heap[g]? = some (.cells cur t (0, 0)) ∧ BoxR C A (Ok N A obs w) w t cs cur.toList ∧ ∀ x ∈ cur.toList, x.oneCell' = true
  row : ∀ (id : Nat) (t n : Nat) (cs : List V) (sh : Bool) (v : Value), obs[id]? = some (.row t n cs sh) → A[id]? = some v →
    ∃ ti vs, C.ty t = some ti ∧ 0 < ti.size ∧ w.ownsRow 0 t ti.size v n vs ∧ RlL [] (Ok N A obs w) w cs vs ∧ ∀ x ∈ vs, x.oneCell' = true
  inj : ∀ (i j : Nat) (o o' : Ob) (v v' : Value) (b : Nat), obs[i]? = some o → obs[j]? = some o' → o.isGone = false → o'.isGone = false → A[i]? = some v → A[j]? = some v' → blockOf v = some b → blockOf v' = some b → i = j
  new : ∀ (id : Nat) (o : Ob) (v : Value) (b : Nat), (n0 ≤ id ∨ o.isRow = true) → obs[id]? = some o → o.isGone = false → A[id]? = some v → blockOf v = some b → s0 ≤ b ∧ ¬ N b

/-- What becomes of a state: nothing that is borrowed turns, and of what lay there only open objects' blocks are written. -/
structure After (C : Cfg) (N : Nat → Prop) (s0 n0 : Nat) (A : List Value) (obs : Obs) (w : World) (A' : List Value) (obs' : Obs) (w' : World) : Prop where
  st : St C N s0 n0 A' obs' w'
  mono : Mono (Ok N A obs w) (Ok N A' obs' w') A A' w w'
  frame : ∀ b, b < w.heap.size → ¬ Open A obs b → w'.heap[b]? = w.heap[b]?
  opens : ∀ b, b < w.heap.size → Open A' obs' b → Open A obs b
  size : w.heap.size ≤ w'.heap.size
  os : w'.os = w.os
  tape : w'.tape = w.tape
  output : w'.output = w.output

section
variable {C : Cfg} {N : Nat → Prop} {s0 n0 : Nat} {A A' A'' : List Value} {obs obs' obs'' : Obs} {w w' w'' : World}
theorem After.refl (h : St C N s0 n0 A obs w) : After C N s0 n0 A obs w A obs w :=
  ⟨h, Mono.refl, fun _ _ _ => rfl, fun _ _ h => h, Nat.le_refl _, rfl, rfl, rfl⟩
theorem After.trans (h : After C N s0 n0 A obs w A' obs' w') (k : After C N s0 n0 A' obs' w' A'' obs'' w'') : After C N s0 n0 A obs w A'' obs'' w'' :=
  ⟨k.st, h.mono.trans k.mono, fun b hb ho => (k.frame b (Nat.lt_of_lt_of_le hb h.size) (fun o => ho (h.opens b hb o))).trans (h.frame b hb ho),
    fun b hb o => h.opens b hb (k.opens b (Nat.lt_of_lt_of_le hb h.size) o), Nat.le_trans h.size k.size, k.os.trans h.os, k.tape.trans h.tape, k.output.trans h.output⟩
/-- The world alone has turned, and no block of it. -/
theorem After.drawn (h : St C N s0 n0 A obs w) (w' : World) (hh : w'.heap = w.heap) (ho : w'.os = w.os) (ht : w'.tape = w.tape) (hu : w'.output = w.output) : After C N s0 n0 A obs w A obs w' := by
  have hok : ∀ b, Ok N A obs w b → Ok N A obs w' b := fun b k => ⟨by rw [hh]; exact k.lt, k.notN, k.apart⟩
  have hm : Mono (Ok N A obs w) (Ok N A obs w') A A w w' := ⟨fun _ _ h => h, hok, fun b _ => by rw [hh]⟩
  refine ⟨⟨h.len, by rw [hh]; exact h.base, h.one, ?_, ?_, h.inj, h.new⟩, hm, fun b _ _ => by rw [hh], fun _ _ h => h, by rw [hh]; exact Nat.le_refl _, ho, ht, hu⟩
  · intro id t cs sh v h1 h2
    obtain ⟨g, cur, e, hg, hl, h1⟩ := h.box id t cs sh v h1 h2
    exact ⟨g, cur, e, by rw [hh]; exact hg, BoxR.mono hm cs hl, h1⟩
  · intro id t n cs sh v h1 h2
    obtain ⟨ti, vs, ht, hp, hown, hl, h1⟩ := h.row id t n cs sh v h1 h2
    refine ⟨ti, vs, ht, hp, ?_, RlL.mono hm.nil cs hl, h1⟩
    obtain ⟨q1, q2⟩ := hown
    refine ⟨q1, ?_⟩
    rcases q2 with q2 | ⟨g, cap, cur, q3, q4, q5, q6⟩
    · exact .inl q2
    · exact .inr ⟨g, cap, cur, q3, q4, by rw [hh]; exact q5, q6⟩

theorem blockOf_own {w : World} {t size n : Nat} {v : Value} {vs : List Value} (h : w.ownsRow 0 t size v n vs) : blockOf v = v.ownBlock := by
  rcases h.2 with ⟨rfl, _⟩ | ⟨g, cap, cur, rfl, _⟩ <;> rfl
theorem St.block_lt (h : St C N s0 n0 A obs w) {id : Nat} {o : Ob} {v : Value} {b : Nat} (ho : obs[id]? = some o) (hg : o.isGone = false) (hv : A[id]? = some v) (hb : blockOf v = some b) : b < w.heap.size := by
  cases o with
  | gone => simp [Ob.isGone] at hg
  | box t cs sh =>
    obtain ⟨g, cur, rfl, hg, _⟩ := h.box id t cs sh v ho hv
    simp [blockOf] at hb; subst hb
    exact (Array.getElem?_eq_some_iff.1 hg).1
  | row t n cs sh =>
    obtain ⟨ti, vs, _, _, hown, _⟩ := h.row id t n cs sh v ho hv
    rw [blockOf_own hown] at hb
    exact (hown.lt b hb).2

/-- A new object in a new block. -/
theorem St.push (h : St C N s0 n0 A obs w) (hn0 : n0 ≤ obs.length) (o : Ob) (v : Value) (w' : World) (hs : w.heap.size ≤ w'.heap.size) (hk : ∀ b, b < w.heap.size → w'.heap[b]? = w.heap[b]?)
    (ho : w'.os = w.os) (ht : w'.tape = w.tape) (hu : w'.output = w.output) (hb : ∀ b, blockOf v = some b → w.heap.size ≤ b ∧ ¬ N b) (hpl : Place v)
    (hbox : ∀ t cs sh, o = .box t cs sh → ∃ g cur, v = .pointer (some ⟨g, 0, none⟩) ∧ w'.heap[g]? = some (.cells cur t (0, 0)) ∧ BoxR C A (Ok N A obs w) w t cs cur.toList ∧ ∀ x ∈ cur.toList, x.oneCell' = true)
    (hrow : ∀ t n cs sh, o = .row t n cs sh → ∃ ti vs, C.ty t = some ti ∧ 0 < ti.size ∧ w'.ownsRow 0 t ti.size v n vs ∧ RlL [] (Ok N A obs w) w cs vs ∧ ∀ x ∈ vs, x.oneCell' = true) :
    After C N s0 n0 A obs w (A ++ [v]) (obs ++ [o]) w' := by
  have pre : ∀ (id : Nat) (x : Value), A[id]? = some x → (A ++ [v])[id]? = some x := fun id x hx => by
    rw [List.getElem?_append_left (List.getElem?_eq_some_iff.1 hx).1]; exact hx
  have split : ∀ (id : Nat) (o' : Ob) (v' : Value), (obs ++ [o])[id]? = some o' → (A ++ [v])[id]? = some v' → (obs[id]? = some o' ∧ A[id]? = some v') ∨ (id = obs.length ∧ o' = o ∧ v' = v) := by
    intro id o' v' h1 h2
    by_cases hid : id < obs.length
    · rw [List.getElem?_append_left hid] at h1
      rw [List.getElem?_append_left (by rw [h.len]; exact hid)] at h2
      exact .inl ⟨h1, h2⟩
    · rw [List.getElem?_append_right (by omega)] at h1
      rw [List.getElem?_append_right (by rw [h.len]; omega)] at h2
      have e : id - obs.length = 0 := by
        have := (List.getElem?_eq_some_iff.1 h1).1
        simp at this; omega
      rw [e] at h1; rw [h.len, e] at h2
      simp at h1 h2
      exact .inr ⟨by omega, h1.symm, h2.symm⟩
  have hok : ∀ b, Ok N A obs w b → Ok N (A ++ [v]) (obs ++ [o]) w' b := fun b k => ⟨Nat.lt_of_lt_of_le k.lt hs, k.notN, fun id o' v' h1 h2 h3 h4 => by
    rcases split id o' v' h1 h2 with ⟨h5, h6⟩ | ⟨_, _, rfl⟩
    · exact k.apart id o' v' h5 h6 h3 h4
    · have := (hb b h4).1; have := k.lt; omega⟩
  have hm : Mono (Ok N A obs w) (Ok N (A ++ [v]) (obs ++ [o]) w') A (A ++ [v]) w w' := ⟨pre, hok, fun b k => hk b k.lt⟩
  have hone : ∀ (id : Nat) (y : Value), (A ++ [v])[id]? = some y → Place y := fun id y hy => by
    by_cases hid : id < A.length
    · rw [List.getElem?_append_left hid] at hy; exact h.one id y hy
    · rw [List.getElem?_append_right (by omega)] at hy
      have e : id - A.length = 0 := by
        have := (List.getElem?_eq_some_iff.1 hy).1
        simp at this; omega
      rw [e] at hy; simp at hy; rw [← hy]; exact hpl
  refine ⟨⟨by simp [h.len], Nat.le_trans h.base hs, hone, ?_, ?_, ?_, ?_⟩, hm, fun b hb _ => hk b hb, ?_, hs, ho, ht, hu⟩
  · intro id t cs sh v' h1 h2
    rcases split id _ v' h1 h2 with ⟨h5, h6⟩ | ⟨_, e, rfl⟩
    · obtain ⟨g, cur, e, hg, hl, h1⟩ := h.box id t cs sh v' h5 h6
      exact ⟨g, cur, e, by rw [hk g (Array.getElem?_eq_some_iff.1 hg).1]; exact hg, BoxR.mono hm cs hl, h1⟩
    · obtain ⟨g, cur, e, hg, hl, h1⟩ := hbox t cs sh e.symm
      exact ⟨g, cur, e, hg, BoxR.mono hm cs hl, h1⟩
  · intro id t n cs sh v' h1 h2
    rcases split id _ v' h1 h2 with ⟨h5, h6⟩ | ⟨_, e, rfl⟩
    · obtain ⟨ti, vs, ht, hp, hown, hl, h1⟩ := h.row id t n cs sh v' h5 h6
      refine ⟨ti, vs, ht, hp, ?_, RlL.mono hm.nil cs hl, h1⟩
      obtain ⟨q1, q2⟩ := hown
      refine ⟨q1, ?_⟩
      rcases q2 with q2 | ⟨g, cap, cur, q3, q4, q5, q6⟩
      · exact .inl q2
      · exact .inr ⟨g, cap, cur, q3, q4, by rw [hk g (Array.getElem?_eq_some_iff.1 q5).1]; exact q5, q6⟩
    · obtain ⟨ti, vs, ht, hp, hown, hl, h1⟩ := hrow t n cs sh e.symm
      exact ⟨ti, vs, ht, hp, hown, RlL.mono hm.nil cs hl, h1⟩
  · intro i j o1 o2 v1 v2 b h1 h2 g1 g2 h3 h4 h5 h6
    rcases split i _ _ h1 h3 with ⟨a1, a2⟩ | ⟨a1, a2, rfl⟩
    · rcases split j _ _ h2 h4 with ⟨b1, b2⟩ | ⟨b1, b2, rfl⟩
      · exact h.inj i j o1 o2 v1 v2 b a1 b1 g1 g2 a2 b2 h5 h6
      · have := h.block_lt a1 g1 a2 h5; have := (hb b h6).1; omega
    · rcases split j _ _ h2 h4 with ⟨b1, b2⟩ | ⟨b1, b2, rfl⟩
      · have := h.block_lt b1 g2 b2 h6; have := (hb b h5).1; omega
      · omega
  · intro id o' v' b h0 h1 g h2 h3
    rcases split id _ _ h1 h2 with ⟨a1, a2⟩ | ⟨a1, a2, rfl⟩
    · exact h.new id o' v' b h0 a1 g a2 h3
    · have q := hb b h3; have := h.base; exact ⟨by omega, q.2⟩
  · rintro b hb' ⟨id, o', v', h1, h2, h3, h4⟩
    rcases split id _ _ h1 h2 with ⟨a1, a2⟩ | ⟨a1, a2, rfl⟩
    · exact ⟨id, o', v', a1, a2, h3, h4⟩
    · have := (hb b h4).1; omega

theorem setOb_get : ∀ (obs : Obs) (id : Nat) (o : Ob) (j : Nat), (setOb obs id o)[j]? = if j = id then (obs[j]?).map (fun _ => o) else obs[j]?
  | [], id, o, j => by simp [setOb]
  | x :: r, 0, o, 0 => by simp [setOb]
  | x :: r, 0, o, j + 1 => by simp [setOb]
  | x :: r, i + 1, o, 0 => by simp [setOb]
  | x :: r, i + 1, o, j + 1 => by simp [setOb, setOb_get r i o j]
theorem setOb_length : ∀ (obs : Obs) (id : Nat) (o : Ob), (setOb obs id o).length = obs.length
  | [], _, _ => rfl
  | _ :: _, 0, _ => rfl
  | _ :: r, i + 1, o => by simp [setOb, setOb_length r i o]

theorem ownsRow_keep {w w' : World} {t size n : Nat} {v : Value} {vs : List Value} (h : w.ownsRow 0 t size v n vs) (hk : ∀ b, blockOf v = some b → w'.heap[b]? = w.heap[b]?) : w'.ownsRow 0 t size v n vs := by
  obtain ⟨q1, q2⟩ := h
  refine ⟨q1, ?_⟩
  rcases q2 with q2 | ⟨g, cap, cur, rfl, q4, q5, q6⟩
  · exact .inl q2
  · exact .inr ⟨g, cap, cur, rfl, q4, by rw [hk g rfl]; exact q5, q6⟩

/-- An open object is written, in its own block. -/
theorem St.write (h : St C N s0 n0 A obs w) {id : Nat} {o o' : Ob} {v : Value} {g : Nat} (ho : obs[id]? = some o) (hop : o.isOpen = true) (hv : A[id]? = some v) (hb : blockOf v = some g) (hop' : o'.isOpen = true) (hrw : o'.isRow = o.isRow)
    {w' : World} (hs : w.heap.size ≤ w'.heap.size) (hk : ∀ b, b < w.heap.size → b ≠ g → w'.heap[b]? = w.heap[b]?) (hos : w'.os = w.os) (ht : w'.tape = w.tape) (hu : w'.output = w.output)
    (hbox : ∀ t cs sh, o' = .box t cs sh → ∃ g cur, v = .pointer (some ⟨g, 0, none⟩) ∧ w'.heap[g]? = some (.cells cur t (0, 0)) ∧ BoxR C A (Ok N A obs w) w t cs cur.toList ∧ ∀ x ∈ cur.toList, x.oneCell' = true)
    (hrow : ∀ t n cs sh, o' = .row t n cs sh → ∃ ti vs, C.ty t = some ti ∧ 0 < ti.size ∧ w'.ownsRow 0 t ti.size v n vs ∧ RlL [] (Ok N A obs w) w cs vs ∧ ∀ x ∈ vs, x.oneCell' = true) :
    After C N s0 n0 A obs w A (setOb obs id o') w' := by
  have hgone : o.isGone = false := by cases o <;> simp_all [Ob.isOpen, Ob.isGone]
  have hgone' : o'.isGone = false := by cases o' <;> simp_all [Ob.isOpen, Ob.isGone]
  have split : ∀ (j : Nat) (x : Ob), (setOb obs id o')[j]? = some x → (j ≠ id ∧ obs[j]? = some x) ∨ (j = id ∧ x = o') := by
    intro j x hx
    rw [setOb_get] at hx
    by_cases e : j = id
    · rw [if_pos e, e, ho] at hx; simp at hx; exact .inr ⟨e, hx.symm⟩
    · rw [if_neg e] at hx; exact .inl ⟨e, hx⟩
  have hok : ∀ b, Ok N A obs w b → Ok N A (setOb obs id o') w' b := fun b k => ⟨Nat.lt_of_lt_of_le k.lt hs, k.notN, fun j x v' h1 h2 h3 h4 => by
    rcases split j x h1 with ⟨_, h5⟩ | ⟨e, rfl⟩
    · exact k.apart j x v' h5 h2 h3 h4
    · subst e; rw [hv] at h2; cases h2; exact k.apart j o v ho hv hop h4⟩
  have hne : ∀ b, Ok N A obs w b → b ≠ g := fun b k e => k.apart id o v ho hv hop (by rw [hb, e])
  have hm : Mono (Ok N A obs w) (Ok N A (setOb obs id o') w') A A w w' := ⟨fun _ _ h => h, hok, fun b k => hk b k.lt (hne b k)⟩
  have other : ∀ (j : Nat) (x : Ob) (v' : Value) (b : Nat), j ≠ id → obs[j]? = some x → x.isGone = false → A[j]? = some v' → blockOf v' = some b → w'.heap[b]? = w.heap[b]? := fun j x v' b hj h1 h2 h3 h4 =>
    hk b (h.block_lt h1 h2 h3 h4) (fun e => hj (h.inj j id x o v' v b h1 ho h2 hgone h3 hv h4 (by rw [hb, e])))
  refine ⟨⟨by rw [setOb_length]; exact h.len, Nat.le_trans h.base hs, h.one, ?_, ?_, ?_, ?_⟩, hm, ?_, ?_, hs, hos, ht, hu⟩
  · intro j t cs sh v' h1 h2
    rcases split j _ h1 with ⟨e, h5⟩ | ⟨e, h5⟩
    · obtain ⟨g', cur, e', hg, hl, h1⟩ := h.box j t cs sh v' h5 h2
      exact ⟨g', cur, e', by rw [other j _ v' g' e h5 rfl h2 (by rw [e']; rfl)]; exact hg, BoxR.mono hm cs hl, h1⟩
    · subst e; rw [hv] at h2; cases h2
      obtain ⟨g', cur, e', hg, hl, h1⟩ := hbox t cs sh h5.symm
      exact ⟨g', cur, e', hg, BoxR.mono hm cs hl, h1⟩
  · intro j t n cs sh v' h1 h2
    rcases split j _ h1 with ⟨e, h5⟩ | ⟨e, h5⟩
    · obtain ⟨ti, vs, ht, hp, hown, hl, h1⟩ := h.row j t n cs sh v' h5 h2
      exact ⟨ti, vs, ht, hp, ownsRow_keep hown (fun b hb' => other j _ v' b e h5 rfl h2 hb'), RlL.mono hm.nil cs hl, h1⟩
    · subst e; rw [hv] at h2; cases h2
      obtain ⟨ti, vs, ht, hp, hown, hl, h1⟩ := hrow t n cs sh h5.symm
      exact ⟨ti, vs, ht, hp, hown, RlL.mono hm.nil cs hl, h1⟩
  · intro i j o1 o2 v1 v2 b h1 h2 g1 g2 h3 h4 h5 h6
    have fix : ∀ (j : Nat) (x : Ob), (setOb obs id o')[j]? = some x → x.isGone = false → ∃ y, obs[j]? = some y ∧ y.isGone = false := fun j x hx hy => by
      rcases split j x hx with ⟨_, h7⟩ | ⟨e, rfl⟩
      · exact ⟨x, h7, hy⟩
      · exact ⟨o, by rw [e]; exact ho, hgone⟩
    obtain ⟨y1, k1, k2⟩ := fix i o1 h1 g1
    obtain ⟨y2, k3, k4⟩ := fix j o2 h2 g2
    exact h.inj i j y1 y2 v1 v2 b k1 k3 k2 k4 h3 h4 h5 h6
  · intro j x v' b h0 h1 hg h2 h3
    rcases split j x h1 with ⟨_, h7⟩ | ⟨e, rfl⟩
    · exact h.new j x v' b h0 h7 hg h2 h3
    · subst e; exact h.new j o v' b (by rw [← hrw]; exact h0) ho hgone h2 h3
  · intro b hb' hno
    exact hk b hb' (fun e => hno ⟨id, o, v, ho, hv, hop, by rw [hb, e]⟩)
  · rintro b hb' ⟨j, x, v', h1, h2, h3, h4⟩
    rcases split j x h1 with ⟨_, h7⟩ | ⟨e, rfl⟩
    · exact ⟨j, x, v', h7, h2, h3, h4⟩
    · subst e; exact ⟨j, o, v', ho, h2, hop, h4⟩

/-- An object is shut, or gone. -/
theorem St.close (h : St C N s0 n0 A obs w) {id : Nat} {o o' : Ob} (ho : obs[id]? = some o) (hc : o' = .gone ∧ o.isShut = false ∨ o' = shutOb o) : After C N s0 n0 A obs w A (setOb obs id o') w := by
  have split : ∀ (j : Nat) (x : Ob), (setOb obs id o')[j]? = some x → (j ≠ id ∧ obs[j]? = some x) ∨ (j = id ∧ x = o') := by
    intro j x hx
    rw [setOb_get] at hx
    by_cases e : j = id
    · rw [if_pos e, e, ho] at hx; simp at hx; exact .inr ⟨e, hx.symm⟩
    · rw [if_neg e] at hx; exact .inl ⟨e, hx⟩
  have hop' : o'.isOpen = false := by rcases hc with ⟨rfl, _⟩ | rfl; · rfl
                                      · cases o <;> rfl
  have hgo : o'.isGone = false → o' = shutOb o ∧ o.isGone = false := by
    rcases hc with ⟨rfl, h⟩ | rfl
    · intro h; simp [Ob.isGone] at h
    · intro h; exact ⟨rfl, by cases o <;> simp_all [shutOb, Ob.isGone]⟩
  have hok : ∀ b, Ok N A obs w b → Ok N A (setOb obs id o') w b := fun b k => ⟨k.lt, k.notN, fun j x v' h1 h2 h3 h4 => by
    rcases split j x h1 with ⟨_, h5⟩ | ⟨e, rfl⟩
    · exact k.apart j x v' h5 h2 h3 h4
    · rw [hop'] at h3; cases h3⟩
  have hm : Mono (Ok N A obs w) (Ok N A (setOb obs id o') w) A A w w := ⟨fun _ _ h => h, hok, fun b k => rfl⟩
  refine ⟨⟨by rw [setOb_length]; exact h.len, h.base, h.one, ?_, ?_, ?_, ?_⟩, hm, fun _ _ _ => rfl, ?_, Nat.le_refl _, rfl, rfl, rfl⟩
  · intro j t cs sh v' h1 h2
    rcases split j _ h1 with ⟨e, h5⟩ | ⟨e, h5⟩
    · obtain ⟨g', cur, e', hg, hl, h1⟩ := h.box j t cs sh v' h5 h2
      exact ⟨g', cur, e', hg, BoxR.mono hm cs hl, h1⟩
    · obtain ⟨e1, _⟩ := hgo (by rw [← h5]; rfl)
      rw [e1] at h5
      cases o with
      | gone => simp [shutOb] at h5
      | row => simp [shutOb] at h5
      | box t0 cs0 sh0 =>
        simp [shutOb] at h5
        obtain ⟨rfl, rfl, rfl⟩ := h5
        obtain ⟨g', cur, e', hg, hl, h1⟩ := h.box j t cs sh0 v' (by rw [e]; exact ho) h2
        exact ⟨g', cur, e', hg, BoxR.mono hm cs hl, h1⟩
  · intro j t n cs sh v' h1 h2
    rcases split j _ h1 with ⟨e, h5⟩ | ⟨e, h5⟩
    · obtain ⟨ti, vs, ht, hp, hown, hl, h1⟩ := h.row j t n cs sh v' h5 h2
      exact ⟨ti, vs, ht, hp, hown, RlL.mono hm.nil cs hl, h1⟩
    · obtain ⟨e1, _⟩ := hgo (by rw [← h5]; rfl)
      rw [e1] at h5
      cases o with
      | gone => simp [shutOb] at h5
      | box => simp [shutOb] at h5
      | row t0 n0 cs0 sh0 =>
        simp [shutOb] at h5
        obtain ⟨rfl, rfl, rfl, rfl⟩ := h5
        obtain ⟨ti, vs, ht, hp, hown, hl, h1⟩ := h.row j t n cs sh0 v' (by rw [e]; exact ho) h2
        exact ⟨ti, vs, ht, hp, hown, RlL.mono hm.nil cs hl, h1⟩
  · intro i j o1 o2 v1 v2 b h1 h2 g1 g2 h3 h4 h5 h6
    have fix : ∀ (j : Nat) (x : Ob), (setOb obs id o')[j]? = some x → x.isGone = false → ∃ y, obs[j]? = some y ∧ y.isGone = false := fun j x hx hy => by
      rcases split j x hx with ⟨_, h7⟩ | ⟨e, rfl⟩
      · exact ⟨x, h7, hy⟩
      · exact ⟨o, by rw [e]; exact ho, (hgo hy).2⟩
    obtain ⟨y1, k1, k2⟩ := fix i o1 h1 g1
    obtain ⟨y2, k3, k4⟩ := fix j o2 h2 g2
    exact h.inj i j y1 y2 v1 v2 b k1 k3 k2 k4 h3 h4 h5 h6
  · intro j x v' b h0 h1 hg h2 h3
    rcases split j x h1 with ⟨_, h7⟩ | ⟨e, rfl⟩
    · exact h.new j x v' b h0 h7 hg h2 h3
    · subst e
      obtain ⟨e1, e2⟩ := hgo hg
      refine h.new j o v' b ?_ ho e2 h2 h3
      rcases h0 with h0 | h0
      · exact .inl h0
      · refine .inr ?_
        rw [e1] at h0
        cases o <;> simp_all [shutOb, Ob.isRow]
  · rintro b hb' ⟨j, x, v', h1, h2, h3, h4⟩
    rcases split j x h1 with ⟨_, h7⟩ | ⟨e, rfl⟩
    · exact ⟨j, x, v', h7, h2, h3, h4⟩
    · rw [hop'] at h3; cases h3
theorem St.shutAt (h : St C N s0 n0 A obs w) (id : Nat) : After C N s0 n0 A obs w A (shutAt obs id) w := by
  unfold PI.shutAt
  cases e : obs[id]? with
  | none => exact After.refl h
  | some o => exact h.close e (.inr rfl)

/-- An open row is used up, and a new one takes its place: in the same block, or in a new one. -/
theorem St.grow (h : St C N s0 n0 A obs w) (hn0 : n0 ≤ obs.length) {id t n : Nat} {cs : List V} {v : Value} (ho : obs[id]? = some (.row t n cs false)) (hv : A[id]? = some v)
    {t' n' : Nat} {cs' : List V} {v' : Value} {w' : World} (hs : w.heap.size ≤ w'.heap.size) (hk : ∀ b, b < w.heap.size → blockOf v ≠ some b → w'.heap[b]? = w.heap[b]?) (hos : w'.os = w.os) (ht : w'.tape = w.tape) (hu : w'.output = w.output)
    (hb : ∀ b, blockOf v' = some b → blockOf v = some b ∨ w.heap.size ≤ b ∧ ¬ N b)
    (hrow : ∃ ti vs, C.ty t' = some ti ∧ 0 < ti.size ∧ w'.ownsRow 0 t' ti.size v' n' vs ∧ RlL [] (Ok N A obs w) w cs' vs ∧ ∀ x ∈ vs, x.oneCell' = true) :
    After C N s0 n0 A obs w (A ++ [v']) (setOb obs id .gone ++ [.row t' n' cs' false]) w' := by
  have hlen : (setOb obs id Ob.gone).length = obs.length := setOb_length _ _ _
  have pre : ∀ (i : Nat) (x : Value), A[i]? = some x → (A ++ [v'])[i]? = some x := fun i x hx => by
    rw [List.getElem?_append_left (List.getElem?_eq_some_iff.1 hx).1]; exact hx
  have split : ∀ (j : Nat) (x : Ob) (y : Value), (setOb obs id Ob.gone ++ [Ob.row t' n' cs' false])[j]? = some x → (A ++ [v'])[j]? = some y →
      (j ≠ id ∧ obs[j]? = some x ∧ A[j]? = some y) ∨ (j = id ∧ x = .gone ∧ y = v) ∨ (j = obs.length ∧ x = .row t' n' cs' false ∧ y = v') := by
    intro j x y h1 h2
    by_cases hj : j < obs.length
    · rw [List.getElem?_append_left (by rw [hlen]; exact hj), setOb_get] at h1
      rw [List.getElem?_append_left (by rw [h.len]; exact hj)] at h2
      by_cases e : j = id
      · rw [if_pos e, e, ho] at h1; simp at h1
        rw [e, hv] at h2; cases h2
        exact .inr (.inl ⟨e, h1.symm, rfl⟩)
      · rw [if_neg e] at h1; exact .inl ⟨e, h1, h2⟩
    · rw [List.getElem?_append_right (by rw [hlen]; omega)] at h1
      rw [List.getElem?_append_right (by rw [h.len]; omega)] at h2
      rw [hlen] at h1; rw [h.len] at h2
      have e : j - obs.length = 0 := by
        have := (List.getElem?_eq_some_iff.1 h1).1
        simp at this; omega
      rw [e] at h1 h2
      simp at h1 h2
      exact .inr (.inr ⟨by omega, h1.symm, h2.symm⟩)
  have hok : ∀ b, Ok N A obs w b → Ok N (A ++ [v']) (setOb obs id Ob.gone ++ [Ob.row t' n' cs' false]) w' b := fun b k => ⟨Nat.lt_of_lt_of_le k.lt hs, k.notN, fun j x y h1 h2 h3 h4 => by
    rcases split j x y h1 h2 with ⟨_, h5, h6⟩ | ⟨e, hx, _⟩ | ⟨_, _, rfl⟩
    · exact k.apart j x y h5 h6 h3 h4
    · subst hx; simp [Ob.isOpen] at h3
    · rcases hb b h4 with h7 | h7
      · exact k.apart id _ v ho hv rfl h7
      · have := k.lt; omega⟩
  have hm : Mono (Ok N A obs w) (Ok N (A ++ [v']) (setOb obs id Ob.gone ++ [Ob.row t' n' cs' false]) w') A (A ++ [v']) w w' :=
    ⟨pre, hok, fun b k => hk b k.lt (fun e => k.apart id _ v ho hv rfl e)⟩
  have other : ∀ (j : Nat) (x : Ob) (y : Value) (b : Nat), j ≠ id → obs[j]? = some x → x.isGone = false → A[j]? = some y → blockOf y = some b → w'.heap[b]? = w.heap[b]? := fun j x y b hj h1 h2 h3 h4 =>
    hk b (h.block_lt h1 h2 h3 h4) (fun e => hj (h.inj j id x _ y v b h1 ho h2 rfl h3 hv h4 e))
  have hpl : Place v' := by obtain ⟨ti, vs, _, _, hown, _⟩ := hrow; exact Place.of_own hown
  have hone : ∀ (id : Nat) (y : Value), (A ++ [v'])[id]? = some y → Place y := fun id y hy => by
    by_cases hid : id < A.length
    · rw [List.getElem?_append_left hid] at hy; exact h.one id y hy
    · rw [List.getElem?_append_right (by omega)] at hy
      have e : id - A.length = 0 := by
        have := (List.getElem?_eq_some_iff.1 hy).1
        simp at this; omega
      rw [e] at hy; simp at hy; rw [← hy]; exact hpl
  refine ⟨⟨by simp [hlen, h.len], Nat.le_trans h.base hs, hone, ?_, ?_, ?_, ?_⟩, hm, fun b hb' hno => hk b hb' (fun e => hno ⟨id, _, v, ho, hv, rfl, e⟩), ?_, hs, hos, ht, hu⟩
  · intro j t1 cs1 sh1 y h1 h2
    rcases split j _ y h1 h2 with ⟨e, h5, h6⟩ | ⟨_, e, _⟩ | ⟨_, e, _⟩
    · obtain ⟨g', cur, e', hg, hl, h1⟩ := h.box j t1 cs1 sh1 y h5 h6
      exact ⟨g', cur, e', by rw [other j _ y g' e h5 rfl h6 (by rw [e']; rfl)]; exact hg, BoxR.mono hm cs1 hl, h1⟩
    · cases e
    · cases e
  · intro j t1 n1 cs1 sh1 y h1 h2
    rcases split j _ y h1 h2 with ⟨e, h5, h6⟩ | ⟨_, e, _⟩ | ⟨_, e, rfl⟩
    · obtain ⟨ti, vs, ht, hp, hown, hl, h1⟩ := h.row j t1 n1 cs1 sh1 y h5 h6
      exact ⟨ti, vs, ht, hp, ownsRow_keep hown (fun b hb' => other j _ y b e h5 rfl h6 hb'), RlL.mono hm.nil cs1 hl, h1⟩
    · cases e
    · cases e
      obtain ⟨ti, vs, ht, hp, hown, hl, h1⟩ := hrow
      exact ⟨ti, vs, ht, hp, hown, RlL.mono hm.nil _ hl, h1⟩
  · intro i j o1 o2 v1 v2 b h1 h2 g1 g2 h3 h4 h5 h6
    rcases split i _ _ h1 h3 with ⟨a0, a1, a2⟩ | ⟨_, a1, _⟩ | ⟨a1, a2, rfl⟩
    · rcases split j _ _ h2 h4 with ⟨b0, b1, b2⟩ | ⟨_, b1, _⟩ | ⟨b1, b2, rfl⟩
      · exact h.inj i j o1 o2 v1 v2 b a1 b1 g1 g2 a2 b2 h5 h6
      · subst b1; simp [Ob.isGone] at g2
      · rcases hb b h6 with h7 | h7
        · exact absurd (h.inj i id o1 _ v1 v b a1 ho g1 rfl a2 hv h5 h7) a0
        · have := h.block_lt a1 g1 a2 h5; omega
    · subst a1; simp [Ob.isGone] at g1
    · rcases split j _ _ h2 h4 with ⟨b0, b1, b2⟩ | ⟨_, b1, _⟩ | ⟨b1, b2, rfl⟩
      · rcases hb b h5 with h7 | h7
        · exact absurd (h.inj j id o2 _ v2 v b b1 ho g2 rfl b2 hv h6 h7) b0
        · have := h.block_lt b1 g2 b2 h6; omega
      · subst b1; simp [Ob.isGone] at g2
      · omega
  · intro j x y b h0 h1 g h2 h3
    rcases split j _ _ h1 h2 with ⟨a0, a1, a2⟩ | ⟨_, a1, _⟩ | ⟨a1, a2, rfl⟩
    · exact h.new j x y b h0 a1 g a2 h3
    · subst a1; simp [Ob.isGone] at g
    · rcases hb b h3 with h7 | h7
      · exact h.new id _ v b (.inr rfl) ho rfl hv h7
      · have := h.base; exact ⟨by omega, h7.2⟩
  · rintro b hb' ⟨j, x, y, h1, h2, h3, h4⟩
    rcases split j _ _ h1 h2 with ⟨a0, a1, a2⟩ | ⟨_, a1, _⟩ | ⟨a1, a2, rfl⟩
    · exact ⟨j, x, y, a1, a2, h3, h4⟩
    · subst a1; simp [Ob.isOpen] at h3
    · rcases hb b h4 with h7 | h7
      · exact ⟨id, _, v, ho, hv, rfl, h7⟩
      · omega
end

#print axioms Rl.mono
#print axioms St.push
#print axioms St.write
#print axioms St.grow
end Go.PI
