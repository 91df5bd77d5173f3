/-
  PI: what an abstract value stands for in the machine's memory, and what keeps it standing.
-/
import Derived.Test.YtodapaplfjfnlaaGreatPIDef
import Derived.Laws.AppendOwn
import Derived.Laws.OwnMore
import Derived.Laws.Slices
import Derived.Laws.MakeOwn
import Derived.Below
namespace Go.PI
open Go
set_option linter.unusedVariables false
def blockOf : Value → Option Nat
  | .slice (some a) _ _ => some a.block
  | .pointer (some a) => some a.block
  | _ => none
def Ob.isOpen : Ob → Bool
  | .nrow .. => true
  | .box _ _ false => true
  | .row _ _ _ false => true
  | _ => false
def Ob.isShut : Ob → Bool
  | .box _ _ true => true
  | .row _ _ _ true => true
  | _ => false
def Ob.isRow : Ob → Bool
  | .nrow .. => true
  | .row .. => true
  | _ => false
def Ob.isN : Ob → Bool
  | .nrow .. => true
  | _ => false
def Ob.isGone : Ob → Bool
  | .gone => true
  | _ => false
def cellsOf (w : World) (v : Value) (k : Nat) : List Value := match v with
  | .slice (some ⟨g, 0, none⟩) _ _ => match w.heap[g]? with
    | some (.cells cur _ _) => cur.toList.take k
    | _ => []
  | _ => []
mutual
def footC (w : World) : V → Value → Nat → Prop
  | .own _ _ _ _ cs, v, b => blockOf v = some b ∨ footL w cs (cellsOf w v cs.length) b
  | _, _, _ => False
def footL (w : World) : List V → List Value → Nat → Prop
  | x :: xs, v :: vs, b => footC w x v b ∨ footL w xs vs b
  | _, _, _ => False
end
def foot (w : World) (o : Ob) (v : Value) (b : Nat) : Prop := blockOf v = some b ∨ match o with
  | .nrow h _ _ cs => footL w (plug h cs) (cellsOf w v cs.length) b
  | _ => False
theorem cellsOf_same {w w' : World} {v : Value} {k : Nat} (h : ∀ b, blockOf v = some b → w'.heap[b]? = w.heap[b]?) : cellsOf w' v k = cellsOf w v k := by
  unfold cellsOf
  split
  · rename_i g _ _
    rw [h g rfl]
  · rfl
mutual
theorem footC_same {w w' : World} : ∀ (x : V) (v : Value), (∀ b, footC w x v b → w'.heap[b]? = w.heap[b]?) → ∀ b, footC w' x v b ↔ footC w x v b
  | .own _ _ _ _ cs, v, h, b => by
    simp only [footC] at h ⊢
    have e := cellsOf_same (w := w) (w' := w') (v := v) (k := cs.length) fun b hb => h b (.inl hb)
    rw [e]
    exact or_congr_right (footL_same cs _ (fun b hb => h b (.inr hb)) b)
  | .u, _, _, _ | .bool _, _, _, _ | .int _ _, _, _, _ | .str _, _, _, _ | .nilsl, _, _, _ | .nilp, _, _, _ | .nilf, _, _, _ | .nili, _, _, _ | .sl _ _, _, _, _ | .osl _ _, _, _, _ | .ref _, _, _, _ | .prj _ _, _, _, _ | .ptr _ _, _, _, _ | .pin _ _, _, _, _ | .fn _ _, _, _, _ | .agg _, _, _, _ | .tup _, _, _, _ => by simp [footC]
theorem footL_same {w w' : World} : ∀ (xs : List V) (vs : List Value), (∀ b, footL w xs vs b → w'.heap[b]? = w.heap[b]?) → ∀ b, footL w' xs vs b ↔ footL w xs vs b
  | x :: xs, v :: vs, h, b => by
    simp only [footL] at h ⊢
    exact or_congr (footC_same x v (fun b hb => h b (.inl hb)) b) (footL_same xs vs (fun b hb => h b (.inr hb)) b)
  | [], _, _, _ => by simp [footL]
  | _ :: _, [], _, _ => by simp [footL]
end
theorem foot_same {w w' : World} {o : Ob} {v : Value} (h : ∀ b, foot w o v b → w'.heap[b]? = w.heap[b]?) (b : Nat) : foot w' o v b ↔ foot w o v b := by
  cases o with
  | nrow h0 t n cs =>
    unfold foot at h ⊢
    dsimp only at h ⊢
    rw [cellsOf_same (w := w) (w' := w') (v := v) (k := cs.length) fun b hb => h b (.inl hb)]
    exact or_congr_right (footL_same (plug h0 cs) _ (fun b hb => h b (.inr hb)) b)
  | gone => exact Iff.rfl
  | box => exact Iff.rfl
  | row => exact Iff.rfl
theorem foot_flat {w : World} {o : Ob} {v : Value} {b : Nat} (ho : o.isN = false) : foot w o v b ↔ blockOf v = some b := by
  unfold foot
  cases o with
  | nrow h0 t n cs => cases ho
  | gone => simp
  | box => simp
  | row => simp
def Open (w : World) (A : List Value) (obs : Obs) (b : Nat) : Prop := ∃ (id : Nat) (o : Ob) (v : Value), obs[id]? = some o ∧ A[id]? = some v ∧ o.isOpen = true ∧ foot w o v b
structure Ok (N : Nat → Prop) (A : List Value) (obs : Obs) (w : World) (b : Nat) : Prop where
  lt : b < w.heap.size
  notN : ¬ N b
  apart : ∀ (id : Nat) (o : Ob) (v : Value), obs[id]? = some o → A[id]? = some v → o.isOpen = true → ¬ foot w o v b
def LiesAt (ok : Nat → Prop) (w : World) (b o : Nat) (vs : List Value) : Prop :=
  ok b ∧ ∀ i v, vs[i]? = some v → w.cell? ⟨b, o + i, none⟩ = some v ∧ v.oneCell' = true
def Lies (ok : Nat → Prop) (w : World) (n : Nat) (a : Option Addr) (vs : List Value) : Prop :=
  (n = 0 ∧ vs = []) ∨ ∃ b o, a = some ⟨b, o, none⟩ ∧ LiesAt ok w b o vs
mutual
def Rl (A : List Value) (ok : Nat → Prop) (w : World) : V → Value → Prop
  | .u, _ => True
  | .bool b, v => v = .bool b
  | .int k n, v => v = .int k n
  | .str s, v => v = .string s
  | .nilsl, v => v = .slice none 0 0
  | .nilp, v => v = .pointer none
  | .nilf, v => v = .nilFunc
  | .nili, v => v = .nilIface
  | .sl n cs, v => ∃ a c vs, v = .slice a n c ∧ n ≤ c ∧ RlL [] ok w cs vs ∧ Lies ok w n a vs
  | .osl n cs, v => ∃ a c vs, v = .slice a n c ∧ n ≤ c ∧ RlL [] ok w cs vs ∧ Lies ok w n a vs
  | .ref id, v => A[id]? = some v
  | .prj cs off, v => RlAt [] ok w cs off v
  | .ptr id off, v => ∃ g, (A[id]?).bind blockOf = some g ∧ v = .pointer (some ⟨g, off, none⟩)
  | .pin cs off, v => ∃ b o vs, v = .pointer (some ⟨b, o + off, none⟩) ∧ RlL [] ok w cs vs ∧ LiesAt ok w b o vs
  | .fn f caps, v => ∃ cv : Array Value, v = .func (.func f) #[] cv ∧ RlL A ok w caps cv.toList
  | .agg cs, v => ∃ a : Array Value, v = .agg a ∧ RlL A ok w cs a.toList ∧ ∀ x ∈ a.toList, x.oneCell' = true
  | .tup cs, v => ∃ a : Array Value, v = .tuple a ∧ RlL A ok w cs a.toList
  | .own .., _ => False
def RlL (A : List Value) (ok : Nat → Prop) (w : World) : List V → List Value → Prop
  | [], [] => True
  | x :: xs, v :: vs => Rl A ok w x v ∧ RlL A ok w xs vs
  | _, _ => False
def RlAt (A : List Value) (ok : Nat → Prop) (w : World) : List V → Nat → Value → Prop
  | [], _, _ => False
  | x :: _, 0, v => Rl A ok w x v
  | _ :: r, i + 1, v => RlAt A ok w r i v
end
def NoB : Nat → Prop := fun _ => False
mutual
def RowC (w : World) : V → Value → Prop
  | .own ne t sz n cs, v => 0 < sz ∧ w.ownsRow 0 t sz v n (cellsOf w v cs.length) ∧ RowL w cs (cellsOf w v cs.length) ∧ (∀ x ∈ cellsOf w v cs.length, x.oneCell' = true) ∧ sepL w cs (cellsOf w v cs.length) ∧ (∀ b, blockOf v = some b → ¬ footL w cs (cellsOf w v cs.length) b) ∧ (ne = false → RlL [] NoB w cs (cellsOf w v cs.length))
  | x, v => Rl [] NoB w x v
def RowL (w : World) : List V → List Value → Prop
  | [], [] => True
  | x :: xs, v :: vs => RowC w x v ∧ RowL w xs vs
  | _, _ => False
def sepL (w : World) : List V → List Value → Prop
  | x :: xs, v :: vs => (∀ b, footC w x v b → ¬ footL w xs vs b) ∧ sepL w xs vs
  | _, _ => True
end
structure Mono (ok ok' : Nat → Prop) (A A' : List Value) (w w' : World) : Prop where
  pre : ∀ (id : Nat) (v : Value), A[id]? = some v → A'[id]? = some v
  grow : ∀ b, ok b → ok' b
  blk : ∀ b, ok b → w'.heap[b]? = w.heap[b]?
theorem Mono.refl {ok : Nat → Prop} {A : List Value} {w : World} : Mono ok ok A A w w := ⟨fun _ _ h => h, fun _ h => h, fun _ _ => rfl⟩
theorem Mono.trans {ok ok' ok'' : Nat → Prop} {A A' A'' : List Value} {w w' w'' : World} (h : Mono ok ok' A A' w w') (k : Mono ok' ok'' A' A'' w' w'') : Mono ok ok'' A A'' w w'' :=
  ⟨fun i v hv => k.pre i v (h.pre i v hv), fun b hb => k.grow b (h.grow b hb), fun b hb => (k.blk b (h.grow b hb)).trans (h.blk b hb)⟩
theorem Mono.nil {ok ok' : Nat → Prop} {A A' : List Value} {w w' : World} (h : Mono ok ok' A A' w w') : Mono ok ok' [] [] w w' := ⟨fun _ _ h => h, h.grow, h.blk⟩
theorem LiesAt.mono {ok ok' : Nat → Prop} {A A' : List Value} {w w' : World} (m : Mono ok ok' A A' w w') {b o : Nat} {vs : List Value} (h : LiesAt ok w b o vs) : LiesAt ok' w' b o vs := by
  obtain ⟨hb, hc⟩ := h
  refine ⟨m.grow b hb, fun i v hv => ?_⟩
  obtain ⟨h1, h2⟩ := hc i v hv
  exact ⟨(World.cell?_of_block (w := w) (m.blk b hb)).trans h1, h2⟩
theorem Lies.mono {ok ok' : Nat → Prop} {A A' : List Value} {w w' : World} (m : Mono ok ok' A A' w w') {n : Nat} {a : Option Addr} {vs : List Value} (h : Lies ok w n a vs) : Lies ok' w' n a vs := by
  rcases h with h | ⟨b, o, rfl, h⟩
  · exact .inl h
  · exact .inr ⟨b, o, rfl, h.mono m⟩
mutual
theorem Rl.mono {ok ok' : Nat → Prop} {A A' : List Value} {w w' : World} (m : Mono ok ok' A A' w w') : ∀ (x : V) {v : Value}, Rl A ok w x v → Rl A' ok' w' x v
  | .u, _, _ => by simp [Rl]
  | .bool _, _, h => by simpa [Rl] using h
  | .int _ _, _, h => by simpa [Rl] using h
  | .str _, _, h => by simpa [Rl] using h
  | .nilsl, _, h => by simpa [Rl] using h
  | .nilp, _, h => by simpa [Rl] using h
  | .nilf, _, h => by simpa [Rl] using h
  | .nili, _, h => by simpa [Rl] using h
  | .sl n cs, v, h => by
    simp only [Rl] at h ⊢
    obtain ⟨a, c, vs, e, hn, hl, hm⟩ := h
    exact ⟨a, c, vs, e, hn, RlL.mono m.nil cs hl, hm.mono m⟩
  | .osl n cs, v, h => by
    simp only [Rl] at h ⊢
    obtain ⟨a, c, vs, e, hn, hl, hm⟩ := h
    exact ⟨a, c, vs, e, hn, RlL.mono m.nil cs hl, hm.mono m⟩
  | .ref id, v, h => by simp only [Rl] at h ⊢; exact m.pre _ _ h
  | .prj cs off, v, h => by simp only [Rl] at h ⊢; exact RlAt.mono m.nil cs off h
  | .ptr id off, v, h => by
    simp only [Rl] at h ⊢
    obtain ⟨g, hg, e⟩ := h
    refine ⟨g, ?_, e⟩
    cases ha : A[id]? with
    | none => simp [ha] at hg
    | some y => rw [m.pre _ _ ha]; simpa [ha] using hg
  | .pin cs off, v, h => by
    simp only [Rl] at h ⊢
    obtain ⟨b, o, vs, e, hl, hm⟩ := h
    exact ⟨b, o, vs, e, RlL.mono m.nil cs hl, hm.mono m⟩
  | .fn f caps, v, h => by
    simp only [Rl] at h ⊢
    obtain ⟨cv, e, hl⟩ := h
    exact ⟨cv, e, RlL.mono m caps hl⟩
  | .agg cs, v, h => by
    simp only [Rl] at h ⊢
    obtain ⟨cv, e, hl, ho⟩ := h
    exact ⟨cv, e, RlL.mono m cs hl, ho⟩
  | .tup cs, v, h => by
    simp only [Rl] at h ⊢
    obtain ⟨cv, e, hl⟩ := h
    exact ⟨cv, e, RlL.mono m cs hl⟩
theorem RlL.mono {ok ok' : Nat → Prop} {A A' : List Value} {w w' : World} (m : Mono ok ok' A A' w w') : ∀ (xs : List V) {vs : List Value}, RlL A ok w xs vs → RlL A' ok' w' xs vs
  | [], [], _ => by simp [RlL]
  | [], _ :: _, h => by simp [RlL] at h
  | _ :: _, [], h => by simp [RlL] at h
  | x :: xs, v :: vs, h => by
    simp only [RlL] at h ⊢
    exact ⟨Rl.mono m x h.1, RlL.mono m xs h.2⟩
theorem RlAt.mono {ok ok' : Nat → Prop} {A A' : List Value} {w w' : World} (m : Mono ok ok' A A' w w') : ∀ (xs : List V) (i : Nat) {v : Value}, RlAt A ok w xs i v → RlAt A' ok' w' xs i v
  | [], _, _, h => by simp [RlAt] at h
  | x :: _, 0, v, h => by simp only [RlAt] at h ⊢; exact Rl.mono m x h
  | _ :: r, i + 1, v, h => by simp only [RlAt] at h ⊢; exact RlAt.mono m r i h
end
section
variable {A : List Value} {ok : Nat → Prop} {w : World}
theorem Mono.lift : Mono ok ok [] A w w := ⟨fun _ _ h => by simp at h, fun _ h => h, fun _ _ => rfl⟩
theorem Rl.lift {x : V} {v : Value} (h : Rl [] ok w x v) : Rl A ok w x v := Rl.mono Mono.lift x h
theorem RlL.lift {xs : List V} {vs : List Value} (h : RlL [] ok w xs vs) : RlL A ok w xs vs := RlL.mono Mono.lift xs h
theorem Rl.free {B : List Value} {x : V} {v : Value} (hx : x.idFree = true) (h : Rl A ok w x v) : Rl B ok w x v := by
  cases x <;> simp_all [V.idFree, Rl]
theorem RlL.free {B : List Value} : ∀ {xs : List V} {vs : List Value}, xs.all V.idFree = true → RlL A ok w xs vs → RlL B ok w xs vs
  | [], [], _, _ => by simp [RlL]
  | [], _ :: _, _, h => by simp [RlL] at h
  | _ :: _, [], _, h => by simp [RlL] at h
  | x :: xs, v :: vs, hf, h => by
    simp only [List.all_cons, Bool.and_eq_true] at hf
    simp only [RlL] at h ⊢
    exact ⟨h.1.free hf.1, RlL.free hf.2 h.2⟩
theorem RlL.length : ∀ {xs : List V} {vs : List Value}, RlL A ok w xs vs → xs.length = vs.length
  | [], [], _ => rfl
  | [], _ :: _, h => by simp [RlL] at h
  | _ :: _, [], h => by simp [RlL] at h
  | _ :: xs, _ :: vs, h => by simp only [RlL] at h; simp [RlL.length h.2]
theorem RlL.get : ∀ {xs : List V} {vs : List Value}, RlL A ok w xs vs → ∀ (i : Nat) (x : V), xs[i]? = some x → ∃ v, vs[i]? = some v ∧ Rl A ok w x v
  | [], [], _, i, x, h => by simp at h
  | [], _ :: _, h, _, _, _ => by simp [RlL] at h
  | _ :: _, [], h, _, _, _ => by simp [RlL] at h
  | y :: xs, v :: vs, h, 0, x, hx => by simp only [RlL] at h; simp at hx; subst hx; exact ⟨v, rfl, h.1⟩
  | y :: xs, v :: vs, h, i + 1, x, hx => by simp only [RlL] at h; simpa using RlL.get h.2 i x (by simpa using hx)
theorem RlL.append : ∀ {xs : List V} {vs : List Value} {ys : List V} {us : List Value}, RlL A ok w xs vs → RlL A ok w ys us → RlL A ok w (xs ++ ys) (vs ++ us)
  | [], [], _, _, _, k => k
  | [], _ :: _, _, _, h, _ => by simp [RlL] at h
  | _ :: _, [], _, _, h, _ => by simp [RlL] at h
  | x :: xs, v :: vs, _, _, h, k => by simp only [RlL, List.cons_append] at h ⊢; exact ⟨h.1, RlL.append h.2 k⟩
theorem RlL.take : ∀ (n : Nat) {xs : List V} {vs : List Value}, RlL A ok w xs vs → RlL A ok w (xs.take n) (vs.take n)
  | 0, _, _, _ => by simp [RlL]
  | n + 1, [], [], _ => by simp [RlL]
  | n + 1, [], _ :: _, h => by simp [RlL] at h
  | n + 1, _ :: _, [], h => by simp [RlL] at h
  | n + 1, x :: xs, v :: vs, h => by simp only [RlL, List.take_succ_cons] at h ⊢; exact ⟨h.1, RlL.take n h.2⟩
theorem RlL.drop : ∀ (n : Nat) {xs : List V} {vs : List Value}, RlL A ok w xs vs → RlL A ok w (xs.drop n) (vs.drop n)
  | 0, _, _, h => h
  | n + 1, [], [], _ => by simp [RlL]
  | n + 1, [], _ :: _, h => by simp [RlL] at h
  | n + 1, _ :: _, [], h => by simp [RlL] at h
  | n + 1, x :: xs, v :: vs, h => by simp only [RlL, List.drop_succ_cons] at h ⊢; exact RlL.drop n h.2
theorem RlL.splice {xs ys : List V} {vs us : List Value} (off : Nat) (h : RlL A ok w xs vs) (k : RlL A ok w ys us) : RlL A ok w (splice xs off ys) (vs.take off ++ us ++ vs.drop (off + us.length)) := by
  unfold PI.splice
  rw [k.length]
  exact ((h.take off).append k).append (h.drop _)
theorem RlAt.get : ∀ {xs : List V} {i : Nat} {v : Value}, RlAt A ok w xs i v → ∃ x, xs[i]? = some x ∧ Rl A ok w x v
  | [], _, _, h => by simp [RlAt] at h
  | x :: _, 0, v, h => ⟨x, rfl, by simpa [RlAt] using h⟩
  | _ :: r, i + 1, v, h => by simp only [RlAt] at h; simpa using RlAt.get h
theorem RlAt.of : ∀ {xs : List V} {i : Nat} {x : V} {v : Value}, xs[i]? = some x → Rl A ok w x v → RlAt A ok w xs i v
  | [], _, _, _, h, _ => by simp at h
  | y :: _, 0, x, v, h, k => by simp at h; subst h; simpa [RlAt] using k
  | _ :: r, i + 1, x, v, h, k => by simp only [RlAt]; exact RlAt.of (xs := r) (i := i) (by simpa using h) k
end
structure TyOk (P : Program) (t : Nat) (ti : TI) : Prop where
  info : ∃ i z d, P.info? t = some i ∧ i.size = ti.size ∧ i.bytes = ti.bytes ∧ i.zero = some z ∧ z.cells.toList = ti.zero ∧ P.underlying t = some d ∧
    (ti.agg = (match d with | .struct _ | .array _ _ => true | _ => false)) ∧
    (match ti.ty with
      | .int k => d = .int k
      | .bool => d = .bool
      | .str => d = .string
      | .slice e => d = .slice e
      | .struct fs => ∃ fields : Array Field, d = .struct fields ∧ fs = fields.toList.map (fun f => (f.offset, f.type)) ∧ ∀ f ∈ fields.toList, (P.info? f.type).isSome = true
      | .arr n e => d = .array n e
      | .ptr e => d = .pointer e
      | .oth => True) ∧
    (∀ v ∈ ti.zero, v.oneCell' = true) ∧ ti.leaves.length = ti.size ∧ (ti.agg = false → z.cells = #[z]) ∧ ti.zero.length = ti.size
structure CfgOk (P : Program) (C : Cfg) : Prop where
  code : ∀ f fn, C.code f = some fn → P.funcs[f]? = some fn
  ty : ∀ t ti, C.ty t = some ti → TyOk P t ti
  mixed : P.follows .mixedOrders = true
def Place (v : Value) : Prop := (∃ a n c, v = .slice a n c) ∨ ∃ a, v = .pointer a
theorem Place.of_own {w : World} {t size n : Nat} {v : Value} {vs : List Value} (h : w.ownsRow 0 t size v n vs) : Place v := by
  rcases h.2 with ⟨rfl, _⟩ | ⟨g, cap, cur, rfl, _⟩
  · exact .inl ⟨_, _, _, rfl⟩
  · exact .inl ⟨_, _, _, rfl⟩
def BoxR (C : Cfg) (A : List Value) (ok : Nat → Prop) (w : World) (t : Nat) (cs : List V) (vs : List Value) : Prop :=
  RlL A ok w cs vs ∧ ∀ ti, C.ty t = some ti → hasSl ti.leaves = false → RlL [] ok w cs vs
theorem BoxR.mono {C : Cfg} {ok ok' : Nat → Prop} {A A' : List Value} {w w' : World} {t : Nat} (m : Mono ok ok' A A' w w') (xs : List V) {vs : List Value} (h : BoxR C A ok w t xs vs) : BoxR C A' ok' w' t xs vs :=
  ⟨RlL.mono m xs h.1, fun ti h1 h2 => RlL.mono m.nil xs (h.2 ti h1 h2)⟩
theorem BoxR.of {C : Cfg} {ok : Nat → Prop} {A : List Value} {w : World} {t : Nat} {xs : List V} {vs : List Value} (hf : flatB C t xs = true) (h : RlL A ok w xs vs) : BoxR C A ok w t xs vs :=
  ⟨h, fun ti h1 h2 => by
    unfold flatB at hf
    rw [h1] at hf
    simp only [h2, Bool.false_or] at hf
    exact h.free hf⟩
theorem BoxR.splice {C : Cfg} {ok : Nat → Prop} {A : List Value} {w : World} {t : Nat} {xs ys : List V} {vs us : List Value} (off : Nat) (h : BoxR C A ok w t xs vs) (k : BoxR C A ok w t ys us) : BoxR C A ok w t (PI.splice xs off ys) (vs.take off ++ us ++ vs.drop (off + us.length)) :=
  ⟨h.1.splice off k.1, fun ti h1 h2 => (h.2 ti h1 h2).splice off (k.2 ti h1 h2)⟩
def NRow (C : Cfg) (A : List Value) (w : World) (h : List (Nat × Nat)) (t n : Nat) (cs : List V) (v : Value) : Prop :=
  ∃ ti, C.ty t = some ti ∧ 0 < ti.size ∧ w.ownsRow 0 t ti.size v n (cellsOf w v cs.length) ∧ RowL w (plug h cs) (cellsOf w v cs.length) ∧ (∀ x ∈ cellsOf w v cs.length, x.oneCell' = true) ∧ sepL w (plug h cs) (cellsOf w v cs.length) ∧ (∀ b, blockOf v = some b → ¬ footL w (plug h cs) (cellsOf w v cs.length) b) ∧
  ∀ p ∈ h, ∃ x, (cellsOf w v cs.length)[p.1]? = some x ∧ A[p.2]? = some x
theorem ownsRow_same {w w' : World} {t size n : Nat} {v : Value} {vs : List Value} (h : w.ownsRow 0 t size v n vs) (hk : ∀ b, blockOf v = some b → w'.heap[b]? = w.heap[b]?) : w'.ownsRow 0 t size v n vs := by
  obtain ⟨q1, q2⟩ := h
  refine ⟨q1, ?_⟩
  rcases q2 with q2 | ⟨g, cap, cur, rfl, q4, q5, q6⟩
  · exact .inl q2
  · exact .inr ⟨g, cap, cur, rfl, q4, by rw [hk g rfl]; exact q5, q6⟩
theorem sepL_same {w w' : World} : ∀ (xs : List V) (vs : List Value), (∀ b, footL w xs vs b → w'.heap[b]? = w.heap[b]?) → sepL w xs vs → sepL w' xs vs
  | x :: xs, v :: vs, h, hs => by
    simp only [sepL, footL] at h hs ⊢
    refine ⟨fun b h1 h2 => ?_, sepL_same xs vs (fun b hb => h b (.inr hb)) hs.2⟩
    exact hs.1 b ((footC_same x v (fun b hb => h b (.inl hb)) b).1 h1) ((footL_same xs vs (fun b hb => h b (.inr hb)) b).1 h2)
  | [], _, _, _ => by simp [sepL]
  | _ :: _, [], _, _ => by simp [sepL]
theorem noB_mono (w w' : World) : Mono NoB NoB [] [] w w' := ⟨fun _ _ h => h, fun _ h => h, fun _ h => h.elim⟩
mutual
theorem RowC.same {w w' : World} : ∀ (x : V) (v : Value), (∀ b, footC w x v b → w'.heap[b]? = w.heap[b]?) → RowC w x v → RowC w' x v
  | .own ne t sz n cs, v, h, hr => by
    simp only [footC] at h
    simp only [RowC] at hr ⊢
    obtain ⟨h1, h2, h3, h4, h5, h6, h7⟩ := hr
    have hb := fun b hb => h b (.inl hb)
    have hf := fun b hb => h b (.inr hb)
    rw [cellsOf_same hb]
    exact ⟨h1, ownsRow_same h2 hb, RowL.same cs _ hf h3, h4, sepL_same cs _ hf h5, fun b q1 q2 => h6 b q1 ((footL_same cs _ hf b).1 q2), fun q => RlL.mono (noB_mono w w') cs (h7 q)⟩
  | .u, v, _, h | .bool _, v, _, h | .int _ _, v, _, h | .str _, v, _, h | .nilsl, v, _, h | .nilp, v, _, h | .nilf, v, _, h | .nili, v, _, h | .sl _ _, v, _, h | .osl _ _, v, _, h | .ref _, v, _, h | .prj _ _, v, _, h | .ptr _ _, v, _, h | .pin _ _, v, _, h | .fn _ _, v, _, h | .agg _, v, _, h | .tup _, v, _, h => by
    simp only [RowC] at h ⊢
    exact Rl.mono (noB_mono w w') _ h
theorem RowL.same {w w' : World} : ∀ (xs : List V) (vs : List Value), (∀ b, footL w xs vs b → w'.heap[b]? = w.heap[b]?) → RowL w xs vs → RowL w' xs vs
  | x :: xs, v :: vs, h, hr => by
    simp only [footL] at h
    simp only [RowL] at hr ⊢
    exact ⟨RowC.same x v (fun b hb => h b (.inl hb)) hr.1, RowL.same xs vs (fun b hb => h b (.inr hb)) hr.2⟩
  | [], [], _, _ => by simp [RowL]
  | [], _ :: _, _, h => by simp [RowL] at h
  | _ :: _, [], _, h => by simp [RowL] at h
end
theorem NRow.same {C : Cfg} {A A' : List Value} {w w' : World} (hA : ∀ (i : Nat) (x : Value), A[i]? = some x → A'[i]? = some x) {h : List (Nat × Nat)} {t n : Nat} {cs : List V} {v : Value} (hn : NRow C A w h t n cs v) (hf : ∀ b, foot w (.nrow h t n cs) v b → w'.heap[b]? = w.heap[b]?) : NRow C A' w' h t n cs v := by
  obtain ⟨ti, h1, h2, h3, h4, h5, h6, h7, h8⟩ := hn
  have hb := fun b hb => hf b (.inl hb)
  have hl := fun b hb => hf b (.inr hb)
  refine ⟨ti, h1, h2, ?_⟩
  rw [cellsOf_same hb]
  exact ⟨ownsRow_same h3 hb, RowL.same _ _ hl h4, h5, sepL_same _ _ hl h6, fun b q1 q2 => h7 b q1 ((footL_same _ _ hl b).1 q2), fun p hp => let ⟨x, q1, q2⟩ := h8 p hp; ⟨x, q1, hA _ _ q2⟩⟩
theorem NRow.nil {C : Cfg} {A A' : List Value} {w : World} {t n : Nat} {cs : List V} {v : Value} (hn : NRow C A w [] t n cs v) : NRow C A' w [] t n cs v := by
  obtain ⟨ti, h1, h2, h3, h4, h5, h6, h7, h8⟩ := hn
  exact ⟨ti, h1, h2, h3, h4, h5, h6, h7, by simp⟩
mutual
theorem RowC.foot_lt {w : World} : ∀ (x : V) (v : Value), RowC w x v → ∀ b, footC w x v b → b < w.heap.size
  | .own ne t sz n cs, v, hr, b, hb => by
    simp only [RowC] at hr
    simp only [footC] at hb
    rcases hb with hb | hb
    · rcases hr.2.1.2 with ⟨rfl, _⟩ | ⟨g, cap, cur, rfl, _, q5, _⟩
      · simp [blockOf] at hb
      · have e : g = b := by simpa [blockOf] using hb
        subst e
        exact (Array.getElem?_eq_some_iff.1 q5).1
    · exact RowL.foot_lt cs _ hr.2.2.1 b hb
  | .u, _, _, _, h | .bool _, _, _, _, h | .int _ _, _, _, _, h | .str _, _, _, _, h | .nilsl, _, _, _, h | .nilp, _, _, _, h | .nilf, _, _, _, h | .nili, _, _, _, h | .sl _ _, _, _, _, h | .osl _ _, _, _, _, h | .ref _, _, _, _, h | .prj _ _, _, _, _, h | .ptr _ _, _, _, _, h | .pin _ _, _, _, _, h | .fn _ _, _, _, _, h | .agg _, _, _, _, h | .tup _, _, _, _, h => by simp [footC] at h
theorem RowL.foot_lt {w : World} : ∀ (xs : List V) (vs : List Value), RowL w xs vs → ∀ b, footL w xs vs b → b < w.heap.size
  | x :: xs, v :: vs, hr, b, hb => by
    simp only [RowL] at hr
    simp only [footL] at hb
    rcases hb with hb | hb
    · exact RowC.foot_lt x v hr.1 b hb
    · exact RowL.foot_lt xs vs hr.2 b hb
  | [], _, _, b, hb => by simp [footL] at hb
  | _ :: _, [], _, b, hb => by simp [footL] at hb
end
structure St (C : Cfg) (N : Nat → Prop) (s0 n0 : Nat) (A : List Value) (obs : Obs) (w : World) : Prop where
  len : A.length = obs.length
  base : s0 ≤ w.heap.size
  one : ∀ (id : Nat) (v : Value), A[id]? = some v → Place v
  box : ∀ (id : Nat) (t : Nat) (cs : List V) (sh : Bool) (v : Value), obs[id]? = some (.box t cs sh) → A[id]? = some v →
    ∃ g cur, v = .pointer (some ⟨g, 0, none⟩) ∧ w.heap[g]? = some (.cells cur t (0, 0)) ∧ BoxR C A (Ok N A obs w) w t cs cur.toList ∧ ∀ x ∈ cur.toList, x.oneCell' = true
  row : ∀ (id : Nat) (t n : Nat) (cs : List V) (sh : Bool) (v : Value), obs[id]? = some (.row t n cs sh) → A[id]? = some v →
    ∃ ti vs, C.ty t = some ti ∧ 0 < ti.size ∧ w.ownsRow 0 t ti.size v n vs ∧ RlL [] (Ok N A obs w) w cs vs ∧ ∀ x ∈ vs, x.oneCell' = true
  nrow : ∀ (id : Nat) (h : List (Nat × Nat)) (t n : Nat) (cs : List V) (v : Value), obs[id]? = some (.nrow h t n cs) → A[id]? = some v → NRow C A w h t n cs v
  inj : ∀ (i j : Nat) (o o' : Ob) (v v' : Value) (b : Nat), obs[i]? = some o → obs[j]? = some o' → o.isGone = false → o'.isGone = false → A[i]? = some v → A[j]? = some v' → foot w o v b → foot w o' v' b → i = j
  new : ∀ (id : Nat) (o : Ob) (v : Value) (b : Nat), (n0 ≤ id ∨ o.isRow = true) → obs[id]? = some o → o.isGone = false → A[id]? = some v → foot w o v b → s0 ≤ b ∧ ¬ N b
structure After (C : Cfg) (N : Nat → Prop) (s0 n0 : Nat) (A : List Value) (obs : Obs) (w : World) (A' : List Value) (obs' : Obs) (w' : World) : Prop where
  st : St C N s0 n0 A' obs' w'
  mono : Mono (Ok N A obs w) (Ok N A' obs' w') A A' w w'
  frame : ∀ b, b < w.heap.size → ¬ Open w A obs b → w'.heap[b]? = w.heap[b]?
  opens : ∀ b, b < w.heap.size → Open w' A' obs' b → Open w A obs b
  size : w.heap.size ≤ w'.heap.size
  os : w'.os = w.os
  tape : w'.tape = w.tape
  output : w'.output = w.output
section
variable {C : Cfg} {N : Nat → Prop} {s0 n0 : Nat} {A A' A'' : List Value} {obs obs' obs'' : Obs} {w w' w'' : World}
theorem After.refl (h : St C N s0 n0 A obs w) : After C N s0 n0 A obs w A obs w :=
  ⟨h, Mono.refl, fun _ _ _ => rfl, fun _ _ h => h, Nat.le_refl _, rfl, rfl, rfl⟩
theorem After.trans (h : After C N s0 n0 A obs w A' obs' w') (k : After C N s0 n0 A' obs' w' A'' obs'' w'') : After C N s0 n0 A obs w A'' obs'' w'' :=
  ⟨k.st, h.mono.trans k.mono, fun b hb ho => (k.frame b (Nat.lt_of_lt_of_le hb h.size) (fun o => ho (h.opens b hb o))).trans (h.frame b hb ho),
    fun b hb o => h.opens b hb (k.opens b (Nat.lt_of_lt_of_le hb h.size) o), Nat.le_trans h.size k.size, k.os.trans h.os, k.tape.trans h.tape, k.output.trans h.output⟩
theorem blockOf_own {w : World} {t size n : Nat} {v : Value} {vs : List Value} (h : w.ownsRow 0 t size v n vs) : blockOf v = v.ownBlock := by
  rcases h.2 with ⟨rfl, _⟩ | ⟨g, cap, cur, rfl, _⟩ <;> rfl
theorem St.foot_lt (h : St C N s0 n0 A obs w) {id : Nat} {o : Ob} {v : Value} {b : Nat} (ho : obs[id]? = some o) (hg : o.isGone = false) (hv : A[id]? = some v) (hb : foot w o v b) : b < w.heap.size := by
  cases o with
  | gone => simp [Ob.isGone] at hg
  | box t cs sh =>
    rw [foot_flat rfl] at hb
    obtain ⟨g, cur, rfl, hg, _⟩ := h.box id t cs sh v ho hv
    simp [blockOf] at hb; subst hb
    exact (Array.getElem?_eq_some_iff.1 hg).1
  | row t n cs sh =>
    rw [foot_flat rfl] at hb
    obtain ⟨ti, vs, _, _, hown, _⟩ := h.row id t n cs sh v ho hv
    rw [blockOf_own hown] at hb
    exact (hown.lt b hb).2
  | nrow h0 t n cs =>
    obtain ⟨ti, _, _, hown, hr, _⟩ := h.nrow id h0 t n cs v ho hv
    rcases hb with hb | hb
    · rw [blockOf_own hown] at hb
      exact (hown.lt b hb).2
    · exact RowL.foot_lt _ _ hr b hb
theorem St.block_lt (h : St C N s0 n0 A obs w) {id : Nat} {o : Ob} {v : Value} {b : Nat} (ho : obs[id]? = some o) (hg : o.isGone = false) (hv : A[id]? = some v) (hb : blockOf v = some b) : b < w.heap.size := h.foot_lt ho hg hv (.inl hb)
theorem St.ext (h : St C N s0 n0 A obs w) (w' : World) (hs : w.heap.size ≤ w'.heap.size) (hk : ∀ b, b < w.heap.size → w'.heap[b]? = w.heap[b]?) (ho : w'.os = w.os) (ht : w'.tape = w.tape) (hu : w'.output = w.output) : After C N s0 n0 A obs w A obs w' := by
  have hf : ∀ {id : Nat} {o : Ob} {v : Value}, obs[id]? = some o → o.isGone = false → A[id]? = some v → ∀ b, foot w' o v b ↔ foot w o v b := fun h1 h2 h3 b => foot_same (fun b hb => hk b (h.foot_lt h1 h2 h3 hb)) b
  have og : ∀ {o : Ob}, o.isOpen = true → o.isGone = false := fun {o} h => by cases o <;> simp_all [Ob.isOpen, Ob.isGone]
  have hok : ∀ b, Ok N A obs w b → Ok N A obs w' b := fun b k => ⟨Nat.lt_of_lt_of_le k.lt hs, k.notN, fun id o v h1 h2 h3 h4 => k.apart id o v h1 h2 h3 ((hf h1 (og h3) h2 b).1 h4)⟩
  have hm : Mono (Ok N A obs w) (Ok N A obs w') A A w w' := ⟨fun _ _ h => h, hok, fun b k => hk b k.lt⟩
  refine ⟨⟨h.len, Nat.le_trans h.base hs, h.one, ?_, ?_, ?_, ?_, ?_⟩, hm, fun b hb _ => hk b hb, fun b hb ⟨id, o, v, h1, h2, h3, h4⟩ => ⟨id, o, v, h1, h2, h3, (hf h1 (og h3) h2 b).1 h4⟩, hs, ho, ht, hu⟩
  · intro id t cs sh v h1 h2
    obtain ⟨g, cur, e, hg, hl, h1⟩ := h.box id t cs sh v h1 h2
    exact ⟨g, cur, e, by rw [hk g (Array.getElem?_eq_some_iff.1 hg).1]; exact hg, BoxR.mono hm cs hl, h1⟩
  · intro id t n cs sh v h1 h2
    obtain ⟨ti, vs, ht, hp, hown, hl, h3⟩ := h.row id t n cs sh v h1 h2
    exact ⟨ti, vs, ht, hp, ownsRow_same hown fun b hb => hk b (h.block_lt h1 rfl h2 hb), RlL.mono hm.nil cs hl, h3⟩
  · intro id h0 t n cs v h1 h2
    exact (h.nrow id h0 t n cs v h1 h2).same (fun _ _ h => h) fun b hb => hk b (h.foot_lt h1 rfl h2 hb)
  · intro i j o o' v v' b h1 h2 h3 h4 h5 h6 h7 h8
    exact h.inj i j o o' v v' b h1 h2 h3 h4 h5 h6 ((hf h1 h3 h5 b).1 h7) ((hf h2 h4 h6 b).1 h8)
  · intro id o v b h0 h1 h2 h3 h4
    exact h.new id o v b h0 h1 h2 h3 ((hf h1 h2 h3 b).1 h4)
theorem St.foot_old (h : St C N s0 n0 A obs w) {w' : World} (hk : ∀ b, b < w.heap.size → w'.heap[b]? = w.heap[b]?) {id : Nat} {o : Ob} {v : Value} {b : Nat} (ho : obs[id]? = some o) (hg : o.isGone = false) (hv : A[id]? = some v) (hb : foot w' o v b) : b < w.heap.size :=
  h.foot_lt ho hg hv ((foot_same (fun b hb => hk b (h.foot_lt ho hg hv hb)) _).1 hb)
theorem After.drawn (h : St C N s0 n0 A obs w) (w' : World) (hh : w'.heap = w.heap) (ho : w'.os = w.os) (ht : w'.tape = w.tape) (hu : w'.output = w.output) : After C N s0 n0 A obs w A obs w' :=
  h.ext w' (by rw [hh]; exact Nat.le_refl _) (fun b _ => by rw [hh]) ho ht hu
theorem St.pushO (h : St C N s0 n0 A obs w) (hn0 : n0 ≤ obs.length) (o : Ob) (v : Value) (w' : World) (hs : w.heap.size ≤ w'.heap.size) (hk : ∀ b, b < w.heap.size → w'.heap[b]? = w.heap[b]?)
    (ho : w'.os = w.os) (ht : w'.tape = w.tape) (hu : w'.output = w.output) (hft : ∀ b, foot w' o v b → w.heap.size ≤ b ∧ ¬ N b) (hpl : Place v)
    (hbox : ∀ t cs sh, o = .box t cs sh → ∃ g cur, v = .pointer (some ⟨g, 0, none⟩) ∧ w'.heap[g]? = some (.cells cur t (0, 0)) ∧ BoxR C A (Ok N A obs w) w t cs cur.toList ∧ ∀ x ∈ cur.toList, x.oneCell' = true)
    (hrow : ∀ t n cs sh, o = .row t n cs sh → ∃ ti vs, C.ty t = some ti ∧ 0 < ti.size ∧ w'.ownsRow 0 t ti.size v n vs ∧ RlL [] (Ok N A obs w) w cs vs ∧ ∀ x ∈ vs, x.oneCell' = true)
    (hnrow : ∀ h t n cs, o = .nrow h t n cs → NRow C A w' h t n cs v) :
    After C N s0 n0 A obs w (A ++ [v]) (obs ++ [o]) w' := by
  have aE := h.ext w' hs hk ho ht hu
  have hE := aE.st
  have pre : ∀ (id : Nat) (x : Value), A[id]? = some x → (A ++ [v])[id]? = some x := fun id x hx => by
    rw [List.getElem?_append_left (List.getElem?_eq_some_iff.1 hx).1]; exact hx
  have split : ∀ (id : Nat) (o' : Ob) (v' : Value), (obs ++ [o])[id]? = some o' → (A ++ [v])[id]? = some v' → (obs[id]? = some o' ∧ A[id]? = some v') ∨ (id = obs.length ∧ o' = o ∧ v' = v) := by
    intro id o' v' h1 h2
    by_cases hid : id < obs.length
    · rw [List.getElem?_append_left hid] at h1
      rw [List.getElem?_append_left (by rw [h.len]; exact hid)] at h2
      exact .inl ⟨h1, h2⟩
    · rw [List.getElem?_append_right (by omega)] at h1
      rw [List.getElem?_append_right (by rw [h.len]; omega)] at h2
      have e : id - obs.length = 0 := by
        have := (List.getElem?_eq_some_iff.1 h1).1
        simp at this; omega
      rw [e] at h1; rw [h.len, e] at h2
      simp at h1 h2
      exact .inr ⟨by omega, h1.symm, h2.symm⟩
  have og : ∀ {o : Ob}, o.isOpen = true → o.isGone = false := fun {o} h => by cases o <;> simp_all [Ob.isOpen, Ob.isGone]
  have oldlt : ∀ {id : Nat} {o : Ob} {v : Value} {b : Nat}, obs[id]? = some o → o.isGone = false → A[id]? = some v → foot w' o v b → b < w.heap.size := fun h1 h2 h3 h4 =>
    h.foot_lt h1 h2 h3 ((foot_same (fun b hb => hk b (h.foot_lt h1 h2 h3 hb)) _).1 h4)
  have newge : ∀ {b : Nat}, foot w' o v b → w.heap.size ≤ b ∧ ¬ N b := fun h4 => hft _ h4
  have hok : ∀ b, Ok N A obs w b → Ok N (A ++ [v]) (obs ++ [o]) w' b := fun b k => ⟨Nat.lt_of_lt_of_le k.lt hs, k.notN, fun id o' v' h1 h2 h3 h4 => by
    rcases split id o' v' h1 h2 with ⟨h5, h6⟩ | ⟨_, rfl, rfl⟩
    · exact (aE.mono.grow b k).apart id o' v' h5 h6 h3 h4
    · have := (newge h4).1; have := k.lt; omega⟩
  have hm : Mono (Ok N A obs w) (Ok N (A ++ [v]) (obs ++ [o]) w') A (A ++ [v]) w w' := ⟨pre, hok, fun b k => hk b k.lt⟩
  have hone : ∀ (id : Nat) (y : Value), (A ++ [v])[id]? = some y → Place y := fun id y hy => by
    by_cases hid : id < A.length
    · rw [List.getElem?_append_left hid] at hy; exact h.one id y hy
    · rw [List.getElem?_append_right (by omega)] at hy
      have e : id - A.length = 0 := by
        have := (List.getElem?_eq_some_iff.1 hy).1
        simp at this; omega
      rw [e] at hy; simp at hy; rw [← hy]; exact hpl
  refine ⟨⟨by simp [h.len], Nat.le_trans h.base hs, hone, ?_, ?_, ?_, ?_, ?_⟩, hm, fun b hb _ => hk b hb, ?_, hs, ho, ht, hu⟩
  · intro id t cs sh v' h1 h2
    rcases split id _ v' h1 h2 with ⟨h5, h6⟩ | ⟨_, e, rfl⟩
    · obtain ⟨g, cur, e, hg, hl, h1⟩ := h.box id t cs sh v' h5 h6
      exact ⟨g, cur, e, by rw [hk g (Array.getElem?_eq_some_iff.1 hg).1]; exact hg, BoxR.mono hm cs hl, h1⟩
    · obtain ⟨g, cur, e, hg, hl, h1⟩ := hbox t cs sh e.symm
      exact ⟨g, cur, e, hg, BoxR.mono hm cs hl, h1⟩
  · intro id t n cs sh v' h1 h2
    rcases split id _ v' h1 h2 with ⟨h5, h6⟩ | ⟨_, e, rfl⟩
    · obtain ⟨ti, vs, ht, hp, hown, hl, h1⟩ := h.row id t n cs sh v' h5 h6
      exact ⟨ti, vs, ht, hp, ownsRow_same hown fun b hb => hk b (h.block_lt h5 rfl h6 hb), RlL.mono hm.nil cs hl, h1⟩
    · obtain ⟨ti, vs, ht, hp, hown, hl, h1⟩ := hrow t n cs sh e.symm
      exact ⟨ti, vs, ht, hp, hown, RlL.mono hm.nil cs hl, h1⟩
  · intro id h0 t n cs v' h1 h2
    rcases split id _ v' h1 h2 with ⟨h5, h6⟩ | ⟨_, e, rfl⟩
    · exact (h.nrow id h0 t n cs v' h5 h6).same pre fun b hb => hk b (h.foot_lt h5 rfl h6 hb)
    · exact (hnrow h0 t n cs e.symm).same pre fun _ _ => rfl
  · intro i j o1 o2 v1 v2 b h1 h2 g1 g2 h3 h4 h5 h6
    rcases split i _ _ h1 h3 with ⟨a1, a2⟩ | ⟨a1, rfl, rfl⟩
    · rcases split j _ _ h2 h4 with ⟨b1, b2⟩ | ⟨b1, rfl, rfl⟩
      · exact hE.inj i j o1 o2 v1 v2 b a1 b1 g1 g2 a2 b2 h5 h6
      · have := oldlt a1 g1 a2 h5; have := (newge h6).1; omega
    · rcases split j _ _ h2 h4 with ⟨b1, b2⟩ | ⟨b1, _, _⟩
      · have := oldlt b1 g2 b2 h6; have := (newge h5).1; omega
      · omega
  · intro id o' v' b h0 h1 g h2 h3
    rcases split id _ _ h1 h2 with ⟨a1, a2⟩ | ⟨a1, rfl, rfl⟩
    · exact hE.new id o' v' b h0 a1 g a2 h3
    · have q := newge h3; have := h.base; exact ⟨by omega, q.2⟩
  · rintro b hb' ⟨id, o', v', h1, h2, h3, h4⟩
    rcases split id _ _ h1 h2 with ⟨a1, a2⟩ | ⟨a1, rfl, rfl⟩
    · exact aE.opens b hb' ⟨id, o', v', a1, a2, h3, h4⟩
    · have := (newge h4).1; omega
theorem St.push (h : St C N s0 n0 A obs w) (hn0 : n0 ≤ obs.length) (o : Ob) (v : Value) (w' : World) (hs : w.heap.size ≤ w'.heap.size) (hk : ∀ b, b < w.heap.size → w'.heap[b]? = w.heap[b]?)
    (ho : w'.os = w.os) (ht : w'.tape = w.tape) (hu : w'.output = w.output) (hb : ∀ b, blockOf v = some b → w.heap.size ≤ b ∧ ¬ N b) (hpl : Place v)
    (hbox : ∀ t cs sh, o = .box t cs sh → ∃ g cur, v = .pointer (some ⟨g, 0, none⟩) ∧ w'.heap[g]? = some (.cells cur t (0, 0)) ∧ BoxR C A (Ok N A obs w) w t cs cur.toList ∧ ∀ x ∈ cur.toList, x.oneCell' = true)
    (hrow : ∀ t n cs sh, o = .row t n cs sh → ∃ ti vs, C.ty t = some ti ∧ 0 < ti.size ∧ w'.ownsRow 0 t ti.size v n vs ∧ RlL [] (Ok N A obs w) w cs vs ∧ ∀ x ∈ vs, x.oneCell' = true) (hnr : o.isN = false := by rfl) :
    After C N s0 n0 A obs w (A ++ [v]) (obs ++ [o]) w' :=
  h.pushO hn0 o v w' hs hk ho ht hu (fun b h4 => hb b ((foot_flat hnr).1 h4)) hpl hbox hrow (fun _ _ _ _ e => by rw [e] at hnr; cases hnr)
theorem setOb_get : ∀ (obs : Obs) (id : Nat) (o : Ob) (j : Nat), (setOb obs id o)[j]? = if j = id then (obs[j]?).map (fun _ => o) else obs[j]?
  | [], id, o, j => by simp [setOb]
  | x :: r, 0, o, 0 => by simp [setOb]
  | x :: r, 0, o, j + 1 => by simp [setOb]
  | x :: r, i + 1, o, 0 => by simp [setOb]
  | x :: r, i + 1, o, j + 1 => by simp [setOb, setOb_get r i o j]
theorem setOb_length : ∀ (obs : Obs) (id : Nat) (o : Ob), (setOb obs id o).length = obs.length
  | [], _, _ => rfl
  | _ :: _, 0, _ => rfl
  | _ :: r, i + 1, o => by simp [setOb, setOb_length r i o]
theorem ownsRow_keep {w w' : World} {t size n : Nat} {v : Value} {vs : List Value} (h : w.ownsRow 0 t size v n vs) (hk : ∀ b, blockOf v = some b → w'.heap[b]? = w.heap[b]?) : w'.ownsRow 0 t size v n vs := by
  obtain ⟨q1, q2⟩ := h
  refine ⟨q1, ?_⟩
  rcases q2 with q2 | ⟨g, cap, cur, rfl, q4, q5, q6⟩
  · exact .inl q2
  · exact .inr ⟨g, cap, cur, rfl, q4, by rw [hk g rfl]; exact q5, q6⟩
theorem open_gone {o : Ob} (h : o.isOpen = true) : o.isGone = false := by cases o <;> simp_all [Ob.isOpen, Ob.isGone]
theorem St.writeO (h : St C N s0 n0 A obs w) {id : Nat} {o o' : Ob} {v : Value} {g : Nat} (ho : obs[id]? = some o) (hop : o.isOpen = true) (hv : A[id]? = some v) (hb : blockOf v = some g) (hop' : o'.isOpen = true) (hrw : o'.isRow = o.isRow)
    {w' : World} (hs : w.heap.size ≤ w'.heap.size) (hk : ∀ b, b < w.heap.size → b ≠ g → w'.heap[b]? = w.heap[b]?) (hos : w'.os = w.os) (ht : w'.tape = w.tape) (hu : w'.output = w.output)
    (hbox : ∀ t cs sh, o' = .box t cs sh → ∃ g cur, v = .pointer (some ⟨g, 0, none⟩) ∧ w'.heap[g]? = some (.cells cur t (0, 0)) ∧ BoxR C A (Ok N A obs w) w t cs cur.toList ∧ ∀ x ∈ cur.toList, x.oneCell' = true)
    (hrow : ∀ t n cs sh, o' = .row t n cs sh → ∃ ti vs, C.ty t = some ti ∧ 0 < ti.size ∧ w'.ownsRow 0 t ti.size v n vs ∧ RlL [] (Ok N A obs w) w cs vs ∧ ∀ x ∈ vs, x.oneCell' = true)
    (hft : ∀ b, foot w' o' v b → foot w o v b) (hnrow : ∀ h t n cs, o' = .nrow h t n cs → NRow C A w' h t n cs v) :
    After C N s0 n0 A obs w A (setOb obs id o') w' := by
  have hgone : o.isGone = false := open_gone hop
  have split : ∀ (j : Nat) (x : Ob), (setOb obs id o')[j]? = some x → (j ≠ id ∧ obs[j]? = some x) ∨ (j = id ∧ x = o') := by
    intro j x hx
    rw [setOb_get] at hx
    by_cases e : j = id
    · rw [if_pos e, e, ho] at hx; simp at hx; exact .inr ⟨e, hx.symm⟩
    · rw [if_neg e] at hx; exact .inl ⟨e, hx⟩
  have other : ∀ (j : Nat) (x : Ob) (v' : Value) (b : Nat), j ≠ id → obs[j]? = some x → x.isGone = false → A[j]? = some v' → foot w x v' b → w'.heap[b]? = w.heap[b]? := fun j x v' b hj h1 h2 h3 h4 =>
    hk b (h.foot_lt h1 h2 h3 h4) (fun e => hj (h.inj j id x o v' v b h1 ho h2 hgone h3 hv h4 (.inl (by rw [hb, e]))))
  have same : ∀ {j : Nat} {x : Ob} {v' : Value} {b : Nat}, j ≠ id → obs[j]? = some x → x.isGone = false → A[j]? = some v' → (foot w' x v' b ↔ foot w x v' b) := fun hj h1 h2 h3 => foot_same (fun b hb => other _ _ _ b hj h1 h2 h3 hb) _
  have mine : ∀ {b : Nat}, foot w' o' v b → foot w o v b := fun h4 => hft _ h4
  have hok : ∀ b, Ok N A obs w b → Ok N A (setOb obs id o') w' b := fun b k => ⟨Nat.lt_of_lt_of_le k.lt hs, k.notN, fun j x v' h1 h2 h3 h4 => by
    rcases split j x h1 with ⟨e, h5⟩ | ⟨e, rfl⟩
    · exact k.apart j x v' h5 h2 h3 ((same e h5 (open_gone h3) h2).1 h4)
    · subst e; rw [hv] at h2; cases h2; exact k.apart j o v ho hv hop (mine h4)⟩
  have hne : ∀ b, Ok N A obs w b → b ≠ g := fun b k e => k.apart id o v ho hv hop (.inl (by rw [hb, e]))
  have hm : Mono (Ok N A obs w) (Ok N A (setOb obs id o') w') A A w w' := ⟨fun _ _ h => h, hok, fun b k => hk b k.lt (hne b k)⟩
  refine ⟨⟨by rw [setOb_length]; exact h.len, Nat.le_trans h.base hs, h.one, ?_, ?_, ?_, ?_, ?_⟩, hm, ?_, ?_, hs, hos, ht, hu⟩
  · intro j t cs sh v' h1 h2
    rcases split j _ h1 with ⟨e, h5⟩ | ⟨e, h5⟩
    · obtain ⟨g', cur, e', hg, hl, h1⟩ := h.box j t cs sh v' h5 h2
      exact ⟨g', cur, e', by rw [other j _ v' g' e h5 rfl h2 (.inl (by rw [e']; rfl))]; exact hg, BoxR.mono hm cs hl, h1⟩
    · subst e; rw [hv] at h2; cases h2
      obtain ⟨g', cur, e', hg, hl, h1⟩ := hbox t cs sh h5.symm
      exact ⟨g', cur, e', hg, BoxR.mono hm cs hl, h1⟩
  · intro j t n cs sh v' h1 h2
    rcases split j _ h1 with ⟨e, h5⟩ | ⟨e, h5⟩
    · obtain ⟨ti, vs, ht, hp, hown, hl, h1⟩ := h.row j t n cs sh v' h5 h2
      exact ⟨ti, vs, ht, hp, ownsRow_keep hown (fun b hb' => other j _ v' b e h5 rfl h2 (.inl hb')), RlL.mono hm.nil cs hl, h1⟩
    · subst e; rw [hv] at h2; cases h2
      obtain ⟨ti, vs, ht, hp, hown, hl, h1⟩ := hrow t n cs sh h5.symm
      exact ⟨ti, vs, ht, hp, hown, RlL.mono hm.nil cs hl, h1⟩
  · intro j h0 t n cs v' h1 h2
    rcases split j _ h1 with ⟨e, h5⟩ | ⟨e, h5⟩
    · exact (h.nrow j h0 t n cs v' h5 h2).same (fun _ _ h => h) fun b hb' => other j _ v' b e h5 rfl h2 hb'
    · subst e; rw [hv] at h2; cases h2
      exact hnrow h0 t n cs h5.symm
  · intro i j o1 o2 v1 v2 b h1 h2 g1 g2 h3 h4 h5 h6
    have fix : ∀ (j : Nat) (x : Ob) (v' : Value), (setOb obs id o')[j]? = some x → x.isGone = false → A[j]? = some v' → foot w' x v' b → ∃ y, obs[j]? = some y ∧ y.isGone = false ∧ foot w y v' b := fun j x v' hx hy hv' hf => by
      rcases split j x hx with ⟨e, h7⟩ | ⟨e, rfl⟩
      · exact ⟨x, h7, hy, (same e h7 hy hv').1 hf⟩
      · subst e; rw [hv] at hv'; cases hv'
        exact ⟨o, ho, hgone, mine hf⟩
    obtain ⟨y1, k1, k2, k5⟩ := fix i o1 v1 h1 g1 h3 h5
    obtain ⟨y2, k3, k4, k6⟩ := fix j o2 v2 h2 g2 h4 h6
    exact h.inj i j y1 y2 v1 v2 b k1 k3 k2 k4 h3 h4 k5 k6
  · intro j x v' b h0 h1 hg h2 h3
    rcases split j x h1 with ⟨e, h7⟩ | ⟨e, rfl⟩
    · exact h.new j x v' b h0 h7 hg h2 ((same e h7 hg h2).1 h3)
    · subst e; rw [hv] at h2; cases h2; exact h.new j o v b (by rw [← hrw]; exact h0) ho hgone hv (mine h3)
  · intro b hb' hno
    exact hk b hb' (fun e => hno ⟨id, o, v, ho, hv, hop, .inl (by rw [hb, e])⟩)
  · rintro b hb' ⟨j, x, v', h1, h2, h3, h4⟩
    rcases split j x h1 with ⟨e, h7⟩ | ⟨e, rfl⟩
    · exact ⟨j, x, v', h7, h2, h3, (same e h7 (open_gone h3) h2).1 h4⟩
    · subst e; rw [hv] at h2; cases h2; exact ⟨j, o, v, ho, hv, hop, mine h4⟩
theorem St.write (h : St C N s0 n0 A obs w) {id : Nat} {o o' : Ob} {v : Value} {g : Nat} (ho : obs[id]? = some o) (hop : o.isOpen = true) (hv : A[id]? = some v) (hb : blockOf v = some g) (hop' : o'.isOpen = true) (hrw : o'.isRow = o.isRow)
    {w' : World} (hs : w.heap.size ≤ w'.heap.size) (hk : ∀ b, b < w.heap.size → b ≠ g → w'.heap[b]? = w.heap[b]?) (hos : w'.os = w.os) (ht : w'.tape = w.tape) (hu : w'.output = w.output)
    (hbox : ∀ t cs sh, o' = .box t cs sh → ∃ g cur, v = .pointer (some ⟨g, 0, none⟩) ∧ w'.heap[g]? = some (.cells cur t (0, 0)) ∧ BoxR C A (Ok N A obs w) w t cs cur.toList ∧ ∀ x ∈ cur.toList, x.oneCell' = true)
    (hrow : ∀ t n cs sh, o' = .row t n cs sh → ∃ ti vs, C.ty t = some ti ∧ 0 < ti.size ∧ w'.ownsRow 0 t ti.size v n vs ∧ RlL [] (Ok N A obs w) w cs vs ∧ ∀ x ∈ vs, x.oneCell' = true) (hnr : o'.isN = false := by rfl) :
    After C N s0 n0 A obs w A (setOb obs id o') w' :=
  h.writeO ho hop hv hb hop' hrw hs hk hos ht hu hbox hrow (fun b h4 => .inl ((foot_flat hnr).1 h4)) (fun _ _ _ _ e => by rw [e] at hnr; cases hnr)
mutual
theorem RowC.bare {ok' : Nat → Prop} {w : World} : ∀ (x : V) (v : Value), (∀ b, footC w x v b → ok' b) → RowC w x v → Rl [] ok' w (bareV x) v
  | .own ne t sz n cs, v, hf, hr => by
    simp only [footC] at hf
    simp only [RowC] at hr
    obtain ⟨h1, h2, h3, h4, h5, h6, _⟩ := hr
    have hl := RowL.bare cs _ (fun b hb => hf b (.inr hb)) h3
    simp only [bareV, Rl]
    obtain ⟨q1, q2⟩ := h2
    rcases q2 with ⟨rfl, rfl⟩ | ⟨g, cap, cur, rfl, _, q5, q6, q7, q8, q9⟩
    · refine ⟨none, 0, _, rfl, Nat.le_refl _, hl, .inl ⟨rfl, ?_⟩⟩
      exact List.length_eq_zero_iff.1 (by rw [q1]; simp)
    · refine ⟨_, cap, _, rfl, q6, hl, .inr ⟨g, 0, rfl, hf g (.inl rfl), fun i u hu => ⟨?_, h4 u (List.mem_of_getElem? hu)⟩⟩⟩
      rw [← q9, List.getElem?_take] at hu
      split at hu
      · rw [Nat.zero_add]
        simp [World.cell?, q5]
        rw [← Array.getElem?_toList]; exact hu
      · cases hu
  | .u, v, _, h | .bool _, v, _, h | .int _ _, v, _, h | .str _, v, _, h | .nilsl, v, _, h | .nilp, v, _, h | .nilf, v, _, h | .nili, v, _, h | .sl _ _, v, _, h | .osl _ _, v, _, h | .ref _, v, _, h | .prj _ _, v, _, h | .ptr _ _, v, _, h | .pin _ _, v, _, h | .fn _ _, v, _, h | .agg _, v, _, h | .tup _, v, _, h => by
    simp only [RowC] at h
    simp only [bareV]
    exact Rl.mono ⟨fun _ _ h => h, fun _ h => h.elim, fun _ _ => rfl⟩ _ h
theorem RowL.bare {ok' : Nat → Prop} {w : World} : ∀ (xs : List V) (vs : List Value), (∀ b, footL w xs vs b → ok' b) → RowL w xs vs → RlL [] ok' w (bareL xs) vs
  | x :: xs, v :: vs, hf, hr => by
    simp only [footL] at hf
    simp only [RowL] at hr
    simp only [bareL, RlL]
    exact ⟨RowC.bare x v (fun b hb => hf b (.inl hb)) hr.1, RowL.bare xs vs (fun b hb => hf b (.inr hb)) hr.2⟩
  | [], [], _, _ => by simp [bareL, RlL]
  | [], _ :: _, _, h => by simp [RowL] at h
  | _ :: _, [], _, h => by simp [RowL] at h
end
theorem shutOb_cases (o : Ob) : (∃ t n cs, o = .nrow [] t n cs ∧ shutOb o = .row t n (bareL cs) true) ∨ (∃ p h t n cs, o = .nrow (p :: h) t n cs ∧ shutOb o = .gone) ∨ o.isN = false := by
  cases o with
  | nrow h t n cs => cases h with
    | nil => exact .inl ⟨t, n, cs, rfl, rfl⟩
    | cons p h => exact .inr (.inl ⟨p, h, t, n, cs, rfl, rfl⟩)
  | gone => exact .inr (.inr rfl)
  | box => exact .inr (.inr rfl)
  | row => exact .inr (.inr rfl)
theorem shutOb_isN (o : Ob) : (shutOb o).isN = false := by
  rcases shutOb_cases o with ⟨t, n, cs, rfl, e⟩ | ⟨p, h, t, n, cs, rfl, e⟩ | h
  · rw [e]; rfl
  · rw [e]; rfl
  · cases o <;> simp_all [Ob.isN, shutOb]
theorem shutOb_isOpen (o : Ob) : (shutOb o).isOpen = false := by
  rcases shutOb_cases o with ⟨t, n, cs, rfl, e⟩ | ⟨p, h, t, n, cs, rfl, e⟩ | h
  · rw [e]; rfl
  · rw [e]; rfl
  · cases o <;> simp_all [Ob.isN, shutOb, Ob.isOpen]
theorem shutOb_isGone (o : Ob) (h : (shutOb o).isGone = false) : o.isGone = false := by
  rcases shutOb_cases o with ⟨t, n, cs, rfl, e⟩ | ⟨p, h', t, n, cs, rfl, e⟩ | h'
  · rfl
  · rfl
  · cases o <;> simp_all [Ob.isN, shutOb, Ob.isGone]
theorem shutOb_idem (o : Ob) : shutOb (shutOb o) = shutOb o := by
  cases o with
  | nrow h t n cs => cases h <;> rfl
  | gone => rfl
  | box => rfl
  | row => rfl
theorem Ob.isN_of {o : Ob} (h : o.isOpen = false) : o.isN = false := by cases o <;> simp_all [Ob.isOpen, Ob.isN]
theorem St.close (h : St C N s0 n0 A obs w) {id : Nat} {o o' : Ob} (ho : obs[id]? = some o) (hc : o' = .gone ∧ o.isShut = false ∨ o' = shutOb o) : After C N s0 n0 A obs w A (setOb obs id o') w := by
  have split : ∀ (j : Nat) (x : Ob), (setOb obs id o')[j]? = some x → (j ≠ id ∧ obs[j]? = some x) ∨ (j = id ∧ x = o') := by
    intro j x hx
    rw [setOb_get] at hx
    by_cases e : j = id
    · rw [if_pos e, e, ho] at hx; simp at hx; exact .inr ⟨e, hx.symm⟩
    · rw [if_neg e] at hx; exact .inl ⟨e, hx⟩
  have hop' : o'.isOpen = false := by
    rcases hc with ⟨rfl, _⟩ | rfl
    · rfl
    · exact shutOb_isOpen o
  have hgo : o'.isGone = false → o' = shutOb o ∧ o.isGone = false := by
    rcases hc with ⟨rfl, h⟩ | rfl
    · intro h; simp [Ob.isGone] at h
    · intro h; exact ⟨rfl, shutOb_isGone o h⟩
  have hN' : o'.isN = false := by
    rcases hc with ⟨rfl, _⟩ | rfl
    · rfl
    · exact shutOb_isN o
  have mine : ∀ {v : Value} {b : Nat}, foot w o' v b → foot w o v b := fun h4 => .inl ((foot_flat hN').1 h4)
  have hok : ∀ b, Ok N A obs w b → Ok N A (setOb obs id o') w b := fun b k => ⟨k.lt, k.notN, fun j x v' h1 h2 h3 h4 => by
    rcases split j x h1 with ⟨_, h5⟩ | ⟨e, rfl⟩
    · exact k.apart j x v' h5 h2 h3 h4
    · rw [hop'] at h3; cases h3⟩
  have hm : Mono (Ok N A obs w) (Ok N A (setOb obs id o') w) A A w w := ⟨fun _ _ h => h, hok, fun b k => rfl⟩
  refine ⟨⟨by rw [setOb_length]; exact h.len, h.base, h.one, ?_, ?_, ?_, ?_, ?_⟩, hm, fun _ _ _ => rfl, ?_, Nat.le_refl _, rfl, rfl, rfl⟩
  · intro j t cs sh v' h1 h2
    rcases split j _ h1 with ⟨e, h5⟩ | ⟨e, h5⟩
    · obtain ⟨g', cur, e', hg, hl, h1⟩ := h.box j t cs sh v' h5 h2
      exact ⟨g', cur, e', hg, BoxR.mono hm cs hl, h1⟩
    · obtain ⟨e1, _⟩ := hgo (by rw [← h5]; rfl)
      rw [e1] at h5
      cases o with
      | gone => simp [shutOb] at h5
      | row => simp [shutOb] at h5
      | nrow h0 => cases h0 <;> simp [shutOb] at h5
      | box t0 cs0 sh0 =>
        simp [shutOb] at h5
        obtain ⟨rfl, rfl, rfl⟩ := h5
        obtain ⟨g', cur, e', hg, hl, h1⟩ := h.box j t cs sh0 v' (by rw [e]; exact ho) h2
        exact ⟨g', cur, e', hg, BoxR.mono hm cs hl, h1⟩
  · intro j t n cs sh v' h1 h2
    rcases split j _ h1 with ⟨e, h5⟩ | ⟨e, h5⟩
    · obtain ⟨ti, vs, ht, hp, hown, hl, h1⟩ := h.row j t n cs sh v' h5 h2
      exact ⟨ti, vs, ht, hp, hown, RlL.mono hm.nil cs hl, h1⟩
    · obtain ⟨e1, _⟩ := hgo (by rw [← h5]; rfl)
      rw [e1] at h5
      cases o with
      | gone => simp [shutOb] at h5
      | box => simp [shutOb] at h5
      | row t0 n0 cs0 sh0 =>
        simp [shutOb] at h5
        obtain ⟨rfl, rfl, rfl, rfl⟩ := h5
        obtain ⟨ti, vs, ht, hp, hown, hl, h1⟩ := h.row j t n cs sh0 v' (by rw [e]; exact ho) h2
        exact ⟨ti, vs, ht, hp, hown, RlL.mono hm.nil cs hl, h1⟩
      | nrow h0 t0 n1 cs0 =>
        cases h0 with
        | cons => simp [shutOb] at h5
        | nil =>
        simp [shutOb] at h5
        obtain ⟨rfl, rfl, rfl, rfl⟩ := h5
        subst e
        obtain ⟨ti, ht, hp, hown, hl, h3, h4, h6⟩ := h.nrow j [] t n cs0 v' ho h2
        refine ⟨ti, _, ht, hp, hown, RowL.bare cs0 _ (fun b hb => ?_) hl, h3⟩
        have hft : foot w (.nrow [] t n cs0) v' b := .inr hb
        refine ⟨h.foot_lt ho rfl h2 hft, (h.new j _ v' b (.inr rfl) ho rfl h2 hft).2, fun i x u k1 k2 k3 k4 => ?_⟩
        rcases split i x k1 with ⟨e2, k5⟩ | ⟨_, rfl⟩
        · exact e2 (h.inj i j x _ u v' b k5 ho (open_gone k3) rfl k2 h2 k4 hft)
        · rw [hop'] at k3; cases k3
  · intro j h0 t n cs v' h1 h2
    rcases split j _ h1 with ⟨e, h5⟩ | ⟨e, h5⟩
    · exact (h.nrow j h0 t n cs v' h5 h2).same (fun _ _ h => h) fun b _ => rfl
    · rw [← h5] at hN'; cases hN'
  · intro i j o1 o2 v1 v2 b h1 h2 g1 g2 h3 h4 h5 h6
    have fix : ∀ (j : Nat) (x : Ob) (v' : Value), (setOb obs id o')[j]? = some x → x.isGone = false → foot w x v' b → ∃ y, obs[j]? = some y ∧ y.isGone = false ∧ foot w y v' b := fun j x v' hx hy hf => by
      rcases split j x hx with ⟨_, h7⟩ | ⟨e, rfl⟩
      · exact ⟨x, h7, hy, hf⟩
      · exact ⟨o, by rw [e]; exact ho, (hgo hy).2, mine hf⟩
    obtain ⟨y1, k1, k2, k5⟩ := fix i o1 v1 h1 g1 h5
    obtain ⟨y2, k3, k4, k6⟩ := fix j o2 v2 h2 g2 h6
    exact h.inj i j y1 y2 v1 v2 b k1 k3 k2 k4 h3 h4 k5 k6
  · intro j x v' b h0 h1 hg h2 h3
    rcases split j x h1 with ⟨_, h7⟩ | ⟨e, rfl⟩
    · exact h.new j x v' b h0 h7 hg h2 h3
    · subst e
      obtain ⟨e1, e2⟩ := hgo hg
      refine h.new j o v' b ?_ ho e2 h2 (mine h3)
      rcases h0 with h0 | h0
      · exact .inl h0
      · refine .inr ?_
        rw [e1] at h0
        rcases shutOb_cases o with ⟨t0, n1, cs1, e3, _⟩ | ⟨p0, h1', t0, n1, cs1, e3, _⟩ | e3
        · rw [e3]; rfl
        · rw [e3]; rfl
        · cases o <;> simp_all [shutOb, Ob.isRow, Ob.isN]
  · rintro b hb' ⟨j, x, v', h1, h2, h3, h4⟩
    rcases split j x h1 with ⟨_, h7⟩ | ⟨e, rfl⟩
    · exact ⟨j, x, v', h7, h2, h3, h4⟩
    · rw [hop'] at h3; cases h3
theorem St.shutAt (h : St C N s0 n0 A obs w) (id : Nat) : After C N s0 n0 A obs w A (shutAt obs id) w := by
  unfold PI.shutAt
  cases e : obs[id]? with
  | none => exact After.refl h
  | some o => exact h.close e (.inr rfl)
theorem St.growO (h : St C N s0 n0 A obs w) (hn0 : n0 ≤ obs.length) {id : Nat} {o1 o2 : Ob} {v : Value} (ho : obs[id]? = some o1) (hop : o1.isOpen = true) (hrw : o1.isRow = true) (hop2 : o2.isOpen = true) (hrw2 : o2.isRow = true) (hv : A[id]? = some v)
    {v' : Value} {w' : World} (hs : w.heap.size ≤ w'.heap.size) (hk : ∀ b, b < w.heap.size → blockOf v ≠ some b → w'.heap[b]? = w.heap[b]?) (hos : w'.os = w.os) (ht : w'.tape = w.tape) (hu : w'.output = w.output)
    (hb : ∀ b, foot w' o2 v' b → foot w o1 v b ∨ w.heap.size ≤ b ∧ ¬ N b) (hpl : Place v')
    (hrow : ∀ t n cs sh, o2 = .row t n cs sh → ∃ ti vs, C.ty t = some ti ∧ 0 < ti.size ∧ w'.ownsRow 0 t ti.size v' n vs ∧ RlL [] (Ok N A obs w) w cs vs ∧ ∀ x ∈ vs, x.oneCell' = true)
    (hnrow : ∀ h t n cs, o2 = .nrow h t n cs → NRow C A w' h t n cs v') :
    After C N s0 n0 A obs w (A ++ [v']) (setOb obs id .gone ++ [o2]) w' := by
  have hlen : (setOb obs id Ob.gone).length = obs.length := setOb_length _ _ _
  have pre : ∀ (i : Nat) (x : Value), A[i]? = some x → (A ++ [v'])[i]? = some x := fun i x hx => by
    rw [List.getElem?_append_left (List.getElem?_eq_some_iff.1 hx).1]; exact hx
  have split : ∀ (j : Nat) (x : Ob) (y : Value), (setOb obs id Ob.gone ++ [o2])[j]? = some x → (A ++ [v'])[j]? = some y →
      (j ≠ id ∧ obs[j]? = some x ∧ A[j]? = some y) ∨ (j = id ∧ x = .gone ∧ y = v) ∨ (j = obs.length ∧ x = o2 ∧ y = v') := by
    intro j x y h1 h2
    by_cases hj : j < obs.length
    · rw [List.getElem?_append_left (by rw [hlen]; exact hj), setOb_get] at h1
      rw [List.getElem?_append_left (by rw [h.len]; exact hj)] at h2
      by_cases e : j = id
      · rw [if_pos e, e, ho] at h1; simp at h1
        rw [e, hv] at h2; cases h2
        exact .inr (.inl ⟨e, h1.symm, rfl⟩)
      · rw [if_neg e] at h1; exact .inl ⟨e, h1, h2⟩
    · rw [List.getElem?_append_right (by rw [hlen]; omega)] at h1
      rw [List.getElem?_append_right (by rw [h.len]; omega)] at h2
      rw [hlen] at h1; rw [h.len] at h2
      have e : j - obs.length = 0 := by
        have := (List.getElem?_eq_some_iff.1 h1).1
        simp at this; omega
      rw [e] at h1 h2
      simp at h1 h2
      exact .inr (.inr ⟨by omega, h1.symm, h2.symm⟩)
  have other : ∀ (j : Nat) (x : Ob) (y : Value) (b : Nat), j ≠ id → obs[j]? = some x → x.isGone = false → A[j]? = some y → foot w x y b → w'.heap[b]? = w.heap[b]? := fun j x y b hj h1 h2 h3 h4 =>
    hk b (h.foot_lt h1 h2 h3 h4) (fun e => hj (h.inj j id x _ y v b h1 ho h2 (open_gone hop) h3 hv h4 (.inl e)))
  have same : ∀ {j : Nat} {x : Ob} {v' : Value} {b : Nat}, j ≠ id → obs[j]? = some x → x.isGone = false → A[j]? = some v' → (foot w' x v' b ↔ foot w x v' b) := fun hj h1 h2 h3 => foot_same (fun b hb => other _ _ _ b hj h1 h2 h3 hb) _
  have hok : ∀ b, Ok N A obs w b → Ok N (A ++ [v']) (setOb obs id Ob.gone ++ [o2]) w' b := fun b k => ⟨Nat.lt_of_lt_of_le k.lt hs, k.notN, fun j x y h1 h2 h3 h4 => by
    rcases split j x y h1 h2 with ⟨e, h5, h6⟩ | ⟨e, hx, _⟩ | ⟨_, rfl, rfl⟩
    · exact k.apart j x y h5 h6 h3 ((same e h5 (open_gone h3) h6).1 h4)
    · subst hx; simp [Ob.isOpen] at h3
    · rcases hb b h4 with h7 | h7
      · exact k.apart id _ v ho hv hop h7
      · have := k.lt; omega⟩
  have hm : Mono (Ok N A obs w) (Ok N (A ++ [v']) (setOb obs id Ob.gone ++ [o2]) w') A (A ++ [v']) w w' :=
    ⟨pre, hok, fun b k => hk b k.lt (fun e => k.apart id _ v ho hv hop (.inl e))⟩
  have hg1 : o1.isGone = false := open_gone hop
  have hone : ∀ (id : Nat) (y : Value), (A ++ [v'])[id]? = some y → Place y := fun id y hy => by
    by_cases hid : id < A.length
    · rw [List.getElem?_append_left hid] at hy; exact h.one id y hy
    · rw [List.getElem?_append_right (by omega)] at hy
      have e : id - A.length = 0 := by
        have := (List.getElem?_eq_some_iff.1 hy).1
        simp at this; omega
      rw [e] at hy; simp at hy; rw [← hy]; exact hpl
  refine ⟨⟨by simp [hlen, h.len], Nat.le_trans h.base hs, hone, ?_, ?_, ?_, ?_, ?_⟩, hm, fun b hb' hno => hk b hb' (fun e => hno ⟨id, _, v, ho, hv, hop, .inl e⟩), ?_, hs, hos, ht, hu⟩
  · intro j t1 cs1 sh1 y h1 h2
    rcases split j _ y h1 h2 with ⟨e, h5, h6⟩ | ⟨_, e, _⟩ | ⟨_, e, _⟩
    · obtain ⟨g', cur, e', hg, hl, h1⟩ := h.box j t1 cs1 sh1 y h5 h6
      exact ⟨g', cur, e', by rw [other j _ y g' e h5 rfl h6 (.inl (by rw [e']; rfl))]; exact hg, BoxR.mono hm cs1 hl, h1⟩
    · cases e
    · rw [← e] at hrw2; cases hrw2
  · intro j t1 n1 cs1 sh1 y h1 h2
    rcases split j _ y h1 h2 with ⟨e, h5, h6⟩ | ⟨_, e, _⟩ | ⟨_, e, rfl⟩
    · obtain ⟨ti, vs, ht, hp, hown, hl, h1⟩ := h.row j t1 n1 cs1 sh1 y h5 h6
      exact ⟨ti, vs, ht, hp, ownsRow_keep hown (fun b hb' => other j _ y b e h5 rfl h6 (.inl hb')), RlL.mono hm.nil cs1 hl, h1⟩
    · cases e
    · obtain ⟨ti, vs, ht, hp, hown, hl, h1⟩ := hrow _ _ _ _ e.symm
      exact ⟨ti, vs, ht, hp, hown, RlL.mono hm.nil _ hl, h1⟩
  · intro j h0 t1 n1 cs1 y h1 h2
    rcases split j _ y h1 h2 with ⟨e, h5, h6⟩ | ⟨_, e, _⟩ | ⟨_, e, rfl⟩
    · exact (h.nrow j h0 t1 n1 cs1 y h5 h6).same pre fun b hb' => other j _ y b e h5 rfl h6 hb'
    · cases e
    · exact (hnrow _ _ _ _ e.symm).same pre fun _ _ => rfl
  · intro i j p1 p2 v1 v2 b h1 h2 g1 g2 h3 h4 h5 h6
    rcases split i _ _ h1 h3 with ⟨a0, a1, a2⟩ | ⟨_, a1, _⟩ | ⟨a1, rfl, rfl⟩
    · rcases split j _ _ h2 h4 with ⟨b0, b1, b2⟩ | ⟨_, b1, _⟩ | ⟨b1, rfl, rfl⟩
      · exact h.inj i j p1 p2 v1 v2 b a1 b1 g1 g2 a2 b2 ((same a0 a1 g1 a2).1 h5) ((same b0 b1 g2 b2).1 h6)
      · subst b1; simp [Ob.isGone] at g2
      · have h5 := (same a0 a1 g1 a2).1 h5
        rcases hb b h6 with h7 | h7
        · exact absurd (h.inj i id p1 _ v1 v b a1 ho g1 hg1 a2 hv h5 h7) a0
        · have := h.foot_lt a1 g1 a2 h5; omega
    · subst a1; simp [Ob.isGone] at g1
    · rcases split j _ _ h2 h4 with ⟨b0, b1, b2⟩ | ⟨_, b1, _⟩ | ⟨b1, _, _⟩
      · have h6 := (same b0 b1 g2 b2).1 h6
        rcases hb b h5 with h7 | h7
        · exact absurd (h.inj j id p2 _ v2 v b b1 ho g2 hg1 b2 hv h6 h7) b0
        · have := h.foot_lt b1 g2 b2 h6; omega
      · subst b1; simp [Ob.isGone] at g2
      · omega
  · intro j x y b h0 h1 g h2 h3
    rcases split j _ _ h1 h2 with ⟨a0, a1, a2⟩ | ⟨_, a1, _⟩ | ⟨a1, rfl, rfl⟩
    · exact h.new j x y b h0 a1 g a2 ((same a0 a1 g a2).1 h3)
    · subst a1; simp [Ob.isGone] at g
    · rcases hb b h3 with h7 | h7
      · exact h.new id _ v b (.inr hrw) ho hg1 hv h7
      · have := h.base; exact ⟨by omega, h7.2⟩
  · rintro b hb' ⟨j, x, y, h1, h2, h3, h4⟩
    rcases split j _ _ h1 h2 with ⟨a0, a1, a2⟩ | ⟨_, a1, _⟩ | ⟨a1, rfl, rfl⟩
    · exact ⟨j, x, y, a1, a2, h3, (same a0 a1 (open_gone h3) a2).1 h4⟩
    · subst a1; simp [Ob.isOpen] at h3
    · rcases hb b h4 with h7 | h7
      · exact ⟨id, _, v, ho, hv, hop, h7⟩
      · omega
theorem St.grow (h : St C N s0 n0 A obs w) (hn0 : n0 ≤ obs.length) {id t n : Nat} {cs : List V} {v : Value} (ho : obs[id]? = some (.row t n cs false)) (hv : A[id]? = some v)
    {t' n' : Nat} {cs' : List V} {v' : Value} {w' : World} (hs : w.heap.size ≤ w'.heap.size) (hk : ∀ b, b < w.heap.size → blockOf v ≠ some b → w'.heap[b]? = w.heap[b]?) (hos : w'.os = w.os) (ht : w'.tape = w.tape) (hu : w'.output = w.output)
    (hb : ∀ b, blockOf v' = some b → blockOf v = some b ∨ w.heap.size ≤ b ∧ ¬ N b)
    (hrow : ∃ ti vs, C.ty t' = some ti ∧ 0 < ti.size ∧ w'.ownsRow 0 t' ti.size v' n' vs ∧ RlL [] (Ok N A obs w) w cs' vs ∧ ∀ x ∈ vs, x.oneCell' = true) :
    After C N s0 n0 A obs w (A ++ [v']) (setOb obs id .gone ++ [.row t' n' cs' false]) w' :=
  h.growO hn0 ho rfl rfl (o2 := .row t' n' cs' false) rfl rfl hv hs hk hos ht hu (fun b hf => (hb b ((foot_flat rfl).1 hf)).imp .inl fun h => h) (by obtain ⟨ti, vs, _, _, hown, _⟩ := hrow; exact Place.of_own hown)
    (fun _ _ _ _ e => by cases e; exact hrow) (fun _ _ _ _ e => by cases e)
end
#print axioms Rl.mono
#print axioms St.push
#print axioms St.write
#print axioms St.grow
end Go.PI
