/-
  PI: a region whose order is drawn.
-/
import Derived.Test.YtodapaplfjfnlaaGreatPIExec2
import Derived.OrdersHeld
namespace Go.PI
open Go
set_option linter.unusedVariables false
set_option linter.unusedSimpArgs false
section
variable {P : Program} {C : Cfg} {N : Nat → Prop} {s0 n0 : Nat} {A0 A A' : List Value} {obs0 obs obs' : Obs} {w0 w w' : World} {α : Type} {r : α} {nt : Nat} {e : Env} {a : Act}
theorem openB_eq (o : Ob) : openB o = o.isOpen := by
  cases o with
  | nrow => rfl
  | gone => rfl
  | box t cs sh => cases sh <;> rfl
  | row t n cs sh => cases sh <;> rfl
theorem eraseF_get (X : List Nat) : ∀ (obs : Obs) (k i : Nat), (eraseF X k obs)[i]? = (obs[i]?).map fun o => bif keptB X (k + i) o then o else .gone
  | [], k, i => by simp [eraseF]
  | o :: r, k, 0 => by simp [eraseF]
  | o :: r, k, i + 1 => by
    simp only [eraseF, List.getElem?_cons_succ]
    rw [eraseF_get X r (k + 1) i]
    congr 2; funext o; congr 2; omega
theorem eraseF_length (X : List Nat) : ∀ (obs : Obs) (k : Nat), (eraseF X k obs).length = obs.length
  | [], _ => rfl
  | o :: r, k => by simp [eraseF, eraseF_length X r (k + 1)]
theorem mergeF_get (X : List Nat) : ∀ (obs obs' : Obs) (k i : Nat), obs.length ≤ obs'.length → (mergeF X k obs obs')[i]? = match obs[i]? with
    | some o => bif keptB X (k + i) o then obs'[i]? else some o
    | none => obs'[i]?
  | [], r', k, i, _ => by simp [mergeF]
  | o :: r, [], k, i, h => by simp at h
  | o :: r, o' :: r', k, 0, h => by
    simp only [mergeF, List.getElem?_cons_zero, Nat.add_zero]
    cases keptB X k o <;> rfl
  | o :: r, o' :: r', k, i + 1, h => by
    simp only [mergeF, List.getElem?_cons_succ]
    rw [mergeF_get X r r' (k + 1) i (by simpa using h)]
    rw [show k + 1 + i = k + (i + 1) by omega]
theorem mergeF_length (X : List Nat) : ∀ (obs obs' : Obs) (k : Nat), obs.length ≤ obs'.length → (mergeF X k obs obs').length = obs'.length
  | [], r', k, _ => by simp [mergeF]
  | o :: r, [], k, h => by simp at h
  | o :: r, o' :: r', k, h => by simp [mergeF, mergeF_length X r r' (k + 1) (by simpa using h)]
def Hid (w : World) (A : List Value) (obs : Obs) (X : List Nat) (b : Nat) : Prop := ∃ (id : Nat) (o : Ob) (v : Value), obs[id]? = some o ∧ keptB X id o = false ∧ A[id]? = some v ∧ foot w o v b
theorem keptB_false {X : List Nat} {i : Nat} {o : Ob} (h : keptB X i o = false) : o.isOpen = true ∧ i ∉ X := by
  simp only [keptB, Bool.or_eq_false_iff, Bool.not_eq_false', openB_eq] at h
  exact ⟨h.2, fun hm => by rw [(memN_iff X i).2 hm] at h; exact absurd h.1 (by simp)⟩
theorem erase_some {X : List Nat} {i : Nat} {x : Ob} (h : (eraseF X 0 obs)[i]? = some x) (hg : x.isGone = false) : obs[i]? = some x ∧ keptB X i x = true := by
  rw [eraseF_get] at h
  cases ho : obs[i]? with
  | none => rw [ho] at h; simp at h
  | some o =>
    rw [ho] at h
    simp only [Option.map_some, Nat.zero_add, Option.some.injEq] at h
    cases hk : keptB X i o with
    | true => rw [hk] at h; simp only [cond_true] at h; subst h; exact ⟨rfl, hk⟩
    | false => rw [hk] at h; simp only [cond_false] at h; subst h; simp [Ob.isGone] at hg
theorem open_not_gone {o : Ob} (h : o.isOpen = true) : o.isGone = false := by cases o <;> simp_all [Ob.isOpen, Ob.isGone]
theorem erase_ok {X : List Nat} (b : Nat) (k : Ok N A obs w b) : Ok (fun b => N b ∨ Hid w A obs X b) A (eraseF X 0 obs) w b :=
  ⟨k.lt, fun h => h.elim k.notN fun ⟨id, o, v, h1, h2, h3, h4⟩ => k.apart id o v h1 h3 (keptB_false h2).1 h4, fun id o v h1 h2 h3 h4 => k.apart id o v (erase_some h1 (open_not_gone h3)).1 h2 h3 h4⟩
theorem erase_mono {X : List Nat} : Mono (Ok N A obs w) (Ok (fun b => N b ∨ Hid w A obs X b) A (eraseF X 0 obs) w) A A w w := ⟨fun _ _ h => h, erase_ok, fun _ _ => rfl⟩
theorem St.erase (h : St C N s0 n0 A obs w) (X : List Nat) : St C (fun b => N b ∨ Hid w A obs X b) s0 n0 A (eraseF X 0 obs) w := by
  refine ⟨by rw [eraseF_length]; exact h.len, h.base, h.one, ?_, ?_, ?_, ?_, ?_⟩
  · intro id t cs sh v h1 h2
    obtain ⟨g, cur, e, hg, hl, h1⟩ := h.box id t cs sh v (erase_some h1 rfl).1 h2
    exact ⟨g, cur, e, hg, BoxR.mono erase_mono cs hl, h1⟩
  · intro id t n cs sh v h1 h2
    obtain ⟨ti, vs, ht, hp, hown, hl, h1⟩ := h.row id t n cs sh v (erase_some h1 rfl).1 h2
    exact ⟨ti, vs, ht, hp, hown, RlL.mono erase_mono.nil cs hl, h1⟩
  · intro id h0 t n cs v h1 h2
    exact (h.nrow id h0 t n cs v (erase_some h1 rfl).1 h2).same (fun _ _ h => h) fun _ _ => rfl
  · intro i j o o' v v' b h1 h2 g1 g2 h3 h4 h5 h6
    exact h.inj i j o o' v v' b (erase_some h1 g1).1 (erase_some h2 g2).1 g1 g2 h3 h4 h5 h6
  · intro id o v b h0 h1 hg h2 h3
    obtain ⟨q1, q2⟩ := erase_some h1 hg
    obtain ⟨q3, q4⟩ := h.new id o v b h0 q1 hg h2 h3
    refine ⟨q3, fun hn => hn.elim q4 fun ⟨id', o', v', k1, k2, k3, k4⟩ => ?_⟩
    have := h.inj id id' o o' v v' b q1 k1 hg (open_not_gone (keptB_false k2).1) h2 k3 h3 k4
    subst this
    rw [q1] at k1; cases k1
    rw [q2] at k2; cases k2
theorem After.merge (h : St C N s0 0 A obs w) {X : List Nat} {obsE' : Obs} (k : After C (fun b => N b ∨ Hid w A obs X b) s0 0 A (eraseF X 0 obs) w A' obsE' w') : After C N s0 0 A obs w A' (mergeF X 0 obs obsE') w' := by
  have hS := h.erase X
  have hlen : obs.length ≤ obsE'.length := by have := k.n0_le hS; rwa [eraseF_length] at this
  have split : ∀ (i : Nat) (x : Ob), (mergeF X 0 obs obsE')[i]? = some x → obsE'[i]? = some x ∨ (obs[i]? = some x ∧ keptB X i x = false) := by
    intro i x hx
    rw [mergeF_get X obs obsE' 0 i hlen] at hx
    cases ho : obs[i]? with
    | none => rw [ho] at hx; exact .inl hx
    | some o =>
      rw [ho] at hx
      simp only [Nat.zero_add] at hx
      cases hk : keptB X i o with
      | true => rw [hk] at hx; exact .inl hx
      | false => rw [hk] at hx; simp at hx; subst hx; exact .inr ⟨rfl, hk⟩
  have hid : ∀ (i : Nat) (x : Ob) (v : Value) (b : Nat), obs[i]? = some x → keptB X i x = false → A[i]? = some v → foot w x v b → w'.heap[b]? = w.heap[b]? := by
    intro i x v b h1 h2 h3 h4
    refine k.frame b (h.foot_lt h1 (open_not_gone (keptB_false h2).1) h3 h4) ?_
    rintro ⟨j, o, v', k1, k2, k3, k4⟩
    obtain ⟨q1, q2⟩ := erase_some k1 (open_not_gone k3)
    have := h.inj i j x o v v' b h1 q1 (open_not_gone (keptB_false h2).1) (open_not_gone k3) h3 k2 h4 k4
    subst this
    rw [h1] at q1; cases q1
    rw [h2] at q2; cases q2
  have hidf : ∀ {i : Nat} {x : Ob} {v : Value} {b : Nat}, obs[i]? = some x → keptB X i x = false → A[i]? = some v → (foot w' x v b ↔ foot w x v b) := fun h1 h2 h3 => foot_same (fun b hb => hid _ _ _ b h1 h2 h3 hb) _
  have preV : ∀ (i : Nat) (x : Ob) (v : Value), obs[i]? = some x → A'[i]? = some v → A[i]? = some v := by
    intro i x v h1 h2
    have hi : i < A.length := by rw [h.len]; exact (List.getElem?_eq_some_iff.1 h1).1
    have := k.mono.pre i A[i] (List.getElem?_eq_getElem hi)
    rw [this] at h2; cases h2
    exact List.getElem?_eq_getElem hi
  have hok' : ∀ b, Ok (fun b => N b ∨ Hid w A obs X b) A' obsE' w' b → Ok N A' (mergeF X 0 obs obsE') w' b := fun b q => ⟨q.lt, fun hn => q.notN (.inl hn), fun id o v h1 h2 h3 h4 => by
    rcases split id o h1 with h5 | ⟨h5, h6⟩
    · exact q.apart id o v h5 h2 h3 h4
    · exact q.notN (.inr ⟨id, o, v, h5, h6, preV id o v h5 h2, (hidf h5 h6 (preV id o v h5 h2)).1 h4⟩)⟩
  have hm : Mono (Ok N A obs w) (Ok N A' (mergeF X 0 obs obsE') w') A A' w w' := ⟨k.mono.pre, fun b q => hok' b (k.mono.grow b (erase_ok b q)), fun b q => k.mono.blk b (erase_ok b q)⟩
  have hm' : Mono (Ok (fun b => N b ∨ Hid w A obs X b) A' obsE' w') (Ok N A' (mergeF X 0 obs obsE') w') A' A' w' w' := ⟨fun _ _ h => h, hok', fun _ _ => rfl⟩
  refine ⟨⟨by rw [mergeF_length X obs obsE' 0 hlen]; exact k.st.len, k.st.base, k.st.one, ?_, ?_, ?_, ?_, ?_⟩, hm, ?_, ?_, k.size, k.os, k.tape, k.output⟩
  · intro id t cs sh v h1 h2
    rcases split id _ h1 with h5 | ⟨h5, h6⟩
    · obtain ⟨g, cur, e, hg, hl, h1⟩ := k.st.box id t cs sh v h5 h2
      exact ⟨g, cur, e, hg, BoxR.mono hm' cs hl, h1⟩
    · have hv := preV id _ v h5 h2
      obtain ⟨g, cur, e, hg, hl, h1⟩ := h.box id t cs sh v h5 hv
      exact ⟨g, cur, e, by rw [hid id _ v g h5 h6 hv (.inl (by rw [e]; rfl))]; exact hg, BoxR.mono hm cs hl, h1⟩
  · intro id t n cs sh v h1 h2
    rcases split id _ h1 with h5 | ⟨h5, h6⟩
    · obtain ⟨ti, vs, ht, hp, hown, hl, h1⟩ := k.st.row id t n cs sh v h5 h2
      exact ⟨ti, vs, ht, hp, hown, RlL.mono hm'.nil cs hl, h1⟩
    · have hv := preV id _ v h5 h2
      obtain ⟨ti, vs, ht, hp, hown, hl, h1⟩ := h.row id t n cs sh v h5 hv
      exact ⟨ti, vs, ht, hp, ownsRow_keep hown (fun b hb => hid id _ v b h5 h6 hv (.inl hb)), RlL.mono hm.nil cs hl, h1⟩
  · intro id h0 t n cs v h1 h2
    rcases split id _ h1 with h5 | ⟨h5, h6⟩
    · exact (k.st.nrow id h0 t n cs v h5 h2).same (fun _ _ h => h) fun _ _ => rfl
    · have hv := preV id _ v h5 h2
      exact (h.nrow id h0 t n cs v h5 hv).same hm.pre fun b hb => hid id _ v b h5 h6 hv hb
  ·
    have cross : ∀ (i j : Nat) (o o' : Ob) (v v' : Value) (b : Nat), obsE'[i]? = some o → o.isGone = false → A'[i]? = some v → obs[j]? = some o' → keptB X j o' = false → A[j]? = some v' → foot w' o v b → foot w o' v' b → i = j := by
      intro i j o o' v v' b h1 h2 h3 h4 h5 h6 h7 h8
      exact absurd (Or.inr ⟨j, o', v', h4, h5, h6, h8⟩) (k.st.new i o v b (.inl (Nat.zero_le _)) h1 h2 h3 h7).2
    intro i j o o' v v' b h1 h2 g1 g2 h3 h4 h5 h6
    rcases split i o h1 with a1 | ⟨a1, a2⟩
    · rcases split j o' h2 with b1 | ⟨b1, b2⟩
      · exact k.st.inj i j o o' v v' b a1 b1 g1 g2 h3 h4 h5 h6
      · exact cross i j o o' v v' b a1 g1 h3 b1 b2 (preV j o' v' b1 h4) h5 ((hidf b1 b2 (preV j o' v' b1 h4)).1 h6)
    · rcases split j o' h2 with b1 | ⟨b1, b2⟩
      · exact (cross j i o' o v' v b b1 g2 h4 a1 a2 (preV i o v a1 h3) h6 ((hidf a1 a2 (preV i o v a1 h3)).1 h5)).symm
      · exact h.inj i j o o' v v' b a1 b1 g1 g2 (preV i o v a1 h3) (preV j o' v' b1 h4) ((hidf a1 a2 (preV i o v a1 h3)).1 h5) ((hidf b1 b2 (preV j o' v' b1 h4)).1 h6)
  · intro id o v b h0 h1 hg h2 h3
    rcases split id o h1 with h5 | ⟨h5, h6⟩
    · obtain ⟨q1, q2⟩ := k.st.new id o v b h0 h5 hg h2 h3
      exact ⟨q1, fun hn => q2 (.inl hn)⟩
    · exact h.new id o v b h0 h5 hg (preV id o v h5 h2) ((hidf h5 h6 (preV id o v h5 h2)).1 h3)
  · intro b hb hno
    refine k.frame b hb fun ⟨id, o, v, h1, h2, h3, h4⟩ => hno ⟨id, o, v, (erase_some h1 (open_not_gone h3)).1, h2, h3, h4⟩
  · rintro b hb ⟨id, o, v, h1, h2, h3, h4⟩
    rcases split id o h1 with h5 | ⟨h5, h6⟩
    · obtain ⟨id', o', v', q1, q2, q3, q4⟩ := k.opens b hb ⟨id, o, v, h5, h2, h3, h4⟩
      exact ⟨id', o', v', (erase_some q1 (open_not_gone q3)).1, q2, q3, q4⟩
    · exact ⟨id, o, v, h5, preV id o v h5 h2, h3, (hidf h5 h6 (preV id o v h5 h2)).1 h4⟩
end
end Go.PI
