/-
  PI: rows that own what lies in them: moved, taken out, put back.
-/
import Derived.Test.YtodapaplfjfnlaaGreatPIRel
namespace Go.PI
open Go
set_option linter.unusedVariables false
set_option linter.unusedSimpArgs false
section
variable {C : Cfg} {N : Nat → Prop} {s0 n0 : Nat} {A A' : List Value} {obs obs' : Obs} {w w' : World}
theorem RowL.length : ∀ {xs : List V} {vs : List Value}, RowL w xs vs → xs.length = vs.length
  | [], [], _ => rfl
  | _ :: _, _ :: _, h => by simp only [RowL] at h; simp [RowL.length h.2]
  | [], _ :: _, h => by simp [RowL] at h
  | _ :: _, [], h => by simp [RowL] at h
theorem footL_iff : ∀ (xs : List V) (vs : List Value) (b : Nat), footL w xs vs b ↔ ∃ (i : Nat) (x : V) (v : Value), xs[i]? = some x ∧ vs[i]? = some v ∧ footC w x v b
  | [], vs, b => by simp [footL]
  | x :: xs, [], b => by simp [footL]
  | x :: xs, v :: vs, b => by
    simp only [footL]
    rw [footL_iff xs vs b]
    constructor
    · rintro (h | ⟨i, y, u, h1, h2, h3⟩)
      · exact ⟨0, x, v, rfl, rfl, h⟩
      · exact ⟨i + 1, y, u, by simpa using h1, by simpa using h2, h3⟩
    · rintro ⟨i, y, u, h1, h2, h3⟩
      cases i with
      | zero => simp at h1 h2; subst h1; subst h2; exact .inl h3
      | succ i => exact .inr ⟨i, y, u, by simpa using h1, by simpa using h2, h3⟩
theorem sepL_iff : ∀ (xs : List V) (vs : List Value), sepL w xs vs ↔ ∀ (i j : Nat) (x y : V) (v u : Value) (b : Nat), i < j → xs[i]? = some x → vs[i]? = some v → xs[j]? = some y → vs[j]? = some u → footC w x v b → ¬ footC w y u b
  | [], vs => by simp [sepL]
  | x :: xs, [] => by simp [sepL]
  | x :: xs, v :: vs => by
    simp only [sepL]
    rw [sepL_iff xs vs]
    constructor
    · rintro ⟨h1, h2⟩ i j y z p q b hij e1 e2 e3 e4 f1 f2
      cases j with
      | zero => omega
      | succ j =>
        cases i with
        | zero =>
          simp at e1 e2; subst e1; subst e2
          exact h1 b f1 ((footL_iff _ _ _).2 ⟨j, z, q, by simpa using e3, by simpa using e4, f2⟩)
        | succ i => exact h2 i j y z p q b (by omega) (by simpa using e1) (by simpa using e2) (by simpa using e3) (by simpa using e4) f1 f2
    · intro h
      refine ⟨fun b f1 f2 => ?_, fun i j y z p q b hij e1 e2 e3 e4 f1 => h (i + 1) (j + 1) y z p q b (by omega) (by simpa using e1) (by simpa using e2) (by simpa using e3) (by simpa using e4) f1⟩
      obtain ⟨j, z, q, e3, e4, f3⟩ := (footL_iff _ _ _).1 f2
      exact h 0 (j + 1) x z v q b (by omega) rfl rfl (by simpa using e3) (by simpa using e4) f1 f3
theorem RowL_iff : ∀ (xs : List V) (vs : List Value), RowL w xs vs ↔ xs.length = vs.length ∧ ∀ (i : Nat) (x : V) (v : Value), xs[i]? = some x → vs[i]? = some v → RowC w x v
  | [], [] => by simp [RowL]
  | [], _ :: _ => by simp [RowL]
  | _ :: _, [] => by simp [RowL]
  | x :: xs, v :: vs => by
    simp only [RowL]
    rw [RowL_iff xs vs]
    constructor
    · rintro ⟨h1, h2, h3⟩
      refine ⟨by simp [h2], fun i y u e1 e2 => ?_⟩
      cases i with
      | zero => simp at e1 e2; subst e1; subst e2; exact h1
      | succ i => exact h3 i y u (by simpa using e1) (by simpa using e2)
    · rintro ⟨h1, h2⟩
      exact ⟨h2 0 x v rfl rfl, by simpa using h1, fun i y u e1 e2 => h2 (i + 1) y u (by simpa using e1) (by simpa using e2)⟩
theorem sepL.ne {xs : List V} {vs : List Value} (h : sepL w xs vs) {i j : Nat} {x y : V} {v u : Value} {b : Nat} (hij : i ≠ j) (h1 : xs[i]? = some x) (h2 : vs[i]? = some v) (h3 : xs[j]? = some y) (h4 : vs[j]? = some u) (f1 : footC w x v b) (f2 : footC w y u b) : False := by
  rcases Nat.lt_or_gt_of_ne hij with hlt | hlt
  · exact (sepL_iff _ _).1 h i j x y v u b hlt h1 h2 h3 h4 f1 f2
  · exact (sepL_iff _ _).1 h j i y x u v b hlt h3 h4 h1 h2 f2 f1
theorem footC_flat {x : V} {v : Value} (h : Rl [] NoB w x v) (b : Nat) : ¬ footC w x v b := by
  cases x <;> simp_all [footC, Rl]
theorem RowC_flat {x : V} {v : Value} (h : Rl [] NoB w x v) : RowC w x v := by
  cases x <;> simp_all [RowC, Rl]
theorem RowL_flat : ∀ {xs : List V} {vs : List Value}, RlL [] NoB w xs vs → RowL w xs vs ∧ sepL w xs vs ∧ ∀ b, ¬ footL w xs vs b
  | [], [], _ => by simp [RowL, sepL, footL]
  | [], _ :: _, h => by simp [RlL] at h
  | _ :: _, [], h => by simp [RlL] at h
  | x :: xs, v :: vs, h => by
    simp only [RlL] at h
    obtain ⟨h1, h2, h3⟩ := RowL_flat h.2
    refine ⟨⟨RowC_flat h.1, h1⟩, ⟨fun b hb => (footC_flat h.1 b hb).elim, h2⟩, fun b hb => ?_⟩
    simp only [footL] at hb
    rcases hb with hb | hb
    · exact footC_flat h.1 b hb
    · exact h3 b hb
theorem cellsOf_own {t sz n : Nat} {v : Value} {vs : List Value} (h : w.ownsRow 0 t sz v n vs) : cellsOf w v vs.length = vs := by
  obtain ⟨q1, q2⟩ := h
  rcases q2 with ⟨rfl, rfl⟩ | ⟨g, cap, cur, rfl, _, q5, q6, q7, q8, q9⟩
  · have : vs = [] := List.length_eq_zero_iff.1 (by rw [q1]; simp)
    subst this; rfl
  · simp only [cellsOf]
    rw [q5]
    dsimp only
    rw [q1]; exact q9
theorem foot_block' {o : Ob} {v : Value} {b : Nat} (h : foot w o v b) : ∃ b', blockOf v = some b' := by
  rcases h with h | h
  · exact ⟨b, h⟩
  · cases o with
    | nrow hs t n cs =>
      dsimp only at h
      unfold cellsOf at h
      split at h
      · exact ⟨_, rfl⟩
      · obtain ⟨i, x, u, _, h2, _⟩ := (footL_iff _ _ _).1 h
        simp at h2
    | gone => exact h.elim
    | box => exact h.elim
    | row => exact h.elim
theorem NRow_nil {e : Nat} {te : TI} (h1 : C.ty e = some te) (h2 : 0 < te.size) : NRow C A w [] e 0 [] (.slice none 0 0) :=
  ⟨te, h1, h2, ⟨by simp [cellsOf], .inl ⟨rfl, rfl⟩⟩, by simp [plug, cellsOf, RowL], by simp [cellsOf], by simp [plug, sepL], by simp [blockOf], by simp⟩
theorem plug_get {x : Nat} : ∀ (h : List (Nat × Nat)) (cs : List V), holeAt x h = false → (plug h cs)[x]? = cs[x]?
  | [], cs, _ => rfl
  | p :: h, cs, hx => by
    simp only [holeAt, Bool.or_eq_false_iff] at hx
    have : p.1 ≠ x := fun e => by rw [e, Nat.beq_refl] at hx; cases hx.1
    simp only [plug]
    rw [List.getElem?_set_ne this, plug_get h cs hx.2]
theorem plug_set {x : Nat} (y : V) : ∀ (h : List (Nat × Nat)) (cs : List V), holeAt x h = false → plug h (cs.set x y) = (plug h cs).set x y
  | [], cs, _ => rfl
  | p :: h, cs, hx => by
    simp only [holeAt, Bool.or_eq_false_iff] at hx
    have : p.1 ≠ x := fun e => by rw [e, Nat.beq_refl] at hx; cases hx.1
    simp only [plug]
    rw [plug_set y h cs hx.2, List.set_comm _ _ (Ne.symm this)]
theorem St.remake (h : St C N s0 n0 A obs w) (D : Nat → Prop) (hD : ∀ j, D j → ∃ o v, obs[j]? = some o ∧ A[j]? = some v ∧ o.isOpen = true ∧ o.isRow = true)
    {o2 : Ob} {v' : Value} (p : Nat) (hlen : A'.length = obs'.length) (pre : ∀ (i : Nat) (x : Value), A[i]? = some x → A'[i]? = some x) (hone : ∀ (i : Nat) (y : Value), A'[i]? = some y → Place y)
    (split : ∀ (j : Nat) (x : Ob) (y : Value), obs'[j]? = some x → A'[j]? = some y → (¬ D j ∧ obs[j]? = some x ∧ A[j]? = some y) ∨ x = .gone ∨ (j = p ∧ x = o2 ∧ y = v'))
    (hop2 : o2.isOpen = true) (hrw2 : o2.isRow = true)
    (hs : w.heap.size ≤ w'.heap.size) (hk : ∀ b, b < w.heap.size → (∀ (j : Nat) (o : Ob) (v : Value), D j → obs[j]? = some o → A[j]? = some v → ¬ foot w o v b) → w'.heap[b]? = w.heap[b]?) (hos : w'.os = w.os) (ht : w'.tape = w.tape) (hu : w'.output = w.output)
    (hb : ∀ b, foot w' o2 v' b → (∃ (j : Nat) (o : Ob) (v : Value), D j ∧ obs[j]? = some o ∧ A[j]? = some v ∧ foot w o v b) ∨ w.heap.size ≤ b ∧ ¬ N b)
    (hrow : ∀ t n cs sh, o2 = .row t n cs sh → ∃ ti vs, C.ty t = some ti ∧ 0 < ti.size ∧ w'.ownsRow 0 t ti.size v' n vs ∧ RlL [] (Ok N A obs w) w cs vs ∧ ∀ x ∈ vs, x.oneCell' = true)
    (hnrow : ∀ h t n cs, o2 = .nrow h t n cs → NRow C A' w' h t n cs v') :
    After C N s0 n0 A obs w A' obs' w' := by
  have other : ∀ (j : Nat) (x : Ob) (y : Value) (b : Nat), ¬ D j → obs[j]? = some x → x.isGone = false → A[j]? = some y → foot w x y b → w'.heap[b]? = w.heap[b]? := fun j x y b hj h1 h2 h3 h4 =>
    hk b (h.foot_lt h1 h2 h3 h4) fun d o v hd ho hv hf => by
      obtain ⟨o0, v0, q1, q2, q3, _⟩ := hD d hd
      rw [ho] at q1; cases q1
      have := h.inj j d x o y v b h1 ho h2 (open_gone q3) h3 hv h4 hf
      exact hj (by rw [this]; exact hd)
  have same : ∀ {j : Nat} {x : Ob} {v' : Value} {b : Nat}, ¬ D j → obs[j]? = some x → x.isGone = false → A[j]? = some v' → (foot w' x v' b ↔ foot w x v' b) := fun hj h1 h2 h3 => foot_same (fun b hb => other _ _ _ b hj h1 h2 h3 hb) _
  have dead : ∀ {b : Nat}, (∃ (j : Nat) (o : Ob) (v : Value), D j ∧ obs[j]? = some o ∧ A[j]? = some v ∧ foot w o v b) → ∃ (j : Nat) (o : Ob) (v : Value), D j ∧ obs[j]? = some o ∧ A[j]? = some v ∧ foot w o v b ∧ o.isOpen = true ∧ o.isRow = true := fun ⟨j, o, v, q1, q2, q3, q4⟩ => by
    obtain ⟨o0, v0, p1, p2, p3, p4⟩ := hD j q1
    rw [q2] at p1; cases p1
    exact ⟨j, o, v, q1, q2, q3, q4, p3, p4⟩
  have hok : ∀ b, Ok N A obs w b → Ok N A' obs' w' b := fun b k => ⟨Nat.lt_of_lt_of_le k.lt hs, k.notN, fun j x y h1 h2 h3 h4 => by
    rcases split j x y h1 h2 with ⟨e, h5, h6⟩ | hx | ⟨_, rfl, rfl⟩
    · exact k.apart j x y h5 h6 h3 ((same e h5 (open_gone h3) h6).1 h4)
    · subst hx; simp [Ob.isOpen] at h3
    · rcases hb b h4 with h7 | h7
      · obtain ⟨d, o, v, _, q2, q3, q4, q5, _⟩ := dead h7
        exact k.apart d o v q2 q3 q5 q4
      · have := k.lt; omega⟩
  have hm : Mono (Ok N A obs w) (Ok N A' obs' w') A A' w w' :=
    ⟨pre, hok, fun b k => hk b k.lt fun j o v hd ho hv hf => by
      obtain ⟨o0, v0, p1, p2, p3, p4⟩ := hD j hd
      rw [ho] at p1; cases p1
      exact k.apart j o v ho hv p3 hf⟩
  refine ⟨⟨hlen, Nat.le_trans h.base hs, hone, ?_, ?_, ?_, ?_, ?_⟩, hm, fun b hb' hno => hk b hb' fun j o v hd ho hv hf => ?_, ?_, hs, hos, ht, hu⟩
  · intro j t1 cs1 sh1 y h1 h2
    rcases split j _ y h1 h2 with ⟨e, h5, h6⟩ | e | ⟨_, e, _⟩
    · obtain ⟨g', cur, e', hg, hl, h1⟩ := h.box j t1 cs1 sh1 y h5 h6
      exact ⟨g', cur, e', by rw [other j _ y g' e h5 rfl h6 (.inl (by rw [e']; rfl))]; exact hg, BoxR.mono hm cs1 hl, h1⟩
    · cases e
    · rw [← e] at hrw2; cases hrw2
  · intro j t1 n1 cs1 sh1 y h1 h2
    rcases split j _ y h1 h2 with ⟨e, h5, h6⟩ | e | ⟨_, e, rfl⟩
    · obtain ⟨ti, vs, ht, hp, hown, hl, h1⟩ := h.row j t1 n1 cs1 sh1 y h5 h6
      exact ⟨ti, vs, ht, hp, ownsRow_keep hown (fun b hb' => other j _ y b e h5 rfl h6 (.inl hb')), RlL.mono hm.nil cs1 hl, h1⟩
    · cases e
    · obtain ⟨ti, vs, ht, hp, hown, hl, h1⟩ := hrow _ _ _ _ e.symm
      exact ⟨ti, vs, ht, hp, hown, RlL.mono hm.nil _ hl, h1⟩
  · intro j h0 t1 n1 cs1 y h1 h2
    rcases split j _ y h1 h2 with ⟨e, h5, h6⟩ | e | ⟨_, e, rfl⟩
    · exact (h.nrow j h0 t1 n1 cs1 y h5 h6).same pre fun b hb' => other j _ y b e h5 rfl h6 hb'
    · cases e
    · exact hnrow _ _ _ _ e.symm
  · intro i j p1 p2 v1 v2 b h1 h2 g1 g2 h3 h4 h5 h6
    rcases split i _ _ h1 h3 with ⟨a0, a1, a2⟩ | a1 | ⟨a1, rfl, rfl⟩
    · rcases split j _ _ h2 h4 with ⟨b0, b1, b2⟩ | b1 | ⟨b1, rfl, rfl⟩
      · exact h.inj i j p1 p2 v1 v2 b a1 b1 g1 g2 a2 b2 ((same a0 a1 g1 a2).1 h5) ((same b0 b1 g2 b2).1 h6)
      · subst b1; simp [Ob.isGone] at g2
      · have h5 := (same a0 a1 g1 a2).1 h5
        rcases hb b h6 with h7 | h7
        · obtain ⟨d, o, v, q1, q2, q3, q4, q5, _⟩ := dead h7
          have := h.inj i d p1 o v1 v b a1 q2 g1 (open_gone q5) a2 q3 h5 q4
          exact absurd (by rw [this]; exact q1) a0
        · have := h.foot_lt a1 g1 a2 h5; omega
    · subst a1; simp [Ob.isGone] at g1
    · rcases split j _ _ h2 h4 with ⟨b0, b1, b2⟩ | b1 | ⟨b1, _, _⟩
      · have h6 := (same b0 b1 g2 b2).1 h6
        rcases hb b h5 with h7 | h7
        · obtain ⟨d, o, v, q1, q2, q3, q4, q5, _⟩ := dead h7
          have := h.inj j d p2 o v2 v b b1 q2 g2 (open_gone q5) b2 q3 h6 q4
          exact absurd (by rw [this]; exact q1) b0
        · have := h.foot_lt b1 g2 b2 h6; omega
      · subst b1; simp [Ob.isGone] at g2
      · omega
  · intro j x y b h0 h1 g h2 h3
    rcases split j _ _ h1 h2 with ⟨a0, a1, a2⟩ | a1 | ⟨a1, rfl, rfl⟩
    · exact h.new j x y b h0 a1 g a2 ((same a0 a1 g a2).1 h3)
    · subst a1; simp [Ob.isGone] at g
    · rcases hb b h3 with h7 | h7
      · obtain ⟨d, o, v, q1, q2, q3, q4, q5, q6⟩ := dead h7
        exact h.new d o v b (.inr q6) q2 (open_gone q5) q3 q4
      · have := h.base; exact ⟨by omega, h7.2⟩
  · obtain ⟨o0, v0, p1, p2, p3, p4⟩ := hD j hd
    rw [ho] at p1; cases p1
    exact hno ⟨j, o, v, ho, hv, p3, hf⟩
  · rintro b hb' ⟨j, x, y, h1, h2, h3, h4⟩
    rcases split j _ _ h1 h2 with ⟨a0, a1, a2⟩ | a1 | ⟨a1, rfl, rfl⟩
    · exact ⟨j, x, y, a1, a2, h3, (same a0 a1 (open_gone h3) a2).1 h4⟩
    · subst a1; simp [Ob.isOpen] at h3
    · rcases hb b h4 with h7 | h7
      · obtain ⟨d, o, v, _, q2, q3, q4, q5, _⟩ := dead h7
        exact ⟨d, o, v, q2, q3, q5, q4⟩
      · omega
theorem St.ghost (h : St C N s0 n0 A obs w) (hlen : A'.length = obs'.length) (pre : ∀ (i : Nat) (x : Value), A[i]? = some x → A'[i]? = some x) (hone : ∀ (i : Nat) (y : Value), A'[i]? = some y → Place y)
    (hf : ∀ (j : Nat) (x : Ob) (y : Value) (b : Nat), obs'[j]? = some x → A'[j]? = some y → x.isGone = false → foot w x y b → ∃ (i : Nat) (o : Ob) (v : Value), obs[i]? = some o ∧ A[i]? = some v ∧ o.isGone = false ∧ foot w o v b ∧ (x.isOpen = true → o.isOpen = true) ∧ ((n0 ≤ j ∨ x.isRow = true) → n0 ≤ i ∨ o.isRow = true))
    (hinj : ∀ (i j : Nat) (o o' : Ob) (v v' : Value) (b : Nat), obs'[i]? = some o → obs'[j]? = some o' → o.isGone = false → o'.isGone = false → A'[i]? = some v → A'[j]? = some v' → foot w o v b → foot w o' v' b → i = j)
    (hbox : ∀ (j t : Nat) (cs : List V) (sh : Bool) (y : Value), obs'[j]? = some (.box t cs sh) → A'[j]? = some y → obs[j]? = some (.box t cs sh) ∧ A[j]? = some y)
    (hrow : ∀ (j t n : Nat) (cs : List V) (sh : Bool) (y : Value), obs'[j]? = some (.row t n cs sh) → A'[j]? = some y → (obs[j]? = some (.row t n cs sh) ∧ A[j]? = some y) ∨ ∃ ti vs, C.ty t = some ti ∧ 0 < ti.size ∧ w.ownsRow 0 t ti.size y n vs ∧ RlL [] (Ok N A obs w) w cs vs ∧ ∀ x ∈ vs, x.oneCell' = true)
    (hnrow : ∀ (j : Nat) (hs : List (Nat × Nat)) (t n : Nat) (cs : List V) (y : Value), obs'[j]? = some (.nrow hs t n cs) → A'[j]? = some y → (obs[j]? = some (.nrow hs t n cs) ∧ A[j]? = some y) ∨ NRow C A' w hs t n cs y) :
    After C N s0 n0 A obs w A' obs' w := by
  have hok : ∀ b, Ok N A obs w b → Ok N A' obs' w b := fun b k => ⟨k.lt, k.notN, fun j x y h1 h2 h3 h4 => by
    obtain ⟨i, o, v, q1, q2, q3, q4, q5, _⟩ := hf j x y b h1 h2 (open_gone h3) h4
    exact k.apart i o v q1 q2 (q5 h3) q4⟩
  have hm : Mono (Ok N A obs w) (Ok N A' obs' w) A A' w w := ⟨pre, hok, fun _ _ => rfl⟩
  refine ⟨⟨hlen, h.base, hone, ?_, ?_, ?_, hinj, ?_⟩, hm, fun _ _ _ => rfl, ?_, Nat.le_refl _, rfl, rfl, rfl⟩
  · intro j t cs sh y h1 h2
    obtain ⟨h5, h6⟩ := hbox j t cs sh y h1 h2
    obtain ⟨g', cur, e', hg, hl, h1⟩ := h.box j t cs sh y h5 h6
    exact ⟨g', cur, e', hg, BoxR.mono hm cs hl, h1⟩
  · intro j t n cs sh y h1 h2
    rcases hrow j t n cs sh y h1 h2 with ⟨h5, h6⟩ | ⟨ti, vs, q1, q2, q3, q4, q5⟩
    · obtain ⟨ti, vs, ht, hp, hown, hl, h1⟩ := h.row j t n cs sh y h5 h6
      exact ⟨ti, vs, ht, hp, hown, RlL.mono hm.nil cs hl, h1⟩
    · exact ⟨ti, vs, q1, q2, q3, RlL.mono hm.nil cs q4, q5⟩
  · intro j hs t n cs y h1 h2
    rcases hnrow j hs t n cs y h1 h2 with ⟨h5, h6⟩ | q
    · exact (h.nrow j hs t n cs y h5 h6).same pre fun _ _ => rfl
    · exact q
  · intro j x y b h0 h1 hg h2 h3
    obtain ⟨i, o, v, q1, q2, q3, q4, q5, q6⟩ := hf j x y b h1 h2 hg h3
    exact h.new i o v b (q6 h0) q1 q3 q2 q4
  · rintro b hb' ⟨j, x, y, h1, h2, h3, h4⟩
    obtain ⟨i, o, v, q1, q2, q3, q4, q5, _⟩ := hf j x y b h1 h2 (open_gone h3) h4
    exact ⟨i, o, v, q1, q2, q5 h3, q4⟩
theorem gset {β : Type} {l : List β} {i j : Nat} {x : β} (h : i < l.length) : (l.set i x)[j]? = if j = i then some x else l[j]? := by
  by_cases e : j = i
  · rw [if_pos e, e, List.getElem?_set_self h]
  · rw [if_neg e, List.getElem?_set_ne (Ne.symm e)]
theorem cell_swap {P : List V} {L : List Value} {off : Nat} {x y : V} {v : Value} (hx : P[off]? = some x) (hv : L[off]? = some v) (hR : RowL w P L) (hsep : sepL w P L)
    (hy : RowC w y v) (hfy : ∀ b, footC w y v b → footC w x v b ∨ ∀ (i : Nat) (z : V) (u : Value), i ≠ off → P[i]? = some z → L[i]? = some u → ¬ footC w z u b) :
    RowL w (P.set off y) L ∧ sepL w (P.set off y) L ∧ ∀ b, footL w (P.set off y) L b → footL w P L b ∨ footC w y v b := by
  have hlt := (List.getElem?_eq_some_iff.1 hx).1
  refine ⟨?_, ?_, ?_⟩
  · rw [RowL_iff] at hR ⊢
    refine ⟨by simpa using hR.1, fun i z u h1 h2 => ?_⟩
    rw [gset hlt] at h1
    split at h1
    · rename_i e; subst e; cases h1; rw [hv] at h2; cases h2; exact hy
    · exact hR.2 i z u h1 h2
  · rw [sepL_iff]
    intro i j z z' u u' b hij h1 h2 h3 h4 f1 f2
    rw [gset hlt] at h1 h3
    split at h1
    · rename_i e; subst e; cases h1; rw [hv] at h2; cases h2
      split at h3
      · omega
      · rcases hfy b f1 with f | f
        · exact hsep.ne (by omega) hx hv h3 h4 f f2
        · exact f j z' u' (by omega) h3 h4 f2
    · split at h3
      · rename_i e; subst e; cases h3; rw [hv] at h4; cases h4
        rcases hfy b f2 with f | f
        · exact hsep.ne (by omega) h1 h2 hx hv f1 f
        · exact f i z u (by omega) h1 h2 f1
      · exact hsep.ne (by omega) h1 h2 h3 h4 f1 f2
  · intro b hb
    obtain ⟨i, z, u, h1, h2, h3⟩ := (footL_iff _ _ _).1 hb
    rw [gset hlt] at h1
    split at h1
    · rename_i e; subst e; cases h1; rw [hv] at h2; cases h2; exact .inr h3
    · exact .inl ((footL_iff _ _ _).2 ⟨i, z, u, h1, h2, h3⟩)
theorem St.unfold (h : St C N s0 n0 A obs w) {id : Nat} {hs : List (Nat × Nat)} {t n : Nat} {cs : List V} {v : Value} {off e sz m : Nat} {ne : Bool} {ics : List V} (ho : obs[id]? = some (.nrow hs t n cs)) (hv : A[id]? = some v)
    (hoff : holeAt off hs = false) (hc : cs[off]? = some (.own ne e sz m ics)) {te : TI} (hte : C.ty e = some te) (hsz : te.size = sz) {o2 : Ob} (ho2 : o2 = .nrow [] e m ics ∨ (o2 = .row e m ics false ∧ ne = false)) :
    ∃ x, (cellsOf w v cs.length)[off]? = some x ∧ After C N s0 n0 A obs w (A ++ [x]) (setOb obs id (.nrow ((off, obs.length) :: hs) t n cs) ++ [o2]) w := by
  obtain ⟨ti, h1, h2, h3, h4, h5, h6, h7, h8⟩ := h.nrow id hs t n cs v ho hv
  generalize hL : cellsOf w v cs.length = L at h3 h4 h5 h6 h7 h8
  have hP : (plug hs cs)[off]? = some (.own ne e sz m ics) := by rw [plug_get hs cs hoff]; exact hc
  have hlt : off < (plug hs cs).length := (List.getElem?_eq_some_iff.1 hP).1
  have hlL : off < L.length := by rw [← RowL.length h4]; exact hlt
  obtain ⟨x, hx⟩ : ∃ x, L[off]? = some x := ⟨_, List.getElem?_eq_getElem hlL⟩
  refine ⟨x, hx, ?_⟩
  have hC := ((RowL_iff _ _).1 h4).2 off _ x hP hx
  have hC' := hC
  simp only [RowC] at hC'
  obtain ⟨c1, c2, c3, c4, c5, c6, c7⟩ := hC'
  obtain ⟨s1, s2, s3⟩ := cell_swap (y := .u) hP hx h4 h6 (by simp only [RowC, Rl]) (fun b hb => by simp [footC] at hb)
  have s3' : ∀ b, footL w ((plug hs cs).set off .u) L b → footL w (plug hs cs) L b := fun b hb => (s3 b hb).resolve_right (by simp [footC])
  have s4 : ∀ b, footL w ((plug hs cs).set off .u) L b → ¬ footC w (.own ne e sz m ics) x b := fun b hb hf => by
    obtain ⟨i, z, u, k1, k2, k3⟩ := (footL_iff _ _ _).1 hb
    rw [gset hlt] at k1
    split at k1
    · cases k1; simp [footC] at k3
    · rename_i e0; exact h6.ne e0 k1 k2 hP hx k3 hf
  have hfo : ∀ b, foot w o2 x b → footC w (.own ne e sz m ics) x b := fun b hb => by
    simp only [footC]
    rcases ho2 with rfl | ⟨rfl, _⟩
    · exact hb
    · exact .inl ((foot_flat rfl).1 hb)
  have inF : ∀ b, footC w (.own ne e sz m ics) x b → footL w (plug hs cs) L b := fun b hb => (footL_iff _ _ _).2 ⟨off, _, x, hP, hx, hb⟩
  have pl : Place x := Place.of_own c2
  have hlen : (setOb obs id (.nrow ((off, obs.length) :: hs) t n cs)).length = obs.length := setOb_length _ _ _
  have hid : id < obs.length := (List.getElem?_eq_some_iff.1 ho).1
  have pre : ∀ (i : Nat) (y : Value), A[i]? = some y → (A ++ [x])[i]? = some y := fun i y hy => by
    rw [List.getElem?_append_left (List.getElem?_eq_some_iff.1 hy).1]; exact hy
  have split : ∀ (j : Nat) (o : Ob) (y : Value), (setOb obs id (.nrow ((off, obs.length) :: hs) t n cs) ++ [o2])[j]? = some o → (A ++ [x])[j]? = some y →
      (j ≠ id ∧ j < obs.length ∧ obs[j]? = some o ∧ A[j]? = some y) ∨ (j = id ∧ o = .nrow ((off, obs.length) :: hs) t n cs ∧ y = v) ∨ (j = obs.length ∧ o = o2 ∧ y = x) := by
    intro j o y k1 k2
    by_cases hj : j < obs.length
    · rw [List.getElem?_append_left (by rw [hlen]; exact hj), setOb_get] at k1
      rw [List.getElem?_append_left (by rw [h.len]; exact hj)] at k2
      by_cases e : j = id
      · rw [if_pos e, e, ho] at k1; simp at k1
        rw [e, hv] at k2; cases k2
        exact .inr (.inl ⟨e, k1.symm, rfl⟩)
      · rw [if_neg e] at k1; exact .inl ⟨e, hj, k1, k2⟩
    · rw [List.getElem?_append_right (by rw [hlen]; omega)] at k1
      rw [List.getElem?_append_right (by rw [h.len]; omega)] at k2
      rw [hlen] at k1; rw [h.len] at k2
      have e : j - obs.length = 0 := by
        have := (List.getElem?_eq_some_iff.1 k1).1
        simp at this; omega
      rw [e] at k1 k2
      simp at k1 k2
      exact .inr (.inr ⟨by omega, k1.symm, k2.symm⟩)
  have fid : ∀ b, foot w (.nrow ((off, obs.length) :: hs) t n cs) v b → foot w (.nrow hs t n cs) v b := fun b hb => by
    rcases hb with hb | hb
    · exact .inl hb
    · refine .inr ?_
      dsimp only at hb ⊢
      rw [hL] at hb ⊢
      exact s3' b hb
  have fnew : ∀ b, foot w o2 x b → foot w (.nrow hs t n cs) v b := fun b hb => .inr (by dsimp only; rw [hL]; exact inF b (hfo b hb))
  have apart : ∀ b, foot w (.nrow ((off, obs.length) :: hs) t n cs) v b → foot w o2 x b → False := fun b k1 k2 => by
    have f2 := hfo b k2
    rcases k1 with k1 | k1
    · exact h7 b k1 (inF b f2)
    · dsimp only at k1
      rw [hL] at k1
      exact s4 b k1 f2
  refine h.ghost (by simp [hlen, h.len]) pre ?_ ?_ ?_ ?_ ?_ ?_
  · intro i y hy
    by_cases hi : i < A.length
    · rw [List.getElem?_append_left hi] at hy; exact h.one i y hy
    · rw [List.getElem?_append_right (by omega)] at hy
      have e : i - A.length = 0 := by
        have := (List.getElem?_eq_some_iff.1 hy).1
        simp at this; omega
      rw [e] at hy; simp at hy; rw [← hy]; exact pl
  · intro j o y b k1 k2 k3 k4
    rcases split j o y k1 k2 with ⟨_, _, p1, p2⟩ | ⟨rfl, rfl, rfl⟩ | ⟨rfl, rfl, rfl⟩
    · exact ⟨j, o, y, p1, p2, k3, k4, fun h => h, fun h => h⟩
    · exact ⟨j, _, y, ho, hv, rfl, fid b k4, fun _ => rfl, fun _ => .inr rfl⟩
    · exact ⟨id, _, v, ho, hv, rfl, fnew b k4, fun _ => rfl, fun _ => .inr rfl⟩
  · intro i j p1 p2 v1 v2 b k1 k2 g1 g2 k3 k4 k5 k6
    rcases split i _ _ k1 k3 with ⟨a0, a1, a2, a3⟩ | ⟨a1, rfl, rfl⟩ | ⟨a1, rfl, rfl⟩
    · rcases split j _ _ k2 k4 with ⟨b0, b1, b2, b3⟩ | ⟨rfl, rfl, rfl⟩ | ⟨b1, rfl, rfl⟩
      · exact h.inj i j p1 p2 v1 v2 b a2 b2 g1 g2 a3 b3 k5 k6
      · exact absurd (h.inj i j p1 _ v1 v2 b a2 ho g1 rfl a3 hv k5 (fid b k6)) a0
      · exact absurd (h.inj i id p1 _ v1 v b a2 ho g1 rfl a3 hv k5 (fnew b k6)) a0
    · rcases split j _ _ k2 k4 with ⟨b0, b1, b2, b3⟩ | ⟨b1, _, _⟩ | ⟨b1, rfl, rfl⟩
      · exact absurd (h.inj j id p2 _ v2 v1 b b2 ho g2 rfl b3 hv k6 (fid b k5)) b0
      · omega
      · exact (apart b k5 k6).elim
    · rcases split j _ _ k2 k4 with ⟨b0, b1, b2, b3⟩ | ⟨b1, rfl, rfl⟩ | ⟨b1, _, _⟩
      · exact absurd (h.inj j id p2 _ v2 v b b2 ho g2 rfl b3 hv k6 (fnew b k5)) b0
      · exact (apart b k6 k5).elim
      · omega
  · intro j t1 cs1 sh1 y k1 k2
    rcases split j _ y k1 k2 with ⟨_, _, p1, p2⟩ | ⟨_, e1, _⟩ | ⟨_, e1, _⟩
    · exact ⟨p1, p2⟩
    · cases e1
    · rcases ho2 with rfl | ⟨rfl, _⟩ <;> cases e1
  · intro j t1 n1 cs1 sh1 y k1 k2
    rcases split j _ y k1 k2 with ⟨_, _, p1, p2⟩ | ⟨_, e1, _⟩ | ⟨_, e1, rfl⟩
    · exact .inl ⟨p1, p2⟩
    · cases e1
    · refine .inr ?_
      rcases ho2 with rfl | ⟨rfl, hne⟩
      · cases e1
      · cases e1
        exact ⟨te, _, hte, by omega, by rw [hsz]; exact c2, RlL.mono ⟨fun _ _ h => h, fun _ h => h.elim, fun _ _ => rfl⟩ _ (c7 hne), c4⟩
  · intro j hs1 t1 n1 cs1 y k1 k2
    rcases split j _ y k1 k2 with ⟨_, _, p1, p2⟩ | ⟨_, e1, rfl⟩ | ⟨_, e1, rfl⟩
    · exact .inl ⟨p1, p2⟩
    · cases e1
      refine .inr ⟨ti, h1, h2, ?_⟩
      rw [hL]
      refine ⟨h3, s1, h5, s2, fun b q1 q2 => h7 b q1 (s3' b q2), fun p hp => ?_⟩
      rcases List.mem_cons.1 hp with rfl | hp
      · exact ⟨x, hx, by rw [← h.len]; simp⟩
      · obtain ⟨z, z1, z2⟩ := h8 p hp
        exact ⟨z, z1, pre _ _ z2⟩
    · refine .inr ?_
      rcases ho2 with rfl | ⟨rfl, hne⟩
      · cases e1
        exact ⟨te, hte, by omega, by rw [hsz]; exact c2, c3, c4, c5, c6, by simp⟩
      · cases e1
theorem flat_rl {B : List Value} {ok ok' : Nat → Prop} {x : V} {v : Value} (hx : flatV x = true) (h : Rl A ok w x v) : Rl B ok' w' x v := by
  cases x <;> simp_all [flatV, Rl]
theorem flat_rls {B : List Value} {ok ok' : Nat → Prop} : ∀ {xs : List V} {vs : List Value}, xs.all flatV = true → RlL A ok w xs vs → RlL B ok' w' xs vs
  | [], [], _, _ => by simp [RlL]
  | [], _ :: _, _, h => by simp [RlL] at h
  | _ :: _, [], _, h => by simp [RlL] at h
  | x :: xs, v :: vs, hf, h => by
    simp only [RlL] at h ⊢
    simp only [List.all_cons, Bool.and_eq_true] at hf
    exact ⟨flat_rl hf.1 h.1, flat_rls hf.2 h.2⟩
theorem St.ownCell (h : St C N s0 n0 A obs w) {k e m : Nat} {ics : List V} {te : TI} (hte : C.ty e = some te) {o2 : Ob} (hk : obs[k]? = some o2) {x : Value} (hx : A[k]? = some x) {ne : Bool}
    (ho2 : (o2 = .nrow [] e m ics ∧ ne = true) ∨ (o2 = .row e m ics false ∧ ne = false ∧ ics.all flatV = true)) :
    RowC w (.own ne e te.size m ics) x ∧ (∀ b, footC w (.own ne e te.size m ics) x b → foot w o2 x b) ∧ o2.isOpen = true ∧ o2.isRow = true := by
  rcases ho2 with ⟨rfl, rfl⟩ | ⟨rfl, rfl, hfl⟩
  · obtain ⟨ti, h1, h2, h3, h4, h5, h6, h7, h8⟩ := h.nrow k [] e m ics x hk hx
    rw [hte] at h1; cases h1
    refine ⟨?_, fun b hb => hb, rfl, rfl⟩
    simp only [RowC]
    exact ⟨h2, h3, h4, h5, h6, h7, by simp⟩
  · obtain ⟨ti, vs, h1, h2, h3, h4, h5⟩ := h.row k e m ics false x hk hx
    rw [hte] at h1; cases h1
    have hc : cellsOf w x ics.length = vs := by rw [h4.length]; exact cellsOf_own h3
    have hf : RlL [] NoB w ics vs := flat_rls hfl h4
    obtain ⟨f1, f2, f3⟩ := RowL_flat hf
    refine ⟨?_, fun b hb => ?_, rfl, rfl⟩
    · simp only [RowC]
      rw [hc]
      exact ⟨h2, h3, f1, h5, f2, fun b _ q => f3 b q, fun _ => hf⟩
    · simp only [footC] at hb
      rw [hc] at hb
      rcases hb with hb | hb
      · exact .inl hb
      · exact (f3 b hb).elim
theorem St.foldIn (h : St C N s0 n0 A obs w) {id k : Nat} {hs : List (Nat × Nat)} {t n : Nat} {cs : List V} {off e m : Nat} {ics : List V} (ho : obs[id]? = some (.nrow ((off, k) :: hs) t n cs)) 
    (hoff : holeAt off hs = false) {te : TI} (hte : C.ty e = some te) {o2 : Ob} (hk : obs[k]? = some o2) {ne : Bool} (ho2 : (o2 = .nrow [] e m ics ∧ ne = true) ∨ (o2 = .row e m ics false ∧ ne = false ∧ ics.all flatV = true)) :
    After C N s0 n0 A obs w A (setOb (setOb obs k .gone) id (.nrow hs t n (cs.set off (.own ne e te.size m ics)))) w := by
  obtain ⟨v, hv⟩ : ∃ v, A[id]? = some v := ⟨_, List.getElem?_eq_getElem (by rw [h.len]; exact (List.getElem?_eq_some_iff.1 ho).1)⟩
  obtain ⟨ti, h1, h2, h3, h4, h5, h6, h7, h8⟩ := h.nrow id _ t n cs v ho hv
  generalize hL : cellsOf w v cs.length = L at h3 h4 h5 h6 h7 h8
  obtain ⟨x, hx, hA⟩ := h8 (off, k) (by simp)
  dsimp only at hx hA
  obtain ⟨c1, c2, c3, c4⟩ := h.ownCell hte hk hA ho2
  have hkg := open_gone c3
  have hkid : k ≠ id := fun e => by
    subst e; rw [hk] at ho; cases ho
    rcases ho2 with ⟨q, _⟩ | ⟨q, _⟩ <;> cases q
  simp only [plug] at h4 h6 h7
  have hlt : off < (plug hs cs).length := by
    have := RowL.length h4
    rw [List.length_set] at this
    rw [this]; exact (List.getElem?_eq_some_iff.1 hx).1
  have hP : ((plug hs cs).set off .u)[off]? = some .u := List.getElem?_set_self hlt
  have far : ∀ b, foot w o2 x b → ¬ foot w (.nrow ((off, k) :: hs) t n cs) v b := fun b k1 k2 => hkid (h.inj k id o2 _ x v b hk ho hkg rfl hA hv k1 k2)
  have inF : ∀ b, footL w ((plug hs cs).set off .u) L b → foot w (.nrow ((off, k) :: hs) t n cs) v b := fun b hb => .inr (by dsimp only; rw [hL]; exact hb)
  obtain ⟨s1, s2, s3⟩ := cell_swap (y := .own ne e te.size m ics) hP hx h4 h6 c1 (fun b hb => .inr fun i z u _ k2 k3 k4 => far b (c2 b hb) (inF b ((footL_iff _ _ _).2 ⟨i, z, u, k2, k3, k4⟩)))
  rw [List.set_set] at s1 s2 s3
  rw [← plug_set _ hs cs hoff] at s1 s2 s3
  generalize hcs : cs.set off (.own ne e te.size m ics) = cs' at s1 s2 s3 ⊢
  have hcl : cs'.length = cs.length := by rw [← hcs, List.length_set]
  have hL' : cellsOf w v cs'.length = L := by rw [hcl, hL]
  have f' : ∀ b, foot w (.nrow hs t n cs') v b → foot w (.nrow ((off, k) :: hs) t n cs) v b ∨ foot w o2 x b := fun b hb => by
    rcases hb with hb | hb
    · exact .inl (.inl hb)
    · dsimp only at hb
      rw [hL'] at hb
      rcases s3 b hb with hb | hb
      · exact .inl (inF b hb)
      · exact .inr (c2 b hb)
  have split : ∀ (j : Nat) (o : Ob) (y : Value), (setOb (setOb obs k .gone) id (.nrow hs t n cs'))[j]? = some o → A[j]? = some y → (j ≠ id ∧ j ≠ k ∧ obs[j]? = some o) ∨ (j = k ∧ o = .gone) ∨ (j = id ∧ o = .nrow hs t n cs' ∧ y = v) := by
    intro j o y k1 k2
    rw [setOb_get, setOb_get] at k1
    by_cases e1 : j = id
    · subst e1
      rw [if_pos rfl, if_neg (Ne.symm hkid), ho] at k1
      simp at k1
      rw [hv] at k2; cases k2
      exact .inr (.inr ⟨rfl, k1.symm, rfl⟩)
    · rw [if_neg e1] at k1
      by_cases e2 : j = k
      · subst e2
        rw [if_pos rfl, hk] at k1
        simp at k1
        exact .inr (.inl ⟨rfl, k1.symm⟩)
      · rw [if_neg e2] at k1
        exact .inl ⟨e1, e2, k1⟩
  refine h.ghost (by simp [setOb_length, h.len]) (fun _ _ h => h) h.one ?_ ?_ ?_ ?_ ?_
  · intro j o y b k1 k2 k3 k4
    rcases split j o y k1 k2 with ⟨_, _, p1⟩ | ⟨_, rfl⟩ | ⟨rfl, rfl, rfl⟩
    · exact ⟨j, o, y, p1, k2, k3, k4, fun h => h, fun h => h⟩
    · cases k3
    · rcases f' b k4 with q | q
      · exact ⟨j, _, y, ho, hv, rfl, q, fun _ => rfl, fun _ => .inr rfl⟩
      · exact ⟨k, o2, x, hk, hA, hkg, q, fun _ => c3, fun _ => .inr c4⟩
  · intro i j p1 p2 v1 v2 b k1 k2 g1 g2 k3 k4 k5 k6
    rcases split i _ _ k1 k3 with ⟨a0, a1, a2⟩ | ⟨_, rfl⟩ | ⟨rfl, rfl, rfl⟩
    · rcases split j _ _ k2 k4 with ⟨b0, b1, b2⟩ | ⟨_, rfl⟩ | ⟨rfl, rfl, rfl⟩
      · exact h.inj i j p1 p2 v1 v2 b a2 b2 g1 g2 k3 k4 k5 k6
      · cases g2
      · rcases f' b k6 with q | q
        · exact absurd (h.inj i j p1 _ v1 v2 b a2 ho g1 rfl k3 hv k5 q) a0
        · exact absurd (h.inj i k p1 _ v1 x b a2 hk g1 hkg k3 hA k5 q) a1
    · cases g1
    · rcases split j _ _ k2 k4 with ⟨b0, b1, b2⟩ | ⟨_, rfl⟩ | ⟨b1, _, _⟩
      · rcases f' b k5 with q | q
        · exact absurd (h.inj j i p2 _ v2 v1 b b2 ho g2 rfl k4 hv k6 q) b0
        · exact absurd (h.inj j k p2 _ v2 x b b2 hk g2 hkg k4 hA k6 q) b1
      · cases g2
      · exact b1.symm
  · intro j t1 cs1 sh1 y k1 k2
    rcases split j _ y k1 k2 with ⟨_, _, p1⟩ | ⟨_, e1⟩ | ⟨_, e1, _⟩
    · exact ⟨p1, k2⟩
    · cases e1
    · cases e1
  · intro j t1 n1 cs1 sh1 y k1 k2
    rcases split j _ y k1 k2 with ⟨_, _, p1⟩ | ⟨_, e1⟩ | ⟨_, e1, _⟩
    · exact .inl ⟨p1, k2⟩
    · cases e1
    · cases e1
  · intro j hs1 t1 n1 cs1 y k1 k2
    rcases split j _ y k1 k2 with ⟨_, _, p1⟩ | ⟨_, e1⟩ | ⟨_, e1, rfl⟩
    · exact .inl ⟨p1, k2⟩
    · cases e1
    · cases e1
      refine .inr ⟨ti, h1, h2, ?_⟩
      rw [hL']
      refine ⟨h3, s1, h5, s2, fun b q1 q2 => ?_, fun p hp => h8 p (List.mem_cons_of_mem _ hp)⟩
      rcases s3 b q2 with q3 | q3
      · exact h7 b q1 q3
      · exact far b (c2 b q3) (.inl q1)
end
end Go.PI
