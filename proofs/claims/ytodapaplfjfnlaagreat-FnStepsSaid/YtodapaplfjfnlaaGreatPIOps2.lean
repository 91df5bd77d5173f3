/-
  PI: each operation of the interpreter is what the machine's operation does: slicing, numbers, conversions, literals, append.
-/
import Derived.Test.YtodapaplfjfnlaaGreatPIOps
import Derived.Laws.BytesArg
import Derived.Laws.Strings
namespace Go.PI
open Go
set_option linter.unusedVariables false
set_option linter.unusedSimpArgs false
section
variable {P : Program} {C : Cfg} {N : Nat → Prop} {s0 n0 : Nat} {A : List Value} {obs : Obs} {w : World} {α : Type} {r : α}
def RlO (A : List Value) (ok : Nat → Prop) (w : World) : Option V → Option Value → Prop
  | none, none => True
  | some x, some v => Rl A ok w x v
  | _, _ => False
theorem bnd_some {x : Option V} {v : Option Value} {d m : Nat} {K : Nat → Option α} (hx : RlO A (Ok N A obs w) w x v) (h : bnd x d m K = some r) :
    ∃ k, K k = some r ∧ ((x = none ∧ v = none ∧ k = d) ∨ (∃ kk i, x = some (.int kk i) ∧ v = some (.int kk i) ∧ 0 ≤ i ∧ i ≤ m ∧ k = i.toNat)) := by
  unfold bnd at h
  split at h
  · cases v with
    | none => exact ⟨d, h, .inl ⟨rfl, rfl, rfl⟩⟩
    | some _ => simp [RlO] at hx
  · rename_i kk i
    replace h := must_some h
    obtain ⟨h1, h⟩ := h
    simp only [Bool.and_eq_true, decide_eq_true_eq] at h1
    cases v with
    | none => simp [RlO] at hx
    | some v =>
      simp only [RlO, Rl] at hx
      subst hx
      exact ⟨_, h, .inr ⟨kk, i, rfl, rfl, h1.1, h1.2, rfl⟩⟩
  · cases h
theorem run_bounds (isSl : Bool) {lo hi : Option Value} {n c l h : Nat} (hnc : n ≤ c) (hlh : l ≤ h) (hhn : h ≤ n)
    (h1 : (hi = none ∧ h = n) ∨ ∃ kk i, hi = some (.int kk i) ∧ 0 ≤ i ∧ h = i.toNat) (h2 : (lo = none ∧ l = 0) ∨ ∃ kk i, lo = some (.int kk i) ∧ 0 ≤ i ∧ l = i.toNat) :
    (Instr.sliceBounds isSl n c lo hi none).run P w = .ok (l, h, c) w := by
  have b : ∀ (kk : IntKind) (i : Int) (y : Nat) (code : BoundsCode), 0 ≤ i → i.toNat ≤ y → (Instr.sliceBound (.int kk i) y code).run P w = .ok i.toNat w := fun kk i y code h0 hy => by
    have : i ≤ y := by omega
    simp [Instr.sliceBound, asIntOf, h0, this]
  rcases h1 with ⟨rfl, rfl⟩ | ⟨kk, i, rfl, hi0, rfl⟩ <;> rcases h2 with ⟨rfl, rfl⟩ | ⟨kk', i', rfl, hi0', rfl⟩
  · simp [Instr.sliceBounds]
  · simp [Instr.sliceBounds, b kk' i' _ _ hi0' hlh]
  · simp [Instr.sliceBounds, b kk i c _ hi0 (by omega)]
  · simp [Instr.sliceBounds, b kk i c _ hi0 (by omega), b kk' i' _ _ hi0' hlh]
theorem sub_lies {ok : Nat → Prop} {n c : Nat} {a : Option Addr} {vs : List Value} {sz l h : Nat} (hl : Lies ok w n a vs) (hlh : l ≤ h) (hhn : h ≤ n) (hnc : n ≤ c) :
    Lies ok w (h - l) (if c = l then a else a.map (·.add (l * sz))) ((vs.drop (l * sz)).take ((h - l) * sz)) := by
  by_cases e : h - l = 0
  · exact .inl ⟨e, by rw [e]; simp⟩
  · rw [if_neg (by omega)]
    rcases hl with ⟨h0, _⟩ | ⟨b, o, rfl, hok, hc⟩
    · omega
    · refine .inr ⟨b, o + l * sz, by simp [add_at], hok, fun i v hv => ?_⟩
      rw [List.getElem?_take] at hv
      split at hv
      · rw [List.getElem?_drop] at hv
        rw [Nat.add_assoc]; exact hc _ v hv
      · cases hv
theorem slice_sound (hC : CfgOk P C) {t : Nat} {x : V} {xv : Value} {lo hi : Option V} {lov hiv : Option Value} {K : V → Obs → Option α} (hS : St C N s0 n0 A obs w) (hx : Rl A (Ok N A obs w) w x xv)
    (hlo : RlO A (Ok N A obs w) w lo lov) (hhi : RlO A (Ok N A obs w) w hi hiv) (h : slice C obs t x lo hi K = some r) :
    ∃ v obs' vv, K v obs' = some r ∧ (∀ w2 : World, (Instr.sliceAt t xv lov hiv none).run P w2 = .ok vv w2) ∧ After C N s0 n0 A obs w A obs' w ∧ Rl A (Ok N A obs' w) w v vv ∧ (obs' = obs ∨ ∃ id, obs' = PI.shutAt obs id) := by
  unfold slice at h
  replace h := need_some h
  obtain ⟨ti, hti, h⟩ := h
  have ht := hC.ty t ti hti
  have bounds : ∀ (n m : Nat) (K' : Nat → Nat → Option α), (bnd hi n m fun h => bnd lo 0 h fun l => K' h l) = some r → n ≤ m →
      ∃ h l, K' h l = some r ∧ l ≤ h ∧ h ≤ m ∧ ((hiv = none ∧ h = n) ∨ ∃ kk i, hiv = some (.int kk i) ∧ 0 ≤ i ∧ h = i.toNat) ∧ ((lov = none ∧ l = 0) ∨ ∃ kk i, lov = some (.int kk i) ∧ 0 ≤ i ∧ l = i.toNat) := by
    intro n m K' hb hnm
    obtain ⟨h', h1, h2⟩ := bnd_some hhi hb
    obtain ⟨l', h3, h4⟩ := bnd_some hlo h1
    refine ⟨h', l', h3, ?_, ?_, ?_, ?_⟩
    · rcases h4 with ⟨_, _, rfl⟩ | ⟨kk, i, _, _, i0, i1, rfl⟩ <;> omega
    · rcases h2 with ⟨_, _, rfl⟩ | ⟨kk, i, _, _, i0, i1, rfl⟩ <;> omega
    · rcases h2 with ⟨_, e, rfl⟩ | ⟨kk, i, _, e, i0, i1, rfl⟩
      · exact .inl ⟨e, rfl⟩
      · exact .inr ⟨kk, i, e, i0, rfl⟩
    · rcases h4 with ⟨_, e, rfl⟩ | ⟨kk, i, _, e, i0, i1, rfl⟩
      · exact .inl ⟨e, rfl⟩
      · exact .inr ⟨kk, i, e, i0, rfl⟩
  split at h
  · rename_i hty
    have hu := ht.under_str hty
    split at h
    · rename_i s
      simp only [Rl] at hx; subst hx
      obtain ⟨h', l', hk, hlh, hhm, e1, e2⟩ := bounds _ _ _ h (Nat.le_refl _)
      refine ⟨_, _, .string (s.extract l' h'), hk, fun w2 => ?_, After.refl hS, by simp only [Rl], .inl rfl⟩
      simp [Instr.sliceAt, Instr.slice, run_underlying hu, run_bounds (P := P) (w := w2) false (Nat.le_refl s.size) hlh hhm e1 e2]
    · cases h
  · rename_i e hty
    have hu := ht.under_slice hty
    replace h := need_some h
    obtain ⟨te, hte, h⟩ := h
    have hse : ∀ w2 : World, (sizeOf e).run P w2 = .ok te.size w2 := fun w2 => (hC.ty e te hte).size_ne (w := w2)
    replace h := must_some h
    obtain ⟨hne, h⟩ := h
    have run : ∀ a n c l h', n ≤ c → l ≤ h' → h' ≤ n → ((hiv = none ∧ h' = n) ∨ ∃ kk i, hiv = some (.int kk i) ∧ 0 ≤ i ∧ h' = i.toNat) → ((lov = none ∧ l = 0) ∨ ∃ kk i, lov = some (.int kk i) ∧ 0 ≤ i ∧ l = i.toNat) →
        ∀ w2 : World, (Instr.sliceAt t (.slice a n c) lov hiv none).run P w2 = .ok (.slice (if c = l then a else a.map (·.add (l * te.size))) (h' - l) (c - l)) w2 := fun a n c l h' hnc hlh hhn e1 e2 w2 => by
      simp [Instr.sliceAt, Instr.slice, run_underlying hu, run_bounds (P := P) (w := w2) true hnc hlh hhn e1 e2, hse]
    split at h
    · rename_i id
      simp only [slOf] at h
      split at h
      · rename_i t' n cs sh ho
        obtain ⟨h', l', hk, hlh, hhm, e1, e2⟩ := bounds _ _ _ h (Nat.le_refl _)
        have hx' := hx
        simp only [Rl] at hx'
        have hb := (hS.shutAt id).st.borrow ho hx'
        rw [shutAt_twice ho] at hb
        simp only [Rl] at hb
        obtain ⟨a, c, vs, rfl, hnc, hl, hli⟩ := hb
        refine ⟨_, _, _, hk, run a n c l' h' hnc hlh hhm e1 e2, hS.shutAt id, ?_, .inr ⟨id, rfl⟩⟩
        simp only [Rl]
        exact ⟨_, _, _, rfl, by omega, (hl.drop _).take _, sub_lies hli hlh hhm hnc⟩
      · cases h
    · rename_i hnr
      obtain ⟨n, cs, h, a, c, vs, rfl, hnc, hl, _, hli⟩ := slOf_sound h hS hx
      obtain ⟨h', l', hk, hlh, hhm, e1, e2⟩ := bounds _ _ _ h (Nat.le_refl _)
      refine ⟨_, _, _, hk, run a n c l' h' hnc hlh hhm e1 e2, After.refl hS, ?_, .inl rfl⟩
      simp only [Rl]
      exact ⟨_, _, _, rfl, by omega, (hl.drop _).take _, sub_lies (hli (fun id => hnr id)) hlh hhm hnc⟩
  · cases h
theorem intOp_sound {op : BinOp} {k k' : IntKind} {a b : Int} {K : V → Option α} (t : Nat) (hk : isShift op = true ∨ k = k') (h : intOp op k a b K = some r) :
    ∃ v vv, K v = some r ∧ (∀ w2 : World, (Go.binOp op t (.int k a) (.int k' b)).run P w2 = .ok vv w2) ∧ Rl A (Ok N A obs w) w v vv := by
  have hk' : isShift op = false → k = k' := fun e => by rcases hk with h | h; · rw [e] at h; cases h
                                                        · exact h
  cases op <;> simp only [intOp] at h <;>
  first
    | (have hkk := hk' rfl; subst hkk; exact ⟨_, _, h, fun w2 => by simp only [Go.binOp, ne_eq, not_true_eq_false, if_false]; rfl, by simp only [Rl, bits]⟩)
    | (have hkk := hk' rfl; subst hkk; obtain ⟨h1, h⟩ := must_some h; have h1 : b ≠ 0 := by simpa using h1
       exact ⟨_, _, h, fun w2 => by simp [Go.binOp, Op.intDiv, h1]; rfl, by simp only [Rl]⟩)
    | (obtain ⟨h1, h⟩ := must_some h; have h1 : ¬ b < 0 := by simpa using h1
       exact ⟨_, _, h, fun w2 => by simp [Go.binOp, Op.shift, h1]; rfl, by simp only [Rl]⟩)
    | skip
theorem run_equalIn_bool {t : Nat} (hu : P.underlying t = some .bool) (n : Nat) (a b : Bool) : (Op.equalIn (n + 1) t (.bool a) (.bool b)).run P w = .ok (a == b) w := by
  rw [Op.equalIn, Sem.run_bind, run_underlying hu]
  rfl
theorem binOp_sound (hC : CfgOk P C) {op : BinOp} {t : Nat} {x y : V} {xv yv : Value} {K : V → Option α} (hx : Rl A (Ok N A obs w) w x xv) (hy : Rl A (Ok N A obs w) w y yv) (h : binOp C op t x y K = some r) :
    ∃ v vv, K v = some r ∧ (∀ w2 : World, (Go.binOp op t xv yv).run P w2 = .ok vv w2) ∧ Rl A (Ok N A obs w) w v vv ∧ (∀ a b, eqGuard op t a b xv yv = pure ()) := by
  unfold binOp at h
  have g : (∀ k a k' b, xv = .int k a → yv = .int k' b → ∀ c d, eqGuard op t c d xv yv = pure ()) ∧ (∀ a b, xv = .string a → yv = .string b → ∀ c d, eqGuard op t c d xv yv = pure ()) ∧ (∀ a b, xv = .bool a → yv = .bool b → ∀ c d, eqGuard op t c d xv yv = pure ()) := by
    refine ⟨?_, ?_, ?_⟩ <;> (intros; subst_vars; unfold eqGuard; split <;> rfl)
  split at h
  · rename_i k a k' b
    simp only [Rl] at hx hy; subst hx hy
    cases hb : isShift op || kbeq k k' with
    | false => rw [hb] at h; cases h
    | true =>
      rw [hb] at h
      simp only [Bool.or_eq_true] at hb
      obtain ⟨v, vv, h1, h2, h3⟩ := intOp_sound (P := P) (A := A) (N := N) (obs := obs) (w := w) (k' := k') t (hb.imp id kbeq_eq) h
      exact ⟨v, vv, h1, h2, h3, g.1 _ _ _ _ rfl rfl⟩
  · rename_i a b
    simp only [Rl] at hx hy; subst hx hy
    split at h
    · exact ⟨_, _, h, fun w2 => by simp only [Go.binOp]; rfl, by simp only [Rl]; rfl, g.2.1 _ _ rfl rfl⟩
    · exact ⟨_, _, h, fun w2 => by simp only [Go.binOp]; rfl, by simp only [Rl]; rfl, g.2.1 _ _ rfl rfl⟩
    · replace h := must_some h
      obtain ⟨h1, h⟩ := h
      have h1 : a.size + b.size ≤ 9223372036854775807 := of_decide_eq_true h1
      refine ⟨_, .string (a ++ b), h, fun w2 => ?_, by simp only [Rl], g.2.1 _ _ rfl rfl⟩
      have : ¬ (((a.size + b.size : Nat) : Int) > IntKind.i64.max) := by
        have e : IntKind.i64.max = 9223372036854775807 := by decide
        rw [e]; omega
      simp only [Go.binOp, Op.stringOp, if_neg this]
      rfl
    · cases h
  · rename_i a b
    simp only [Rl] at hx hy; subst hx hy
    replace h := need_some h
    obtain ⟨ti, hti, h⟩ := h
    split at h
    · rename_i hty
      have hu := (hC.ty t ti hti).under_bool hty
      refine ⟨_, .bool (a == b), h, fun w2 => ?_, by simp only [Rl], g.2.2 _ _ rfl rfl⟩
      show ((do pure (.bool (← Op.equal t (.bool a) (.bool b))) : Sem Value)).run P w2 = _
      rw [show Op.equal t (.bool a) (.bool b) = Op.equalIn (9999 + 1) t (.bool a) (.bool b) from rfl, Sem.run_bind, run_equalIn_bool hu]
      rfl
    · rename_i hty
      have hu := (hC.ty t ti hti).under_bool hty
      refine ⟨_, .bool (!(a == b)), h, fun w2 => ?_, by simp only [Rl], g.2.2 _ _ rfl rfl⟩
      show ((do pure (.bool (!(← Op.equal t (.bool a) (.bool b)))) : Sem Value)).run P w2 = _
      rw [show Op.equal t (.bool a) (.bool b) = Op.equalIn (9999 + 1) t (.bool a) (.bool b) from rfl, Sem.run_bind, run_equalIn_bool hu]
      rfl
    · cases h
  · cases h
theorem unOp_sound {op : UnOp} {x : V} {xv : Value} {K : V → Option α} (hx : Rl A (Ok N A obs w) w x xv) (h : unOp op x K = some r) :
    ∃ v vv, K v = some r ∧ (∀ w2 : World, (Op.unary op xv).run P w2 = .ok vv w2) ∧ Rl A (Ok N A obs w) w v vv := by
  unfold unOp at h
  split at h
  · simp only [Rl] at hx; subst hx
    exact ⟨_, _, h, fun w2 => by simp only [Op.unary]; rfl, by simp only [Rl]⟩
  · simp only [Rl] at hx; subst hx
    exact ⟨_, _, h, fun w2 => by simp only [Op.unary, Op.intArith]; rfl, by simp only [Rl]⟩
  · simp only [Rl] at hx; subst hx
    exact ⟨_, _, h, fun w2 => by simp only [Op.unary, Op.intBits]; rfl, by simp only [Rl, bits]⟩
  · cases h
end
end Go.PI
