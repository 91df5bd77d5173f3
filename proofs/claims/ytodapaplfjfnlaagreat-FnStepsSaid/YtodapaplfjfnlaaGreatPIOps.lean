/-
  PI: each operation of the interpreter is what the machine's operation does: loads, stores, addresses, numbers.
-/
import Derived.Test.YtodapaplfjfnlaaGreatPINest
import Derived.Laws.Cells
import Derived.Laws.CopyRow
import Derived.Laws.Append
import Derived.Laws.IdiomStrings
import Derived.Tactics
namespace Go.PI
open Go
set_option linter.unusedVariables false
set_option linter.unusedSimpArgs false
section inv
variable {α : Type} {r : α}
theorem kbeq_eq : ∀ {a b : IntKind}, kbeq a b = true → a = b := by
  intro a b h; cases a <;> cases b <;> first | rfl | simp [kbeq] at h
theorem asInt_some {k : IntKind} {v : Option V} {K : Int → Option α} (h : asInt k v K = some r) : ∃ n, v = some (.int k n) ∧ K n = some r := by
  unfold asInt at h
  split at h
  · rename_i k' n
    cases hk : kbeq k' k with
    | true => rw [hk] at h; exact ⟨n, by rw [kbeq_eq hk], h⟩
    | false => rw [hk] at h; simp at h
  · cases h
theorem asBool_some {v : Option V} {K : Bool → Option α} (h : asBool v K = some r) : ∃ n, v = some (.bool n) ∧ K n = some r := by
  unfold asBool at h; split at h; · exact ⟨_, rfl, h⟩
  · cases h
theorem asStr_some {v : Option V} {K : ByteArray → Option α} (h : asStr v K = some r) : ∃ n, v = some (.str n) ∧ K n = some r := by
  unfold asStr at h; split at h; · exact ⟨_, rfl, h⟩
  · cases h
theorem asAgg_some {v : Option V} {K : List V → Option α} (h : asAgg v K = some r) : ∃ n, v = some (.agg n) ∧ K n = some r := by
  unfold asAgg at h; split at h; · exact ⟨_, rfl, h⟩
  · cases h
theorem asSl_some {v : Option V} {K : Nat → List V → Option α} (h : asSl v K = some r) : ∃ n cs, v = some (.sl n cs) ∧ K n cs = some r := by
  unfold asSl at h; split at h; · exact ⟨_, _, rfl, h⟩
  · cases h
theorem asOsl_some {v : Option V} {K : Nat → List V → Option α} (h : asOsl v K = some r) : ∃ n cs, v = some (.osl n cs) ∧ K n cs = some r := by
  unfold asOsl at h; split at h; · exact ⟨_, _, rfl, h⟩
  · cases h
theorem must_some {b : Bool} {K : Option α} (h : must b K = some r) : b = true ∧ K = some r := by
  unfold must at h; cases b <;> simp at h ⊢; exact h
theorem get_some {v : Option V} {K : V → Option α} (h : get v K = some r) : ∃ x, v = some x ∧ K x = some r := by
  unfold get at h; split at h; · exact ⟨_, rfl, h⟩
  · cases h
theorem need_some {β : Type} {v : Option β} {K : β → Option α} (h : need v K = some r) : ∃ x, v = some x ∧ K x = some r := by
  unfold need at h; split at h; · exact ⟨_, rfl, h⟩
  · cases h
end inv
theorem add_at (b o i : Nat) : (⟨b, o, none⟩ : Addr).add i = ⟨b, o + i, none⟩ := by unfold Addr.add; split <;> simp_all
section
variable {P : Program} {C : Cfg} {N : Nat → Prop} {s0 n0 : Nat} {A : List Value} {obs : Obs} {w : World} {α : Type} {r : α}
def At (w : World) (n : Nat) (a : Option Addr) (vs : List Value) : Prop :=
  (n = 0 ∧ vs = []) ∨ ∃ b o, a = some ⟨b, o, none⟩ ∧ ∀ i v, vs[i]? = some v → w.cell? ⟨b, o + i, none⟩ = some v ∧ v.oneCell' = true
theorem Lies.at_ {ok : Nat → Prop} {n : Nat} {a : Option Addr} {vs : List Value} (h : Lies ok w n a vs) : At w n a vs := by
  rcases h with h | ⟨b, o, e, _, h⟩
  · exact .inl h
  · exact .inr ⟨b, o, e, h⟩
theorem St.rowAt (h : St C N s0 n0 A obs w) {id t n : Nat} {cs : List V} {sh : Bool} {v : Value} (ho : obs[id]? = some (.row t n cs sh)) (hv : A[id]? = some v) :
    ∃ ti a c vs, C.ty t = some ti ∧ 0 < ti.size ∧ v = .slice a n c ∧ n ≤ c ∧ vs.length = n * ti.size ∧ RlL [] (Ok N A obs w) w cs vs ∧ (∀ x ∈ vs, x.oneCell' = true) ∧ At w n a vs ∧ (∀ g, blockOf v = some g → a = some ⟨g, 0, none⟩) := by
  obtain ⟨ti, vs, ht, hp, hown, hl, h1⟩ := h.row id t n cs sh v ho hv
  obtain ⟨q1, q2⟩ := hown
  rcases q2 with ⟨rfl, rfl⟩ | ⟨g, cap, cur, rfl, _, hg, hnc, _, hcs, htake⟩
  · have : vs = [] := List.eq_nil_of_length_eq_zero (by simpa using q1)
    subst this
    exact ⟨ti, none, 0, [], ht, hp, rfl, Nat.le_refl _, q1, hl, h1, .inl ⟨rfl, rfl⟩, fun g hg => by simp [blockOf] at hg⟩
  · refine ⟨ti, _, cap, vs, ht, hp, rfl, hnc, q1, hl, h1, .inr ⟨g, 0, rfl, fun i v hv => ⟨?_, h1 v (List.mem_of_getElem? hv)⟩⟩, fun g' hg' => by simp [blockOf] at hg'; rw [hg']⟩
    rw [Nat.zero_add, cell_of_row w g i cur t (0, 0) hg]
    rw [← htake, List.getElem?_take] at hv
    split at hv
    · simpa using hv
    · cases hv
theorem slOf_sound {x : V} {v : Value} {K : Nat → List V → Option α} (h : slOf obs x K = some r) (hS : St C N s0 n0 A obs w) (hv : Rl A (Ok N A obs w) w x v) :
    ∃ n cs, K n cs = some r ∧ ∃ a c vs, v = .slice a n c ∧ n ≤ c ∧ RlL [] (Ok N A obs w) w cs vs ∧ At w n a vs ∧ ((∀ id, x ≠ .ref id) → Lies (Ok N A obs w) w n a vs) := by
  unfold slOf at h
  split at h
  · simp only [Rl] at hv
    exact ⟨0, [], h, none, 0, [], hv, Nat.le_refl _, by simp [RlL], .inl ⟨rfl, rfl⟩, fun _ => .inl ⟨rfl, rfl⟩⟩
  · rename_i n cs
    simp only [Rl] at hv
    obtain ⟨a, c, vs, e, hn, hl, hm⟩ := hv
    exact ⟨n, cs, h, a, c, vs, e, hn, hl, hm.at_, fun _ => hm⟩
  · rename_i cs off
    obtain ⟨n, cs', e, hK⟩ := asSl_some h
    simp only [Rl] at hv
    obtain ⟨x, hx, hr⟩ := hv.get
    rw [e] at hx; cases hx
    simp only [Rl] at hr
    obtain ⟨a, c, vs, e, hn, hl, hm⟩ := hr
    exact ⟨n, cs', hK, a, c, vs, e, hn, hl, hm.at_, fun _ => hm⟩
  · rename_i id
    split at h
    · rename_i t n cs sh ho
      simp only [Rl] at hv
      obtain ⟨ti, a, c, vs, _, _, e, hn, _, hl, _, hat, _⟩ := hS.rowAt ho hv
      exact ⟨n, cs, h, a, c, vs, e, hn, hl, hat, fun hne => absurd rfl (hne id)⟩
    · cases h
  · cases h
theorem slLen_sound {x : V} {v : Value} {K : Nat → Option α} (h : slLen obs x K = some r) (hS : St C N s0 n0 A obs w) (hv : Rl A (Ok N A obs w) w x v) :
    ∃ n a c, K n = some r ∧ v = .slice a n c ∧ n ≤ c ∧ (∀ id, x = .ref id → 0 < n → ∃ g, a = some ⟨g, 0, none⟩) ∧ ((∀ id, x ≠ .ref id) → ∃ cs vs, slOf obs x (fun n cs => some (n, cs)) = some (n, cs) ∧ RlL [] (Ok N A obs w) w cs vs ∧ Lies (Ok N A obs w) w n a vs) := by
  have ofOwn : ∀ {t sz n : Nat} {vs : List Value}, w.ownsRow 0 t sz v n vs → ∃ a c, v = .slice a n c ∧ n ≤ c ∧ (0 < n → ∃ g, a = some ⟨g, 0, none⟩) := fun {t sz n vs} hown => by
    rcases hown.2 with ⟨rfl, rfl⟩ | ⟨g, cap, cur, rfl, _, _, hnc, _⟩
    · exact ⟨none, 0, rfl, Nat.le_refl _, fun h => by omega⟩
    · exact ⟨_, cap, rfl, hnc, fun _ => ⟨g, rfl⟩⟩
  unfold slLen at h
  split at h
  · rename_i id
    split at h
    · rename_i hs t n cs ho
      simp only [Rl] at hv
      obtain ⟨ti, _, _, hown, _⟩ := hS.nrow id _ _ _ _ v ho hv
      obtain ⟨a, c, e1, e2, e3⟩ := ofOwn hown
      exact ⟨n, a, c, h, e1, e2, fun _ _ => e3, fun hne => absurd rfl (hne id)⟩
    · simp only [slOf] at h
      split at h
      · rename_i t n cs sh ho
        simp only [Rl] at hv
        obtain ⟨ti, vs, _, _, hown, _⟩ := hS.row id _ _ _ _ v ho hv
        obtain ⟨a, c, e1, e2, e3⟩ := ofOwn hown
        exact ⟨n, a, c, h, e1, e2, fun _ _ => e3, fun hne => absurd rfl (hne id)⟩
      · cases h
  · rename_i hne
    obtain ⟨n, cs, hK, a, c, vs, e, hn, hl, hat, hli⟩ := slOf_sound h hS hv
    refine ⟨n, a, c, hK, e, hn, fun id hid => absurd hid (hne id), fun _ => ?_⟩
    unfold slOf at h ⊢
    cases x with
    | nilsl =>
      dsimp only at h ⊢
      simp only [Rl] at hv
      rw [hv] at e; cases e
      exact ⟨[], [], rfl, by simp [RlL], .inl ⟨rfl, rfl⟩⟩
    | sl n0 cs0 =>
      dsimp only at h ⊢
      simp only [Rl] at hv
      obtain ⟨a', c', vs', e', hn', hl', hm'⟩ := hv
      rw [e] at e'; cases e'
      exact ⟨cs0, vs', rfl, hl', hm'⟩
    | prj cs0 off =>
      dsimp only at h ⊢
      obtain ⟨n1, cs', e1, hK1⟩ := asSl_some h
      simp only [Rl] at hv
      obtain ⟨y, hy, hr⟩ := hv.get
      rw [e1] at hy; cases hy
      simp only [Rl] at hr
      obtain ⟨a', c', vs', e', hn', hl', hm'⟩ := hr
      rw [e] at e'; cases e'
      exact ⟨cs', vs', by rw [e1]; rfl, hl', hm'⟩
    | ref id => exact absurd rfl (hne id)
    | _ => dsimp only at h; cases h
theorem St.borrow (hS : St C N s0 n0 A obs w) {id t n : Nat} {cs : List V} {sh : Bool} {v : Value} (ho : obs[id]? = some (.row t n cs sh)) (hv : A[id]? = some v) :
    Rl A (Ok N A (PI.shutAt obs id) w) w (.sl n cs) v := by
  have hA := hS.shutAt id
  obtain ⟨ti, a, c, vs, _, _, e, hn, _, hl, h1, hat, hbk⟩ := hS.rowAt ho hv
  simp only [Rl]
  refine ⟨a, c, vs, e, hn, RlL.mono hA.mono.nil cs hl, ?_⟩
  rcases hat with hat | ⟨b, o, ea, hc⟩
  · exact .inl hat
  · refine .inr ⟨b, o, ea, ?_, hc⟩
    have hb : blockOf v = some b := by rw [e, ea]; rfl
    obtain ⟨hs, hN⟩ := hS.new id _ v b (.inr rfl) ho rfl hv (.inl hb)
    refine ⟨hS.block_lt ho rfl hv hb, hN, fun j x y h1 h2 h3 h4 => ?_⟩
    unfold PI.shutAt at h1
    rw [ho] at h1
    rw [setOb_get] at h1
    by_cases hj : j = id
    · rw [if_pos hj, hj, ho] at h1
      simp at h1; subst h1
      simp [shutOb, Ob.isOpen] at h3
    · rw [if_neg hj] at h1
      exact hj (hS.inj j id x _ y v b h1 ho (by cases x <;> simp_all [Ob.isOpen, Ob.isGone]) rfl h2 hv h4 (.inl hb))
theorem oneCell_of_solid (hS : St C N s0 n0 A obs w) : ∀ {x : V} {v : Value} {ok : Nat → Prop}, Rl A ok w x v → x.solid = true → v.oneCell' = true ∧ v.cells = #[v] := by
  intro x v ok h hs
  cases x <;> simp only [V.solid] at hs <;> first | (cases hs; done) | skip
  all_goals simp only [Rl] at h
  all_goals first
    | (subst h; exact ⟨rfl, rfl⟩)
    | (obtain ⟨a, c, vs, rfl, _⟩ := h; exact ⟨rfl, rfl⟩)
    | (obtain ⟨g, _, rfl⟩ := h; exact ⟨rfl, rfl⟩)
    | (obtain ⟨b, o, vs, rfl, _⟩ := h; exact ⟨rfl, rfl⟩)
    | (obtain ⟨cv, rfl, _⟩ := h; exact ⟨rfl, rfl⟩)
    | (rcases hS.one _ _ h with ⟨a, n, c, rfl⟩ | ⟨a, rfl⟩ <;> exact ⟨rfl, rfl⟩)
theorem leavesOf_sound {lazy : Bool} {cs : List V} {vs : List Value} (hl : RlL A (Ok N A obs w) w cs vs) : ∀ (ls : List Leaf) (off : Nat) {K : List V → Option α}, leavesOf lazy cs off ls K = some r →
    ∃ xs, K xs = some r ∧ RlL A (Ok N A obs w) w xs ((vs.drop off).take ls.length) ∧ off + ls.length ≤ vs.length + (if ls.length = 0 then off else 0) := by
  intro ls
  induction ls with
  | nil => intro off K h; exact ⟨[], by simpa [leavesOf] using h, by simp [RlL], by simp⟩
  | cons l ls ih =>
    intro off K h
    have key : ∀ (x : V) (K' : V → Option α), (∃ y, cs[off]? = some y ∧ (∀ v, Rl A (Ok N A obs w) w y v → Rl A (Ok N A obs w) w x v)) → (leavesOf lazy cs (off + 1) ls fun xs => K (x :: xs)) = some r →
        ∃ xs, K xs = some r ∧ RlL A (Ok N A obs w) w xs ((vs.drop off).take (l :: ls).length) ∧ off + (l :: ls).length ≤ vs.length + (if (l :: ls).length = 0 then off else 0) := by
      rintro x K' ⟨y, hy, hxy⟩ hk
      obtain ⟨xs, h1, h2, h3⟩ := ih (off + 1) hk
      obtain ⟨v, hv, hr⟩ := hl.get off y hy
      have hlt : off < vs.length := (List.getElem?_eq_some_iff.1 hv).1
      refine ⟨x :: xs, h1, ?_, ?_⟩
      · rw [List.drop_eq_getElem_cons hlt]
        simp only [List.length_cons, List.take_succ_cons, RlL]
        have : vs[off] = v := by rw [List.getElem?_eq_getElem hlt] at hv; exact Option.some.inj hv
        rw [this]
        exact ⟨hxy v hr, h2⟩
      · simp only [List.length_cons] at h3 ⊢
        split at h3 <;> simp <;> omega
    cases l with
    | int k =>
      simp only [leavesOf] at h
      replace h := asInt_some h
      obtain ⟨n, e, h⟩ := h
      exact key _ (fun _ => none) ⟨_, e, fun _ h => h⟩ h
    | bool =>
      simp only [leavesOf] at h
      replace h := asBool_some h
      obtain ⟨n, e, h⟩ := h
      exact key _ (fun _ => none) ⟨_, e, fun _ h => h⟩ h
    | str =>
      simp only [leavesOf] at h
      replace h := asStr_some h
      obtain ⟨n, e, h⟩ := h
      exact key _ (fun _ => none) ⟨_, e, fun _ h => h⟩ h
    | sl =>
      simp only [leavesOf] at h
      cases lazy with
      | true =>
        simp only [cond_true] at h
        obtain ⟨n, c, e, h⟩ := asSl_some h
        exact key _ (fun _ => none) ⟨_, e, fun _ h => h⟩ h
      | false =>
        simp only [cond_false] at h
        replace h := get_some h
        obtain ⟨x, e, h⟩ := h
        exact key _ (fun _ => none) ⟨_, e, fun _ h => h⟩ h
    | oth =>
      simp only [leavesOf] at h
      replace h := get_some h
      obtain ⟨x, e, h⟩ := h
      exact key _ (fun _ => none) ⟨_, e, fun _ h => h⟩ h
theorem run_loadVar_agg {t : Nat} {ti : TI} (ht : TyOk P t ti) (ha : ti.agg = true) {b o : Nat} {vs : List Value} (hl : vs.length = ti.size)
    (hc : ∀ i v, vs[i]? = some v → w.cell? ⟨b, o + i, none⟩ = some v) : (loadVar t ⟨b, o, none⟩).run P w = .ok (.agg vs.toArray) w := by
  obtain ⟨i, z, d, hi, hs, hb, hz, hzl, hu, hagg, _⟩ := ht.info
  have h1 : (isAgg t).run P w = .ok true w := by
    rw [ha] at hagg
    simp only [isAgg, Sem.run_bind, run_underlying hu, Result.andThen_ok]
    cases d <;> simp at hagg <;> rfl
  have h2 : (sizeOf t).run P w = .ok ti.size w := by simp [sizeOf, typeInfo, hi, hs]
  have h3 : (loadCells ⟨b, o, none⟩ ti.size).run P w = .ok vs.toArray w := by
    rw [← hl]
    exact run_loadCells_list (P := P) (w := w) ⟨b, o, none⟩ vs (fun j v hj => by rw [add_at]; exact hc j v hj)
  simp only [loadVar, Sem.run_bind, h1, Result.andThen_ok, if_true, h2, h3]
  rfl
theorem run_loadVar_one {t : Nat} {ti : TI} (ht : TyOk P t ti) (ha : ti.agg = false) {b o : Nat} {v : Value}
    (hc : w.cell? ⟨b, o, none⟩ = some v) : (loadVar t ⟨b, o, none⟩).run P w = .ok v w := by
  obtain ⟨i, z, d, hi, hs, hb, hz, hzl, hu, hagg, _⟩ := ht.info
  have h1 : (isAgg t).run P w = .ok false w := by
    rw [ha] at hagg
    simp only [isAgg, Sem.run_bind, run_underlying hu, Result.andThen_ok]
    cases d <;> simp at hagg <;> rfl
  simp only [loadVar, Sem.run_bind, h1, Result.andThen_ok, Bool.false_eq_true, if_false]
  simp [Go.load, Sem.run, hc]
theorem loadFrom_sound {t : Nat} {ti : TI} (ht : TyOk P t ti) {lazy : Bool} {cs : List V} {vs : List Value} (hl : RlL A (Ok N A obs w) w cs vs) (hz : lazy = true → RlL [] (Ok N A obs w) w cs vs) {b o off : Nat}
    (hc : ∀ i v, vs[i]? = some v → w.cell? ⟨b, o + i, none⟩ = some v ∧ v.oneCell' = true) {K : V → Option α} (h : loadFrom ti lazy cs off K = some r) :
    ∃ v vv, K v = some r ∧ (∀ w2 : World, (∀ i v, vs[i]? = some v → w2.cell? ⟨b, o + i, none⟩ = some v) → (loadVar t ⟨b, o + off, none⟩).run P w2 = .ok vv w2) ∧ Rl A (Ok N A obs w) w v vv := by
  have hlv := (show ti.leaves.length = ti.size from by obtain ⟨_, _, _, _, _, _, _, _, _, _, _, _, h, _⟩ := ht.info; exact h)
  unfold loadFrom at h
  cases ha : ti.agg with
  | true =>
    rw [ha] at h
    simp only [cond_true] at h
    have fin : ∀ (xs : List V) (us : List Value), RlL A (Ok N A obs w) w xs us → us = (vs.drop off).take ti.size → us.length = ti.size → K (.agg xs) = some r →
        ∃ v vv, K v = some r ∧ (∀ w2 : World, (∀ i v, vs[i]? = some v → w2.cell? ⟨b, o + i, none⟩ = some v) → (loadVar t ⟨b, o + off, none⟩).run P w2 = .ok vv w2) ∧ Rl A (Ok N A obs w) w v vv := by
      intro xs us hx e hn hk
      have hidx : ∀ i v, us[i]? = some v → vs[off + i]? = some v := fun i v hv => by
        rw [e, List.getElem?_take] at hv
        split at hv
        · rw [List.getElem?_drop] at hv
          exact hv
        · cases hv
      refine ⟨_, _, hk, fun w2 hc2 => run_loadVar_agg ht ha hn (fun i v hv => by rw [Nat.add_assoc]; exact hc2 _ v (hidx i v hv)), ?_⟩
      simp only [Rl]
      refine ⟨_, rfl, by simpa using hx, fun x hx => ?_⟩
      obtain ⟨i, hi⟩ := List.getElem?_of_mem (by simpa using hx : x ∈ us)
      exact (hc _ x (hidx i x hi)).2
    cases hb : Nat.ble ti.leaves.length 48 with
    | true =>
      rw [hb] at h
      simp only [cond_true] at h
      obtain ⟨xs, h1, h2, h3⟩ := leavesOf_sound hl _ _ h
      rw [hlv] at h2 h3
      refine fin xs _ h2 rfl ?_ h1
      simp only [List.length_take, List.length_drop]
      split at h3 <;> omega
    | false =>
      rw [hb] at h
      simp only [cond_false] at h
      obtain ⟨h1, h2⟩ := must_some h
      have h1 := Nat.le_of_ble_eq_true h1
      rw [hl.length] at h1
      exact fin _ _ ((hl.drop off).take ti.size) rfl (by simp only [List.length_take, List.length_drop]; omega) h2
  | false =>
    rw [ha] at h
    simp only [cond_false] at h
    have fin : ∀ (x : V), (∃ y, cs[off]? = some y ∧ (∀ v, Rl A (Ok N A obs w) w y v → Rl A (Ok N A obs w) w x v)) → K x = some r → ∃ v vv, K v = some r ∧ (∀ w2 : World, (∀ i v, vs[i]? = some v → w2.cell? ⟨b, o + i, none⟩ = some v) → (loadVar t ⟨b, o + off, none⟩).run P w2 = .ok vv w2) ∧ Rl A (Ok N A obs w) w v vv := by
      rintro x ⟨y, hy, hxy⟩ hk
      obtain ⟨v, hv, hr⟩ := hl.get off y hy
      exact ⟨x, v, hk, fun w2 hc2 => run_loadVar_one ht ha (hc2 off v hv), hxy v hr⟩
    split at h
    · cases lazy with
      | true =>
        simp only [cond_true] at h
        obtain ⟨h1, h2⟩ := must_some h
        have h1 : off < cs.length := of_decide_eq_true h1
        obtain ⟨v, hv, hr⟩ := (hz rfl).get off cs[off] (List.getElem?_eq_getElem h1)
        exact ⟨_, v, h2, fun w2 hc2 => run_loadVar_one ht ha (hc2 off v hv), by simp only [Rl]; exact RlAt.of (List.getElem?_eq_getElem h1) hr⟩
      | false =>
        simp only [cond_false] at h
        replace h := get_some h
        obtain ⟨x, e, h⟩ := h
        exact fin _ ⟨x, e, fun _ h => h⟩ h
    · replace h := asInt_some h
      obtain ⟨n, e, h⟩ := h; exact fin _ ⟨_, e, fun _ h => h⟩ h
    · replace h := asBool_some h
      obtain ⟨n, e, h⟩ := h; exact fin _ ⟨_, e, fun _ h => h⟩ h
    · replace h := asStr_some h
      obtain ⟨n, e, h⟩ := h; exact fin _ ⟨_, e, fun _ h => h⟩ h
    · replace h := get_some h
      obtain ⟨x, e, h⟩ := h; exact fin _ ⟨x, e, fun _ h => h⟩ h
theorem load_calm (hC : CfgOk P C) {t : Nat} {p : V} {pv : Value} (hS : St C N s0 n0 A obs w) (hp : Rl A (Ok N A obs w) w p pv) {K : V → Option α} (h : load C obs t p K = some r) :
    ∃ v vv b, K v = some r ∧ (∀ w2 : World, w2.heap[b]? = w.heap[b]? → (Instr.loadAt t pv).run P w2 = .ok vv w2) ∧ Rl A (Ok N A obs w) w v vv ∧
      ((∃ cs off, p = .pin cs off ∧ Ok N A obs w b) ∨ ∃ id off y o, p = .ptr id off ∧ A[id]? = some y ∧ blockOf y = some b ∧ obs[id]? = some o ∧ o.isGone = false) := by
  unfold load at h
  replace h := need_some h
  obtain ⟨ti, hti, h⟩ := h
  have ht := hC.ty t ti hti
  have at2 : ∀ {b : Nat} {vs : List Value} {o : Nat}, (∀ i v, vs[i]? = some v → w.cell? ⟨b, o + i, none⟩ = some v) → ∀ w2 : World, w2.heap[b]? = w.heap[b]? → ∀ i v, vs[i]? = some v → w2.cell? ⟨b, o + i, none⟩ = some v := fun hc w2 hh i v hv =>
    (World.cell?_of_block (w := w) hh).trans (hc i v hv)
  cases p with
  | ptr id off =>
    dsimp only at h
    simp only [Rl] at hp
    obtain ⟨g, hg, rfl⟩ := hp
    cases hv : A[id]? with
    | none => simp [hv] at hg
    | some v =>
      rw [hv] at hg; simp at hg
      split at h
      · rename_i bt cs sh ho
        obtain ⟨g', cur, rfl, hh, hl, h1⟩ := hS.box id bt cs sh v ho hv
        simp [blockOf] at hg; subst hg
        have hc : ∀ i x, cur.toList[i]? = some x → w.cell? ⟨g', 0 + i, none⟩ = some x ∧ x.oneCell' = true := fun i x hx => ⟨by rw [Nat.zero_add, cell_of_row w g' i cur bt (0, 0) hh]; simpa using hx, h1 x (List.mem_of_getElem? hx)⟩
        obtain ⟨v, vv, hk, hr, hR⟩ := loadFrom_sound (P := P) (b := g') (o := 0) ht hl.1 (fun h => by cases h) hc h
        refine ⟨v, vv, g', hk, fun w2 hh2 => ?_, hR, .inr ⟨id, off, _, _, rfl, hv, rfl, ho, rfl⟩⟩
        have := hr w2 (at2 (fun i x hx => (hc i x hx).1) w2 hh2)
        simpa [Instr.loadAt, Instr.sureAddr] using this
      · rename_i bt n cs sh ho
        obtain ⟨ti', a, c, vs, _, _, e, hn, _, hl, h1, hat, hbk⟩ := hS.rowAt ho hv
        have ha := hbk g hg
        have fin : (∀ i v, vs[i]? = some v → w.cell? ⟨g, 0 + i, none⟩ = some v ∧ v.oneCell' = true) → ∃ v vv b, K v = some r ∧ (∀ w2 : World, w2.heap[b]? = w.heap[b]? → (Instr.loadAt t (.pointer (some ⟨g, off, none⟩))).run P w2 = .ok vv w2) ∧ Rl A (Ok N A obs w) w v vv ∧
            ((∃ cs off', V.ptr id off = .pin cs off' ∧ Ok N A obs w b) ∨ ∃ id' off' y o, V.ptr id off = .ptr id' off' ∧ A[id']? = some y ∧ blockOf y = some b ∧ obs[id']? = some o ∧ o.isGone = false) := by
          intro hc
          obtain ⟨v', vv, hk, hr, hR⟩ := loadFrom_sound (P := P) (b := g) (o := 0) ht hl.lift (fun _ => hl) hc h
          refine ⟨v', vv, g, hk, fun w2 hh2 => ?_, hR, .inr ⟨id, off, _, _, rfl, hv, hg, ho, rfl⟩⟩
          have := hr w2 (at2 (fun i x hx => (hc i x hx).1) w2 hh2)
          simpa [Instr.loadAt, Instr.sureAddr] using this
        rcases hat with ⟨_, rfl⟩ | ⟨b, o, e2, hc⟩
        · exact fin (fun i x hx => by simp at hx)
        · rw [ha] at e2; cases e2
          exact fin hc
      · cases h
  | pin cs off =>
    dsimp only at h
    simp only [Rl] at hp
    obtain ⟨b, o, vs, rfl, hl, hm⟩ := hp
    obtain ⟨v', vv, hk, hr, hR⟩ := loadFrom_sound (P := P) (b := b) (o := o) ht hl.lift (fun _ => hl) hm.2 h
    refine ⟨v', vv, b, hk, fun w2 hh2 => ?_, hR, .inl ⟨cs, off, rfl, hm.1⟩⟩
    have := hr w2 (at2 (fun i x hx => (hm.2 i x hx).1) w2 hh2)
    simpa [Instr.loadAt, Instr.sureAddr] using this
  | _ => dsimp only at h; cases h
theorem load_sound (hC : CfgOk P C) {t : Nat} {p : V} {pv : Value} (hS : St C N s0 n0 A obs w) (hp : Rl A (Ok N A obs w) w p pv) {K : V → Option α} (h : load C obs t p K = some r) :
    ∃ v vv, K v = some r ∧ (Instr.loadAt t pv).run P w = .ok vv w ∧ Rl A (Ok N A obs w) w v vv := by
  obtain ⟨v, vv, b, hk, hr, hR, _⟩ := load_calm hC hS hp h
  exact ⟨v, vv, hk, hr w rfl, hR⟩
theorem setOb_set : ∀ (obs : Obs) (i : Nat) (o : Ob), setOb obs i o = obs.set i o
  | [], i, _ => by cases i <;> rfl
  | _ :: _, 0, _ => rfl
  | _ :: r, i + 1, o => by simp only [setOb, List.set_cons_succ, setOb_set r i o]
theorem shutAt_twice {obs : Obs} {id t n : Nat} {cs : List V} {sh : Bool} (h : (PI.shutAt obs id)[id]? = some (.row t n cs sh)) : PI.shutAt (PI.shutAt obs id) id = PI.shutAt obs id := by
  have hsh : sh = true := by
    unfold PI.shutAt at h
    cases ho : obs[id]? with
    | none => rw [ho] at h; simp only [ho] at h; cases h
    | some o =>
      rw [ho] at h
      dsimp only at h
      rw [setOb_set, List.getElem?_set] at h
      split at h
      · split at h
        · cases o with
          | gone => simp [shutOb] at h
          | nrow hl t n cs => cases hl <;> simp [shutOb] at h; exact h.2.2.2
          | box => simp [shutOb] at h
          | row => simp [shutOb] at h; exact h.2.2.2
        · cases h
      · rename_i hne; exact absurd rfl hne
  subst hsh
  generalize hob : PI.shutAt obs id = ob at h ⊢
  unfold PI.shutAt
  rw [h]
  simp only [shutOb]
  obtain ⟨hl, he⟩ := List.getElem?_eq_some_iff.1 h
  rw [setOb_set]
  rw [← he, List.set_getElem_self]
theorem intoRow_sound {x : V} {v : Value} (hS : St C N s0 n0 A obs w) (hv : Rl A (Ok N A obs w) w x v) {K : V → Obs → Option α} (h : intoRow obs x K = some r) :
    ∃ y obs', K y obs' = some r ∧ After C N s0 n0 A obs w A obs' w ∧ Rl [] (Ok N A obs' w) w y v ∧ v.oneCell' = true ∧ v.cells = #[v] := by
  unfold intoRow at h
  split at h
  · rename_i id
    split at h
    · rename_i t n cs sh ho
      have hv' := hv
      simp only [Rl] at hv'
      have hb := hS.borrow ho hv'
      have := oneCell_of_solid (hS.shutAt id).st hb rfl
      exact ⟨_, _, h, hS.shutAt id, hb.free rfl, this⟩
    · rename_i t n cs ho
      have hv' := hv
      simp only [Rl] at hv'
      have hs : (PI.shutAt obs id)[id]? = some (.row t n (bareL cs) true) := by
        unfold PI.shutAt
        rw [ho]
        dsimp only
        rw [setOb_get, if_pos rfl, ho]
        rfl
      have hb := (hS.shutAt id).st.borrow hs hv'
      rw [shutAt_twice hs] at hb
      have := oneCell_of_solid (hS.shutAt id).st hb rfl
      exact ⟨_, _, h, hS.shutAt id, hb.free rfl, this⟩
    · cases h
  · rename_i cs off
    obtain ⟨n, cs', e, hK⟩ := asSl_some h
    simp only [Rl] at hv
    obtain ⟨y, hy, hr⟩ := hv.get
    rw [e] at hy; cases hy
    exact ⟨_, _, hK, After.refl hS, hr, oneCell_of_solid hS (hr.lift (A := A)) rfl⟩
  · simp only [Rl] at hv
    subst hv
    exact ⟨_, _, h, After.refl hS, by simp only [Rl]; exact ⟨none, 0, [], rfl, Nat.le_refl _, by simp [RlL], .inl ⟨rfl, rfl⟩⟩, rfl, rfl⟩
  · cases h
  · cases h
  · cases h
  · cases h
  · cases h
  · cases h
  · cases h
  · cases h
  · rename_i h1 h2 h3 h4 h5 h6 h7 h8 h9 h10 h11
    refine ⟨_, _, h, After.refl hS, hv.free ?_, oneCell_of_solid hS hv ?_⟩
    · cases x <;> first | (simp only [Rl] at hv; done) | simp_all [V.idFree]
    · cases x <;> first | (simp only [Rl] at hv; done) | simp_all [V.solid]
theorem intoRows_sound : ∀ {xs : List V} {vs : List Value} {obs : Obs}, St C N s0 n0 A obs w → RlL A (Ok N A obs w) w xs vs → ∀ {K : List V → Obs → Option α}, intoRows obs xs K = some r →
    ∃ ys obs', K ys obs' = some r ∧ After C N s0 n0 A obs w A obs' w ∧ RlL [] (Ok N A obs' w) w ys vs ∧ (∀ v ∈ vs, v.oneCell' = true) ∧ (∀ v ∈ vs, v.cells = #[v])
  | [], [], obs, hS, _, K, h => ⟨[], obs, by simpa [intoRows] using h, After.refl hS, by simp [RlL], by simp, by simp⟩
  | [], _ :: _, _, _, hl, _, _ => by simp [RlL] at hl
  | _ :: _, [], _, _, hl, _, _ => by simp [RlL] at hl
  | x :: xs, v :: vs, obs, hS, hl, K, h => by
    simp only [RlL] at hl
    simp only [intoRows] at h
    obtain ⟨y, obs1, h1, a1, r1, o1, c1⟩ := intoRow_sound hS hl.1 h
    obtain ⟨ys, obs2, h2, a2, r2, o2, c2⟩ := intoRows_sound a1.st (RlL.mono a1.mono xs hl.2) h1
    refine ⟨y :: ys, obs2, h2, a1.trans a2, ?_, ?_, ?_⟩
    · simp only [RlL]; exact ⟨Rl.mono a2.mono.nil y r1, r2⟩
    · intro u hu; rcases List.mem_cons.1 hu with rfl | hu; · exact o1
      · exact o2 u hu
    · intro u hu; rcases List.mem_cons.1 hu with rfl | hu; · exact c1
      · exact c2 u hu
theorem run_storeVar_at {t : Nat} {ti : TI} (ht : TyOk P t ti) {g o bt : Nat} {cur : Array Value} (hg : w.heap[g]? = some (.cells cur bt (0, 0))) {v : Value} (hsz : v.cells.size = ti.size) (hin : o + v.cells.size ≤ cur.size)
    (h1 : ∀ x ∈ v.cells.toList, x.oneCell' = true) :
    (storeVar t ⟨g, o, none⟩ v).run P w = .ok () (w.setRow g (cur.toList.take o ++ v.cells.toList ++ cur.toList.drop (o + v.cells.toList.length)).toArray) := by
  obtain ⟨i, z, d, hi, hs, hb, hz, hzl, hu, hagg, _⟩ := ht.info
  have h2 : (sizeOf t).run P w = .ok ti.size w := by simp [sizeOf, typeInfo, hi, hs]
  have h3 := run_storeCells_at P g o bt v.cells.toList 0 cur w hg (by simpa using hin) h1
  simp only [Nat.add_zero] at h3
  simp only [storeVar, Sem.run_bind, h2, Result.andThen_ok, hsz, ne_eq, not_true_eq_false, if_false]
  exact h3
theorem take_splice {β : Type} (l m : List β) (off k : Nat) (h : off + m.length ≤ k) : (l.take off ++ m ++ l.drop (off + m.length)).take k = (l.take k).take off ++ m ++ (l.take k).drop (off + m.length) := by
  rw [List.append_assoc, List.append_assoc, List.take_append, List.take_append, List.take_take, List.take_take]
  simp only [List.length_take]
  by_cases hl : off ≤ l.length
  · rw [Nat.min_eq_left hl, Nat.min_eq_right (show off ≤ k by omega), Nat.min_eq_left (show off ≤ k by omega), List.take_of_length_le (show m.length ≤ k - off by omega)]
    congr 2
    rw [List.drop_take]
    congr 1
    omega
  · have hd : l.drop (off + m.length) = [] := List.drop_eq_nil_of_le (by omega)
    have hd' : (l.take k).drop (off + m.length) = [] := List.drop_eq_nil_of_le (by simp; omega)
    rw [hd, hd', Nat.min_eq_right (show l.length ≤ off by omega), Nat.min_eq_right (show off ≤ k by omega), Nat.min_eq_left (show off ≤ k by omega), List.take_of_length_le (show m.length ≤ k - l.length by omega)]
    simp
theorem store_box {id bt : Nat} {cs : List V} {v : Value} {off : Nat} (hS : St C N s0 n0 A obs w) (ho : obs[id]? = some (.box bt cs false)) (hv : A[id]? = some v) {g : Nat} (hg : blockOf v = some g)
    {t : Nat} {ti : TI} (ht : TyOk P t ti) {x : Value} {xs : List V} (hx : BoxR C A (Ok N A obs w) w bt xs x.cells.toList) (h1 : ∀ y ∈ x.cells.toList, y.oneCell' = true) (hsz : xs.length = ti.size) (hin : off + xs.length ≤ cs.length) :
    ∃ w', (storeVar t ⟨g, off, none⟩ x).run P w = .ok () w' ∧ After C N s0 n0 A obs w A (setOb obs id (.box bt (splice cs off xs) false)) w' := by
  obtain ⟨g', cur, rfl, hh, hl, hone⟩ := hS.box id bt cs false v ho hv
  simp [blockOf] at hg; subst hg
  have hlen := hl.1.length
  have hxl := hx.1.length
  simp only [Array.length_toList] at hlen hxl
  refine ⟨_, run_storeVar_at ht hh (by omega) (by omega) h1, ?_⟩
  refine hS.write (o' := .box bt (splice cs off xs) false) ho rfl hv rfl rfl rfl (by simp) (fun b hb hne => setRow_other w g' b _ hne) rfl rfl rfl ?_ ?_
  · intro t1 cs1 sh1 e
    cases e
    refine ⟨g', _, rfl, setRow_heap w g' cur _ bt (0, 0) hh, ?_, ?_⟩
    · simpa using hl.splice off hx
    · intro y hy
      simp only [List.mem_append, List.append_assoc] at hy
      rcases hy with hy | hy | hy
      · exact hone y (List.mem_of_mem_take hy)
      · exact h1 y hy
      · exact hone y (List.mem_of_mem_drop hy)
  · intro t1 n1 cs1 sh1 e; cases e
theorem store_row {id bt n : Nat} {cs : List V} {v : Value} {off : Nat} (hS : St C N s0 n0 A obs w) (ho : obs[id]? = some (.row bt n cs false)) (hv : A[id]? = some v) {g : Nat} (hg : blockOf v = some g)
    {t : Nat} {ti : TI} (ht : TyOk P t ti) {x : Value} {xs : List V} (hx : RlL [] (Ok N A obs w) w xs x.cells.toList) (h1 : ∀ y ∈ x.cells.toList, y.oneCell' = true) (hsz : xs.length = ti.size) (hin : off + xs.length ≤ cs.length) :
    ∃ w', (storeVar t ⟨g, off, none⟩ x).run P w = .ok () w' ∧ After C N s0 n0 A obs w A (setOb obs id (.row bt n (splice cs off xs) false)) w' := by
  obtain ⟨tb, vs, hC, hp, hown, hl, hone⟩ := hS.row id bt n cs false v ho hv
  have hown' := hown
  obtain ⟨q1, q2⟩ := hown
  have hlen := hl.length
  have hxl := hx.length
  simp only [Array.length_toList] at hxl
  rcases q2 with ⟨rfl, _⟩ | ⟨g', cap, cur, rfl, q4, hh, q6, q7, q8, q9⟩
  · simp [blockOf] at hg
  · simp [blockOf] at hg; subst hg
    have hcap : n * tb.size ≤ cap * tb.size := Nat.mul_le_mul_right _ q6
    refine ⟨_, run_storeVar_at ht hh (by omega) (by omega) h1, ?_⟩
    refine hS.write (o' := .row bt n (splice cs off xs) false) ho rfl hv rfl rfl rfl (by simp) (fun b hb hne => setRow_other w g' b _ hne) rfl rfl rfl ?_ ?_
    · intro t1 cs1 sh1 e; cases e
    · intro t1 n1 cs1 sh1 e
      cases e
      have hlv : vs.length = n * tb.size := q1
      refine ⟨tb, vs.take off ++ x.cells.toList ++ vs.drop (off + x.cells.toList.length), hC, hp, ⟨?_, .inr ⟨g', cap, _, rfl, q4, setRow_heap w g' cur _ bt (0, 0) hh, q6, q7, ?_, ?_⟩⟩, hl.splice off hx, ?_⟩
      · simp only [List.length_append, List.length_take, List.length_drop, Array.length_toList]; omega
      · simp only [List.size_toArray, List.length_append, List.length_take, List.length_drop, Array.length_toList]; omega
      · rw [← q9]
        have hl9 : vs.length = (cur.toList.take (n * tb.size)).length := by rw [q9]
        simp only [List.length_take, Array.length_toList] at hl9
        exact take_splice cur.toList x.cells.toList off (n * tb.size) (by simp only [Array.length_toList]; omega)
      · intro y hy
        simp only [List.mem_append, List.append_assoc] at hy
        rcases hy with hy | hy | hy
        · exact hone y (List.mem_of_mem_take hy)
        · exact h1 y hy
        · exact hone y (List.mem_of_mem_drop hy)
structure Owned (A : List Value) (w : World) (obsK obs' : Obs) (ys : List V) (vs : List Value) (D : List Nat) : Prop where
  row : RowL w ys vs
  sep : sepL w ys vs
  feet : ∀ b, footL w ys vs b → ∃ d ∈ D, ∃ o u, obsK[d]? = some o ∧ A[d]? = some u ∧ foot w o u b
  objs : ∀ d ∈ D, ∃ o u, obsK[d]? = some o ∧ A[d]? = some u ∧ o.isOpen = true ∧ o.isRow = true
  get : ∀ (j : Nat), obs'[j]? = if j ∈ D then some .gone else obsK[j]?
  len : obs'.length = obsK.length
theorem ownV_sound (hS : St C N s0 n0 A obs w) {obsK : Obs} (hKd : ∀ (j : Nat) (o : Ob), obsK[j]? = some o → o.isGone = false → obs[j]? = some o) {x : V} {v : Value} {ok : Nat → Prop} (hv : Rl A ok w x v) {K : V → Obs → Option α} (h : ownV C obsK x K = some r) :
    ∃ y obs' D, K y obs' = some r ∧ Owned A w obsK obs' [y] [v] D ∧ v.oneCell' = true ∧ v.cells = #[v] := by
  have flat : ∀ (y : V), Rl [] NoB w y v → K y obsK = some r → v.oneCell' = true ∧ v.cells = #[v] → ∃ y obs' D, K y obs' = some r ∧ Owned A w obsK obs' [y] [v] D ∧ v.oneCell' = true ∧ v.cells = #[v] := fun y hy hk h1 =>
    ⟨y, obsK, [], hk, ⟨by simp only [RowL]; exact ⟨RowC_flat hy, trivial⟩, by simp [sepL, footL], fun b hb => by
      simp only [footL] at hb
      exact (hb.resolve_right (by simp) |> footC_flat hy b).elim, by simp, by simp, rfl⟩, h1⟩
  unfold ownV at h
  have key : ∀ {k e m : Nat} {c : List V} {o2 : Ob} {ne : Bool} {te : TI}, x = .ref k → C.ty e = some te → obsK[k]? = some o2 → (o2 = .nrow [] e m c ∧ ne = true) ∨ (o2 = .row e m c false ∧ ne = false ∧ c.all flatV = true) → K (.own ne e te.size m c) (setOb obsK k .gone) = some r →
      ∃ y obs' D, K y obs' = some r ∧ Owned A w obsK obs' [y] [v] D ∧ v.oneCell' = true ∧ v.cells = #[v] := by
    intro k e m c o2 ne te hx hte hk ho2 hK
    subst hx
    simp only [Rl] at hv
    have hg : o2.isGone = false := by rcases ho2 with ⟨rfl, _⟩ | ⟨rfl, _⟩ <;> rfl
    obtain ⟨c1, c2, c3, c4⟩ := hS.ownCell hte (hKd k o2 hk hg) hv ho2
    have hpl : Place v := hS.one k v hv
    refine ⟨_, _, [k], hK, ⟨by simp only [RowL]; exact ⟨c1, trivial⟩, by simp [sepL, footL], fun b hb => ?_, fun d hd => ?_, fun j => ?_, setOb_length _ _ _⟩, ?_⟩
    · simp only [footL] at hb
      exact ⟨k, by simp, o2, v, hk, hv, c2 b (hb.resolve_right (by simp))⟩
    · simp at hd; subst hd; exact ⟨o2, v, hk, hv, c3, c4⟩
    · rw [setOb_get]
      by_cases e : j = k
      · subst e; simp [hk]
      · simp [e]
    · rcases hpl with ⟨a, n, c, rfl⟩ | ⟨a, rfl⟩ <;> exact ⟨rfl, rfl⟩
  split at h
  · rename_i k
    split at h
    · rename_i e m c hk
      replace h := need_some h
      obtain ⟨te, hte, h⟩ := h
      obtain ⟨h1, h⟩ := must_some h
      exact key rfl hte hk (.inr ⟨rfl, rfl, h1⟩) h
    · rename_i e m c hk
      replace h := need_some h
      obtain ⟨te, hte, h⟩ := h
      exact key rfl hte hk (.inl ⟨rfl, rfl⟩) h
    · cases h
  · simp only [Rl] at hv
    subst hv
    exact flat _ (by simp only [Rl]; exact ⟨none, 0, [], rfl, Nat.le_refl _, by simp [RlL], .inl ⟨rfl, rfl⟩⟩) h ⟨rfl, rfl⟩
  · obtain ⟨h1, h⟩ := must_some h
    exact flat _ (flat_rl h1 hv) h (oneCell_of_solid hS hv (by cases x <;> simp_all [flatV, V.solid]))
theorem ownIn_sound (hS : St C N s0 n0 A obs w) {ok : Nat → Prop} : ∀ {xs : List V} {vs : List Value} {obsK : Obs}, (∀ (j : Nat) (o : Ob), obsK[j]? = some o → o.isGone = false → obs[j]? = some o) → RlL A ok w xs vs → ∀ {K : List V → Obs → Option α}, ownIn C obsK xs K = some r →
    ∃ ys obs' D, K ys obs' = some r ∧ Owned A w obsK obs' ys vs D ∧ (∀ v ∈ vs, v.oneCell' = true) ∧ (∀ v ∈ vs, v.cells = #[v])
  | [], [], obsK, _, _, K, h => ⟨[], obsK, [], by simpa [ownIn] using h, ⟨by simp [RowL], by simp [sepL], by simp [footL], by simp, by simp, rfl⟩, by simp, by simp⟩
  | [], _ :: _, _, _, hl, _, _ => by simp [RlL] at hl
  | _ :: _, [], _, _, hl, _, _ => by simp [RlL] at hl
  | x :: xs, v :: vs, obsK, hKd, hl, K, h => by
    simp only [RlL] at hl
    simp only [ownIn] at h
    obtain ⟨y, obs1, D1, h1, q1, o1, c1⟩ := ownV_sound hS hKd hl.1 h
    have hKd1 : ∀ (j : Nat) (o : Ob), obs1[j]? = some o → o.isGone = false → obs[j]? = some o ∧ j ∉ D1 ∧ obsK[j]? = some o := fun j o hj hg => by
      rw [q1.get j] at hj
      split at hj
      · cases hj; simp [Ob.isGone] at hg
      · rename_i hn; exact ⟨hKd j o hj hg, hn, hj⟩
    obtain ⟨ys, obs2, D2, h2, q2, o2, c2⟩ := ownIn_sound hS (fun j o a b => (hKd1 j o a b).1) hl.2 h1
    have lift : ∀ d ∈ D2, ∃ o u, obs1[d]? = some o ∧ d ∉ D1 ∧ obsK[d]? = some o ∧ A[d]? = some u ∧ o.isOpen = true ∧ o.isRow = true := fun d hd => by
      obtain ⟨o, u, a, b, c, e⟩ := q2.objs d hd
      obtain ⟨_, a2, a3⟩ := hKd1 d o a (open_gone c)
      exact ⟨o, u, a, a2, a3, b, c, e⟩
    refine ⟨y :: ys, obs2, D1 ++ D2, h2, ⟨?_, ?_, fun b hb => ?_, fun d hd => ?_, fun j => ?_, q2.len.trans q1.len⟩, ?_, ?_⟩
    · have := q1.row; simp only [RowL] at this ⊢; exact ⟨this.1, q2.row⟩
    · simp only [sepL]
      refine ⟨fun b f1 f2 => ?_, q2.sep⟩
      obtain ⟨d1, hd1, p1, u1, a1, a2, a3⟩ := q1.feet b (by simp only [footL]; exact .inl f1)
      obtain ⟨d2, hd2, p2, u2, b1, b2, b3⟩ := q2.feet b f2
      obtain ⟨p2', u2', e1, e2, e3, e4, e5, e6⟩ := lift d2 hd2
      rw [b1] at e1; cases e1
      rw [b2] at e4; cases e4
      obtain ⟨p1', u1', e1', e2', e3', e4'⟩ := q1.objs d1 hd1
      rw [a1] at e1'; cases e1'
      have := hS.inj d1 d2 p1 p2 u1 u2 b (hKd d1 p1 a1 (open_gone e3')) (hKd d2 p2 e3 (open_gone e5)) (open_gone e3') (open_gone e5) a2 b2 a3 b3
      subst this; exact e2 hd1
    · simp only [footL] at hb
      rcases hb with hb | hb
      · obtain ⟨d, hd, r⟩ := q1.feet b (by simp only [footL]; exact .inl hb)
        exact ⟨d, by simp [hd], r⟩
      · obtain ⟨d, hd, o, u, a, b', c⟩ := q2.feet b hb
        obtain ⟨o', u', e1, e2, e3, e4, e5, e6⟩ := lift d hd
        rw [a] at e1; cases e1
        exact ⟨d, by simp [hd], o, u, e3, b', c⟩
    · rcases List.mem_append.1 hd with hd | hd
      · exact q1.objs d hd
      · obtain ⟨o', u', e1, e2, e3, e4, e5, e6⟩ := lift d hd
        exact ⟨o', u', e3, e4, e5, e6⟩
    · rw [q2.get j]
      by_cases e2 : j ∈ D2
      · simp [e2]
      · rw [if_neg e2, q1.get j]
        by_cases e1 : j ∈ D1 <;> simp [e1, e2]
    · intro u hu; rcases List.mem_cons.1 hu with rfl | hu; · exact o1
      · exact o2 u hu
    · intro u hu; rcases List.mem_cons.1 hu with rfl | hu; · exact c1
      · exact c2 u hu
theorem sp_get {β : Type} {l m : List β} {off i : Nat} {x : β} (hin : off + m.length ≤ l.length) (h : (l.take off ++ m ++ l.drop (off + m.length))[i]? = some x) :
    ((i < off ∨ off + m.length ≤ i) ∧ l[i]? = some x) ∨ (off ≤ i ∧ i < off + m.length ∧ m[i - off]? = some x) := by
  rw [List.append_assoc, List.getElem?_append, List.getElem?_append] at h
  simp only [List.length_take, List.getElem?_take, List.getElem?_drop] at h
  by_cases c1 : i < off
  · rw [if_pos (by omega), if_pos c1] at h; exact .inl ⟨.inl c1, h⟩
  · rw [if_neg (by omega)] at h
    by_cases c2 : i < off + m.length
    · rw [if_pos (by omega)] at h
      exact .inr ⟨by omega, c2, by rw [← h]; congr 1; omega⟩
    · rw [if_neg (by omega)] at h
      exact .inl ⟨.inr (by omega), by rw [← h]; congr 1; omega⟩
theorem row_splice {cs ys : List V} {vs us : List Value} (off : Nat) (hin : off + ys.length ≤ cs.length) (h1 : RowL w cs vs) (s1 : sepL w cs vs) (h2 : RowL w ys us) (s2 : sepL w ys us) (hd : ∀ b, footL w cs vs b → ¬ footL w ys us b) :
    RowL w (splice cs off ys) (vs.take off ++ us ++ vs.drop (off + us.length)) ∧ sepL w (splice cs off ys) (vs.take off ++ us ++ vs.drop (off + us.length)) ∧ ∀ b, footL w (splice cs off ys) (vs.take off ++ us ++ vs.drop (off + us.length)) b → footL w cs vs b ∨ footL w ys us b := by
  have e1 := RowL.length h1
  have e2 := RowL.length h2
  have cl : ∀ (i : Nat) (z : V) (u : Value), (splice cs off ys)[i]? = some z → (vs.take off ++ us ++ vs.drop (off + us.length))[i]? = some u → (cs[i]? = some z ∧ vs[i]? = some u) ∨ (off ≤ i ∧ i < off + ys.length ∧ ys[i - off]? = some z ∧ us[i - off]? = some u) := fun i z u k1 k2 => by
    have k1 := sp_get hin k1
    have k2 := sp_get (by omega) k2
    rcases k1 with ⟨c1, k1⟩ | ⟨c1, c2, k1⟩
    · rcases k2 with ⟨c3, k2⟩ | ⟨c3, c4, k2⟩
      · exact .inl ⟨k1, k2⟩
      · omega
    · rcases k2 with ⟨c3, k2⟩ | ⟨c3, c4, k2⟩
      · omega
      · exact .inr ⟨c1, c2, k1, k2⟩
  refine ⟨(RowL_iff _ _).2 ⟨?_, fun i z u k1 k2 => ?_⟩, (sepL_iff _ _).2 fun i j x y v u b hij k1 k2 k3 k4 f1 f2 => ?_, fun b hb => ?_⟩
  · simp only [splice, List.length_append, List.length_take, List.length_drop]; omega
  · rcases cl i z u k1 k2 with ⟨a, b⟩ | ⟨_, _, a, b⟩
    · exact ((RowL_iff _ _).1 h1).2 i z u a b
    · exact ((RowL_iff _ _).1 h2).2 _ z u a b
  · rcases cl i x v k1 k2 with ⟨a1, a2⟩ | ⟨a0, a0', a1, a2⟩
    · rcases cl j y u k3 k4 with ⟨b1, b2⟩ | ⟨b0, b0', b1, b2⟩
      · exact s1.ne (by omega) a1 a2 b1 b2 f1 f2
      · exact hd b ((footL_iff _ _ _).2 ⟨_, _, _, a1, a2, f1⟩) ((footL_iff _ _ _).2 ⟨_, _, _, b1, b2, f2⟩)
    · rcases cl j y u k3 k4 with ⟨b1, b2⟩ | ⟨b0, b0', b1, b2⟩
      · exact hd b ((footL_iff _ _ _).2 ⟨_, _, _, b1, b2, f2⟩) ((footL_iff _ _ _).2 ⟨_, _, _, a1, a2, f1⟩)
      · exact s2.ne (by omega) a1 a2 b1 b2 f1 f2
  · obtain ⟨i, x, v, k1, k2, f⟩ := (footL_iff _ _ _).1 hb
    rcases cl i x v k1 k2 with ⟨a1, a2⟩ | ⟨_, _, a1, a2⟩
    · exact .inl ((footL_iff _ _ _).2 ⟨_, _, _, a1, a2, f⟩)
    · exact .inr ((footL_iff _ _ _).2 ⟨_, _, _, a1, a2, f⟩)
theorem store_nrow {id bt n : Nat} {cs : List V} {v : Value} {off : Nat} (hS : St C N s0 n0 A obs w) (ho : obs[id]? = some (.nrow [] bt n cs)) (hv : A[id]? = some v) {g : Nat} (hg : blockOf v = some g)
    {t : Nat} {ti : TI} (ht : TyOk P t ti) {x : Value} {xs : List V} {obs' : Obs} {D : List Nat} (hx : Owned A w (setOb obs id .gone) obs' xs x.cells.toList D) (h1 : ∀ y ∈ x.cells.toList, y.oneCell' = true) (hsz : xs.length = ti.size) (hin : off + xs.length ≤ cs.length) :
    ∃ w', (storeVar t ⟨g, off, none⟩ x).run P w = .ok () w' ∧ After C N s0 n0 A obs w A (setOb obs' id (.nrow [] bt n (splice cs off xs))) w' := by
  obtain ⟨tb, hC, hp, hown, hl, hone, hsep, hself, _⟩ := hS.nrow id [] bt n cs v ho hv
  simp only [plug] at hl hsep hself
  generalize hvs : cellsOf w v cs.length = vs at hown hl hone hsep hself
  have hown' := hown
  obtain ⟨q1, q2⟩ := hown
  have hlen := RowL.length hl
  have hxl := RowL.length hx.row
  simp only [Array.length_toList] at hxl
  rcases q2 with ⟨rfl, _⟩ | ⟨g', cap, cur, rfl, q4, hh, q6, q7, q8, q9⟩
  · simp [blockOf] at hg
  · simp [blockOf] at hg; subst hg
    have hcap : n * tb.size ≤ cap * tb.size := Nat.mul_le_mul_right _ q6
    refine ⟨_, run_storeVar_at ht hh (by omega) (by omega) h1, ?_⟩
    have hlv : vs.length = n * tb.size := q1
    have hown2 : (w.setRow g' (cur.toList.take off ++ x.cells.toList ++ cur.toList.drop (off + x.cells.toList.length)).toArray).ownsRow 0 bt tb.size (.slice (some ⟨g', 0, none⟩) n cap) n (vs.take off ++ x.cells.toList ++ vs.drop (off + x.cells.toList.length)) := by
      refine ⟨?_, .inr ⟨g', cap, _, rfl, q4, setRow_heap w g' cur _ bt (0, 0) hh, q6, q7, ?_, ?_⟩⟩
      · simp only [List.length_append, List.length_take, List.length_drop, Array.length_toList]; omega
      · simp only [List.size_toArray, List.length_append, List.length_take, List.length_drop, Array.length_toList]; omega
      · rw [← q9]
        have hl9 : vs.length = (cur.toList.take (n * tb.size)).length := by rw [q9]
        simp only [List.length_take, Array.length_toList] at hl9
        exact take_splice cur.toList x.cells.toList off (n * tb.size) (by simp only [Array.length_toList]; omega)
    have inner : ∀ b, footL w cs vs b → foot w (.nrow [] bt n cs) (.slice (some ⟨g', 0, none⟩) n cap) b := fun b hb => .inr (by dsimp only [plug]; rw [hvs]; exact hb)
    have oth : ∀ d ∈ D, ∃ o u, d ≠ id ∧ obs[d]? = some o ∧ A[d]? = some u ∧ o.isOpen = true ∧ o.isRow = true ∧ (setOb obs id .gone)[d]? = some o := fun d hd => by
      obtain ⟨o, u, a, b, c, e⟩ := hx.objs d hd
      have a' := a
      rw [setOb_get] at a
      by_cases e1 : d = id
      · rw [if_pos e1, e1, ho] at a; simp at a; subst a; simp [Ob.isOpen] at c
      · rw [if_neg e1] at a; exact ⟨o, u, e1, a, b, c, e, a'⟩
    have ft : ∀ b, footL w xs x.cells.toList b → ∃ d ∈ D, ∃ o u, d ≠ id ∧ obs[d]? = some o ∧ A[d]? = some u ∧ foot w o u b ∧ o.isOpen = true := fun b hb => by
      obtain ⟨d, hd, o, u, a, b', c⟩ := hx.feet b hb
      obtain ⟨o', u', e1, e2, e3, e4, e5, e6⟩ := oth d hd
      rw [a] at e6; cases e6
      rw [b'] at e3; cases e3
      exact ⟨d, hd, o, u, e1, e2, b', c, e4⟩
    have farF : ∀ b, footL w xs x.cells.toList b → ¬ foot w (.nrow [] bt n cs) (.slice (some ⟨g', 0, none⟩) n cap) b := fun b hb hf => by
      obtain ⟨d, hd, o, u, e1, e2, e3, e4, e5⟩ := ft b hb
      exact e1 (hS.inj d id o _ u _ b e2 ho (open_gone e5) rfl e3 hv e4 hf)
    obtain ⟨r1, r2, r3⟩ := row_splice off hin hl hsep hx.row hx.sep (fun b k1 k2 => farF b k2 (inner b k1))
    have hlsp : (splice cs off xs).length = (vs.take off ++ x.cells.toList ++ vs.drop (off + x.cells.toList.length)).length := RowL.length r1
    have hcel : cellsOf (w.setRow g' (cur.toList.take off ++ x.cells.toList ++ cur.toList.drop (off + x.cells.toList.length)).toArray) (.slice (some ⟨g', 0, none⟩) n cap) (splice cs off xs).length = vs.take off ++ x.cells.toList ++ vs.drop (off + x.cells.toList.length) := by
      rw [hlsp]; exact cellsOf_own hown2
    have notg : ∀ b, footL w (splice cs off xs) (vs.take off ++ x.cells.toList ++ vs.drop (off + x.cells.toList.length)) b → b ≠ g' := fun b hb e => by
      subst e
      rcases r3 _ hb with hb | hb
      · exact hself _ rfl hb
      · exact farF _ hb (.inl rfl)
    have hsame : ∀ b, footL w (splice cs off xs) (vs.take off ++ x.cells.toList ++ vs.drop (off + x.cells.toList.length)) b → (w.setRow g' (cur.toList.take off ++ x.cells.toList ++ cur.toList.drop (off + x.cells.toList.length)).toArray).heap[b]? = w.heap[b]? := fun b hb => setRow_other w g' b _ (notg b hb)
    have hst : ∀ b, foot (w.setRow g' (cur.toList.take off ++ x.cells.toList ++ cur.toList.drop (off + x.cells.toList.length)).toArray) (.nrow [] bt n (splice cs off xs)) (.slice (some ⟨g', 0, none⟩) n cap) b → blockOf (.slice (some ⟨g', 0, none⟩) n cap) = some b ∨ footL w (splice cs off xs) (vs.take off ++ x.cells.toList ++ vs.drop (off + x.cells.toList.length)) b := fun b hb => by
      rcases hb with hb | hb
      · exact .inl hb
      · dsimp only [plug] at hb
        rw [hcel] at hb
        exact .inr ((footL_same _ _ hsame b).1 hb)
    refine hS.remake (fun j => j = id ∨ j ∈ D) (fun j hj => ?_) (o2 := .nrow [] bt n (splice cs off xs)) (v' := .slice (some ⟨g', 0, none⟩) n cap) id ?_ (fun _ _ h => h) hS.one (fun j o y k1 k2 => ?_) rfl rfl (by simp) (fun b hb hno => setRow_other w g' b _ fun e => hno id _ _ (.inl rfl) ho hv (.inl (by rw [e]; rfl))) rfl rfl rfl (fun b hb => ?_) (fun _ _ _ _ e => by cases e) (fun h0 t0 n1 cs1 e => ?_)
    · rcases hj with rfl | hj
      · exact ⟨_, _, ho, hv, rfl, rfl⟩
      · obtain ⟨o', u', e1, e2, e3, e4, e5, e6⟩ := oth j hj
        exact ⟨o', u', e2, e3, e4, e5⟩
    · rw [setOb_length, hx.len, setOb_length]; exact hS.len
    · rw [setOb_get, hx.get j] at k1
      by_cases e1 : j = id
      · subst e1
        rw [hv] at k2; cases k2
        simp only [if_true] at k1
        split at k1
        · simp at k1; exact .inr (.inr ⟨rfl, k1.symm, rfl⟩)
        · rw [setOb_get, if_pos rfl, ho] at k1; simp at k1; exact .inr (.inr ⟨rfl, k1.symm, rfl⟩)
      · rw [if_neg e1] at k1
        split at k1
        · cases k1; exact .inr (.inl rfl)
        · rename_i hd
          rw [setOb_get, if_neg e1] at k1
          exact .inl ⟨fun h => h.elim e1 hd, k1, k2⟩
    · rcases hst b hb with hb | hb
      · exact .inl ⟨id, _, _, .inl rfl, ho, hv, .inl hb⟩
      · rcases r3 b hb with hb | hb
        · exact .inl ⟨id, _, _, .inl rfl, ho, hv, inner b hb⟩
        · obtain ⟨d, hd, o, u, e1, e2, e3, e4, e5⟩ := ft b hb
          exact .inl ⟨d, o, u, .inr hd, e2, e3, e4⟩
    · cases e
      refine ⟨tb, hC, hp, ?_⟩
      simp only [plug]
      rw [hcel]
      refine ⟨hown2, RowL.same _ _ hsame r1, fun y hy => ?_, sepL_same _ _ hsame r2, fun b k1 k2 => ?_, by simp⟩
      · simp only [List.mem_append, List.append_assoc] at hy
        rcases hy with hy | hy | hy
        · exact hone y (List.mem_of_mem_take hy)
        · exact h1 y hy
        · exact hone y (List.mem_of_mem_drop hy)
      · have e : g' = b := by simpa [blockOf] using k1
        exact notg b ((footL_same _ _ hsame b).1 k2) e.symm
theorem store_sound (hC : CfgOk P C) {t : Nat} {p x : V} {pv xv : Value} (hS : St C N s0 n0 A obs w) (hp : Rl A (Ok N A obs w) w p pv) (hx : Rl A (Ok N A obs w) w x xv) {K : Obs → Option α} (h : store C obs t p x K = some r) :
    ∃ obs' w', K obs' = some r ∧ (Instr.storeAt t pv xv).run P w = .ok () w' ∧ After C N s0 n0 A obs w A obs' w' := by
  unfold store at h
  replace h := need_some h
  obtain ⟨ti, hti, h⟩ := h
  have ht := hC.ty t ti hti
  cases p with
  | ptr id off =>
    dsimp only at h
    simp only [Rl] at hp
    obtain ⟨g, hg, rfl⟩ := hp
    cases hv : A[id]? with
    | none => simp [hv] at hg
    | some v =>
      rw [hv] at hg; simp at hg
      have hat : (Instr.storeAt t (.pointer (some ⟨g, off, none⟩)) xv).run P w = (storeVar t ⟨g, off, none⟩ xv).run P w := by simp [Instr.storeAt, Instr.sureAddr]
      split at h
      · rename_i bt cs ho
        have one : ∀ (y : V), Rl A (Ok N A obs w) w y xv → y.solid = true → (Nat.beq 1 ti.size = true) → (Nat.ble (off + 1) cs.length = true) → flatB C bt [y] = true → K (setOb obs id (.box bt (splice cs off [y]) false)) = some r →
            ∃ obs' w', K obs' = some r ∧ (Instr.storeAt t (.pointer (some ⟨g, off, none⟩)) xv).run P w = .ok () w' ∧ After C N s0 n0 A obs w A obs' w' := by
          intro y hy hs h1 h2 hf hk
          obtain ⟨o1, c1⟩ := oneCell_of_solid hS hy hs
          have hc : xv.cells.toList = [xv] := by rw [c1]
          obtain ⟨w', q1, q2⟩ := store_box (x := xv) (xs := [y]) (off := off) hS ho hv hg ht (by rw [hc]; exact BoxR.of hf (by simp only [RlL]; exact ⟨hy, trivial⟩)) (by rw [hc]; simpa using o1) (by simpa using Nat.eq_of_beq_eq_true h1) (by simpa using Nat.le_of_ble_eq_true h2)
          exact ⟨_, w', hk, hat.trans q1, q2⟩
        split at h
        · rename_i vs
          obtain ⟨h1, h2⟩ := must_some h
          simp only [Bool.and_eq_true] at h1
          simp only [Rl] at hx
          obtain ⟨a, rfl, hl, ho1⟩ := hx
          obtain ⟨w', q1, q2⟩ := store_box (x := .agg a) (xs := vs) (off := off) hS ho hv hg ht (BoxR.of h1.2 (by simpa [Value.cells] using hl)) (by simpa [Value.cells] using ho1) (Nat.eq_of_beq_eq_true h1.1.1.1) (Nat.le_of_ble_eq_true h1.1.2)
          exact ⟨_, w', h2, hat.trans q1, q2⟩
        · rename_i vs o
          replace h := asSl_some h
          obtain ⟨n, c, e, h⟩ := h
          obtain ⟨h1, h2⟩ := must_some h
          simp only [Bool.and_eq_true] at h1
          simp only [Rl] at hx
          obtain ⟨y, hy, hr⟩ := hx.get
          rw [e] at hy; cases hy
          exact one _ hr.lift rfl h1.1 h1.2 (by unfold flatB; split <;> simp [V.idFree]) h2
        · obtain ⟨h1, h2⟩ := must_some h
          simp only [Bool.and_eq_true] at h1
          exact one _ hx h1.1.1.1 h1.1.1.2 h1.1.2 h1.2 h2
      · rename_i bt n cs ho
        have cl : ∃ vs : List Value, RlL A (Ok N A obs w) w x.cells vs ∧ ((∀ v ∈ vs, v.cells = #[v]) → xv.cells.toList = vs) := by
          cases x with
          | agg xs =>
            simp only [Rl] at hx
            obtain ⟨a, rfl, hl, ho1⟩ := hx
            exact ⟨a.toList, hl, fun _ => rfl⟩
          | _ => exact ⟨[xv], by simp only [V.cells, RlL]; exact ⟨hx, trivial⟩, fun h => by rw [h xv (by simp)]⟩
        obtain ⟨us, hus, hcl⟩ := cl
        obtain ⟨ys, obs1, h1, a1, r1, o1, c1⟩ := intoRows_sound hS hus h
        have hcl := hcl c1
        split at h1
        · rename_i bt' n' cs' ho'
          obtain ⟨h2, h3⟩ := must_some h1
          simp only [Bool.and_eq_true] at h2
          obtain ⟨w', q1, q2⟩ := store_row (x := xv) (xs := ys) (off := off) a1.st ho' hv hg ht (by rw [hcl]; exact r1) (by rw [hcl]; exact o1) (Nat.eq_of_beq_eq_true h2.1) (Nat.le_of_ble_eq_true h2.2)
          exact ⟨_, w', h3, hat.trans q1, a1.trans q2⟩
        · cases h1
      · rename_i bt n cs ho
        have cl : ∃ vs : List Value, RlL A (Ok N A obs w) w x.cells vs ∧ ((∀ v ∈ vs, v.cells = #[v]) → xv.cells.toList = vs) := by
          cases x with
          | agg xs =>
            simp only [Rl] at hx
            obtain ⟨a, rfl, hl, ho1⟩ := hx
            exact ⟨a.toList, hl, fun _ => rfl⟩
          | _ => exact ⟨[xv], by simp only [V.cells, RlL]; exact ⟨hx, trivial⟩, fun h => by rw [h xv (by simp)]⟩
        obtain ⟨us, hus, hcl⟩ := cl
        obtain ⟨ys, obs1, D, h1, q, o1, c1⟩ := ownIn_sound hS (obsK := setOb obs id .gone) (fun j o hj hg => by
          rw [setOb_get] at hj
          by_cases e : j = id
          · rw [if_pos e, e, ho] at hj; simp at hj; subst hj; simp [Ob.isGone] at hg
          · rw [if_neg e] at hj; exact hj) hus h
        have hcl := hcl c1
        obtain ⟨h2, h3⟩ := must_some h1
        simp only [Bool.and_eq_true] at h2
        obtain ⟨w', q1, q2⟩ := store_nrow (x := xv) (xs := ys) (off := off) hS ho hv hg ht (by rw [hcl]; exact q) (by rw [hcl]; exact o1) (Nat.eq_of_beq_eq_true h2.1) (Nat.le_of_ble_eq_true h2.2)
        exact ⟨_, w', h3, hat.trans q1, q2⟩
      · cases h
  | _ => dsimp only at h; cases h
theorem ofConst_rl {A : List Value} {ok : Nat → Prop} (v : Value) : Rl A ok w (ofConst v) v := by
  unfold ofConst
  split <;> simp [Rl]
theorem ofConsts_rl {A : List Value} {ok : Nat → Prop} : ∀ (vs : List Value), RlL A ok w (ofConsts vs) vs
  | [] => by simp [ofConsts, RlL]
  | v :: vs => by simp only [ofConsts, RlL]; exact ⟨ofConst_rl v, ofConsts_rl vs⟩
theorem newBox_sound (hn : n0 ≤ obs.length) (hN : ∀ b, w.heap.size ≤ b → ¬ N b) {t : Nat} {x : Value} {xs : List V} (hS : St C N s0 n0 A obs w) (hx : RlL A (Ok N A obs w) w xs x.cells.toList) (h1 : ∀ y ∈ x.cells.toList, y.oneCell' = true)
    {K : V → Obs → Option α} (h : newBox C obs t xs K = some r) :
    ∃ v obs' A' w' vv, K v obs' = some r ∧ (newVar t x).run P w = .ok vv w' ∧ After C N s0 n0 A obs w A' obs' w' ∧ Rl A' (Ok N A' obs' w') w' v (.pointer (some vv)) := by
  unfold newBox at h
  replace h := must_some h
  obtain ⟨hf, h⟩ := h
  refine ⟨_, _, A ++ [.pointer (some ⟨w.heap.size, 0, none⟩)], w.alloc (.cells x.cells t), ⟨w.heap.size, 0, none⟩, h, ?_, ?_, ?_⟩
  · simp [newVar, newRow, newObj, Sem.run]
  · refine hS.push hn _ _ _ (by simp) (fun b hb => heap_alloc_old w _ b hb) rfl rfl rfl (fun b hb => by simp [blockOf] at hb; exact ⟨by omega, hN b (by omega)⟩) (.inr ⟨_, rfl⟩) ?_ ?_
    · intro t1 cs1 sh1 e
      cases e
      exact ⟨w.heap.size, x.cells, rfl, heap_alloc_new w _, BoxR.of hf hx, h1⟩
    · intro t1 n1 cs1 sh1 e; cases e
  · simp only [Rl]
    refine ⟨w.heap.size, ?_, rfl⟩
    rw [← hS.len]
    simp [blockOf]
theorem TyOk.size_ne {t : Nat} {ti : TI} (ht : TyOk P t ti) : (sizeOf t).run P w = .ok ti.size w := by
  obtain ⟨i, z, d, hi, hs, _⟩ := ht.info
  simp [sizeOf, typeInfo, hi, hs]
theorem TyOk.under_struct {t : Nat} {ti : TI} {fs : List (Nat × Nat)} (ht : TyOk P t ti) (h : ti.ty = .struct fs) : ∃ fields : Array Field, P.underlying t = some (.struct fields) ∧ fs = fields.toList.map (fun f => (f.offset, f.type)) ∧ ∀ f ∈ fields.toList, (P.info? f.type).isSome = true := by
  obtain ⟨i, z, d, hi, hs, hb, hz, hzl, hu, hagg, hd, _⟩ := ht.info
  rw [h] at hd
  obtain ⟨fields, rfl, e⟩ := hd
  exact ⟨fields, hu, e⟩
theorem TyOk.under_slice {t e : Nat} {ti : TI} (ht : TyOk P t ti) (h : ti.ty = .slice e) : P.underlying t = some (.slice e) := by
  obtain ⟨i, z, d, hi, hs, hb, hz, hzl, hu, hagg, hd, _⟩ := ht.info
  rw [h] at hd; subst hd; exact hu
theorem TyOk.under_arr {t n e : Nat} {ti : TI} (ht : TyOk P t ti) (h : ti.ty = .arr n e) : P.underlying t = some (.array n e) := by
  obtain ⟨i, z, d, hi, hs, hb, hz, hzl, hu, hagg, hd, _⟩ := ht.info
  rw [h] at hd; subst hd; exact hu
theorem TyOk.under_str {t : Nat} {ti : TI} (ht : TyOk P t ti) (h : ti.ty = .str) : P.underlying t = some .string := by
  obtain ⟨i, z, d, hi, hs, hb, hz, hzl, hu, hagg, hd, _⟩ := ht.info
  rw [h] at hd; subst hd; exact hu
theorem TyOk.under_int {t : Nat} {ti : TI} {k : IntKind} (ht : TyOk P t ti) (h : ti.ty = .int k) : P.underlying t = some (.int k) := by
  obtain ⟨i, z, d, hi, hs, hb, hz, hzl, hu, hagg, hd, _⟩ := ht.info
  rw [h] at hd; subst hd; exact hu
theorem TyOk.under_bool {t : Nat} {ti : TI} (ht : TyOk P t ti) (h : ti.ty = .bool) : P.underlying t = some .bool := by
  obtain ⟨i, z, d, hi, hs, hb, hz, hzl, hu, hagg, hd, _⟩ := ht.info
  rw [h] at hd; subst hd; exact hu
theorem TyOk.under_any {t : Nat} {ti : TI} (ht : TyOk P t ti) : ∃ d, P.underlying t = some d := by
  obtain ⟨i, z, d, hi, hs, hb, hz, hzl, hu, _⟩ := ht.info
  exact ⟨d, hu⟩
theorem run_fieldPlace (b o : Nat) (f : Field) {ti : TI} (ht : TyOk P f.type ti) (hne : ti.size ≠ 0) : (fieldPlace ⟨b, o, none⟩ f).run P w = .ok ⟨b, o + f.offset, none⟩ w := by
  simp [fieldPlace, ht.size_ne, hne, add_at]
theorem fieldAt_some {t f : Nat} {K : Nat → TI → Option α} (hC : CfgOk P C) (h : fieldAt C t f K = some r) :
    ∃ (fields : Array Field) (fd : Field) (tf : TI), P.underlying t = some (.struct fields) ∧ fields[f]? = some fd ∧ TyOk P fd.type tf ∧ tf.size ≠ 0 ∧ K fd.offset tf = some r := by
  unfold fieldAt at h
  replace h := need_some h
  obtain ⟨ti, hti, h⟩ := h
  split at h
  · rename_i fs hfs
    replace h := need_some h
    obtain ⟨x, hx, h⟩ := h
    replace h := need_some h
    obtain ⟨tf, htf, h⟩ := h
    obtain ⟨h1, h2⟩ := must_some h
    obtain ⟨fields, hu, e, _⟩ := (hC.ty t ti hti).under_struct hfs
    rw [e, List.getElem?_map, Array.getElem?_toList] at hx
    cases hf : fields[f]? with
    | none => rw [hf] at hx; simp at hx
    | some fd =>
      rw [hf] at hx; simp at hx; subst hx
      exact ⟨fields, fd, tf, hu, hf, hC.ty _ _ htf, by intro h0; simp [h0] at h1, h2⟩
  · cases h
theorem fieldAddr_sound (hC : CfgOk P C) {t f : Nat} {x : V} {xv : Value} {K : V → Option α} (hx : Rl A (Ok N A obs w) w x xv)
    (h : (fieldAt C t f fun off _ => match x with
      | .ptr i o => K (.ptr i (o + off))
      | .pin cs o => K (.pin cs (o + off))
      | _ => none) = some r) : ∃ v vv, K v = some r ∧ (∀ w2 : World, (Instr.fieldAt t xv f).run P w2 = .ok vv w2) ∧ Rl A (Ok N A obs w) w v vv := by
  replace h := fieldAt_some hC h
  obtain ⟨fields, fd, tf, hu, hf, htf, hne, h⟩ := h
  have run : ∀ b o (w2 : World), (Instr.fieldAt t (.pointer (some ⟨b, o, none⟩)) f).run P w2 = .ok (.pointer (some ⟨b, o + fd.offset, none⟩)) w2 := fun b o w2 => by
    simp [Instr.fieldAt, run_underlying hu, hf, Instr.sureAddr, run_fieldPlace b o fd htf hne]
  split at h
  · rename_i i o
    simp only [Rl] at hx
    obtain ⟨g, hg, rfl⟩ := hx
    exact ⟨_, _, h, run g o, by simp only [Rl]; exact ⟨g, hg, rfl⟩⟩
  · rename_i cs o
    simp only [Rl] at hx
    obtain ⟨b, o', vs, rfl, hl, hm⟩ := hx
    exact ⟨_, _, h, run b (o' + o), by simp only [Rl]; exact ⟨b, o', vs, by rw [Nat.add_assoc], hl, hm⟩⟩
  · cases h
theorem run_part_agg {t : Nat} {ti : TI} (ht : TyOk P t ti) (ha : ti.agg = true) (cs : Array Value) (off : Nat) : (part t cs off).run P w = .ok (.agg (cs.extract off (off + ti.size))) w := by
  obtain ⟨i, z, d, hi, hs, hb, hz, hzl, hu, hagg, _⟩ := ht.info
  have h1 : (isAgg t).run P w = .ok true w := by
    rw [ha] at hagg
    simp only [isAgg, Sem.run_bind, run_underlying hu, Result.andThen_ok]
    cases d <;> simp at hagg <;> rfl
  simp [part, h1, ht.size_ne]
theorem run_part_one {t : Nat} {ti : TI} (ht : TyOk P t ti) (ha : ti.agg = false) (cs : Array Value) (off : Nat) (v : Value) (h : cs[off]? = some v) : (part t cs off).run P w = .ok v w := by
  obtain ⟨i, z, d, hi, hs, hb, hz, hzl, hu, hagg, _⟩ := ht.info
  have h1 : (isAgg t).run P w = .ok false w := by
    rw [ha] at hagg
    simp only [isAgg, Sem.run_bind, run_underlying hu, Result.andThen_ok]
    cases d <;> simp at hagg <;> rfl
  simp [part, h1, h]
theorem field_sound (hC : CfgOk P C) {t f : Nat} {x : V} {xv : Value} {K : V → Option α} (hx : Rl A (Ok N A obs w) w x xv)
    (h : (fieldAt C t f fun off ti => match x with
      | .agg cs => bif ti.agg then must (Nat.ble (off + ti.size) cs.length) (K (.agg ((cs.drop off).take ti.size))) else get cs[off]? fun v => K v
      | _ => none) = some r) : ∃ v vv, K v = some r ∧ (∀ w2 : World, (Instr.field t xv f).run P w2 = .ok vv w2) ∧ Rl A (Ok N A obs w) w v vv := by
  replace h := fieldAt_some hC h
  obtain ⟨fields, fd, tf, hu, hf, htf, hne, h⟩ := h
  split at h
  · rename_i cs
    simp only [Rl] at hx
    obtain ⟨a, rfl, hl, ho⟩ := hx
    cases hag : tf.agg with
    | true =>
      rw [hag] at h; simp only [cond_true] at h
      obtain ⟨h1, h2⟩ := must_some h
      refine ⟨_, .agg (a.extract fd.offset (fd.offset + tf.size)), h2, fun w2 => by simp [Instr.field, run_underlying hu, hf, Go.asAgg, run_part_agg htf hag], ?_⟩
      simp only [Rl]
      refine ⟨_, rfl, ?_, ?_⟩
      · have := (hl.drop fd.offset).take tf.size
        rw [Array.toList_extract]
        simpa [List.extract] using this
      · intro y hy
        rw [Array.toList_extract] at hy
        exact ho y (List.mem_of_mem_drop (List.mem_of_mem_take (by simpa [List.extract] using hy)))
    | false =>
      rw [hag] at h; simp only [cond_false] at h
      replace h := get_some h
      obtain ⟨y, hy, h⟩ := h
      obtain ⟨v, hv, hr⟩ := hl.get _ _ hy
      refine ⟨_, v, h, fun w2 => by simp [Instr.field, run_underlying hu, hf, Go.asAgg, run_part_one htf hag a fd.offset v (by simpa using hv)], hr⟩
  · cases h
theorem inB_iff {i : Int} {n : Nat} (h : inB i n = true) : 0 ≤ i ∧ i < n := by
  simp only [inB, Bool.and_eq_true, decide_eq_true_eq] at h; exact h
theorem indexArr_sound (hC : CfgOk P C) {t : Nat} {cs : List V} {k : IntKind} {i : Int} {xv iv : Value} {K : V → Option α} (hx : Rl A (Ok N A obs w) w (.agg cs) xv) (hi : Rl A (Ok N A obs w) w (.int k i) iv)
    (h : indexArr C t cs i K = some r) : ∃ v vv, K v = some r ∧ (∀ w2 : World, (Instr.index t xv iv).run P w2 = .ok vv w2) ∧ Rl A (Ok N A obs w) w v vv := by
  unfold indexArr at h
  simp only [Rl] at hi; subst hi
  simp only [Rl] at hx
  obtain ⟨a, rfl, hl, ho⟩ := hx
  replace h := need_some h
  obtain ⟨ti, hti, h⟩ := h
  have ht := hC.ty t ti hti
  split at h
  · rename_i n e hty
    replace h := need_some h
    obtain ⟨te, hte, h⟩ := h
    have hu := ht.under_arr hty
    have hse : ∀ w2 : World, (sizeOf e).run P w2 = .ok te.size w2 := fun w2 => (hC.ty e te hte).size_ne (w := w2)
    obtain ⟨hb, h⟩ := must_some h
    have hb := inB_iff hb
    cases hag : te.agg with
    | true =>
      rw [hag] at h; simp only [cond_true] at h
      obtain ⟨h1, h2⟩ := must_some h
      refine ⟨_, .agg (a.extract (i.toNat * te.size) (i.toNat * te.size + te.size)), h2, fun w2 => by simp [Instr.index, asIntOf, run_underlying hu, hb.1, hb.2, hse, run_part_agg (hC.ty e te hte) hag], ?_⟩
      simp only [Rl]
      refine ⟨_, rfl, ?_, ?_⟩
      · have := (hl.drop (i.toNat * te.size)).take te.size
        rw [Array.toList_extract]
        simpa [List.extract] using this
      · intro y hy
        rw [Array.toList_extract] at hy
        exact ho y (List.mem_of_mem_drop (List.mem_of_mem_take (by simpa [List.extract] using hy)))
    | false =>
      rw [hag] at h; simp only [cond_false] at h
      have fin : ∀ y, cs[i.toNat * te.size]? = some y → K y = some r → ∃ v vv, K v = some r ∧ (∀ w2 : World, (Instr.index t (.agg a) (.int k i)).run P w2 = .ok vv w2) ∧ Rl A (Ok N A obs w) w v vv := fun y hy h => by
        obtain ⟨v, hv, hr⟩ := hl.get _ _ hy
        exact ⟨_, v, h, fun w2 => by simp [Instr.index, asIntOf, run_underlying hu, hb.1, hb.2, hse, run_part_one (hC.ty e te hte) hag a _ v (by simpa using hv)], hr⟩
      split at h
      · obtain ⟨z, hz, h⟩ := asInt_some h
        exact fin _ hz h
      · obtain ⟨y, hy, h⟩ := get_some h
        exact fin _ hy h
  · cases h
theorem indexAddr_sound (hC : CfgOk P C) {t : Nat} {x ix : V} {xv iv : Value} {K : V → Option α} (hS : St C N s0 n0 A obs w) (hx : Rl A (Ok N A obs w) w x xv) (hi : Rl A (Ok N A obs w) w ix iv)
    (h : indexAddr C obs t x ix K = some r) : ∃ v vv, K v = some r ∧ (∀ w2 : World, (Instr.indexAt t xv iv).run P w2 = .ok vv w2) ∧ Rl A (Ok N A obs w) w v vv := by
  unfold indexAddr at h
  split at h
  · rename_i k i
    simp only [Rl] at hi; subst hi
    replace h := need_some h
    obtain ⟨ti, hti, h⟩ := h
    have ht := hC.ty t ti hti
    split at h
    · rename_i n e hty
      replace h := need_some h
      obtain ⟨te, hte, h⟩ := h
      have hu := ht.under_arr hty
      have hse : ∀ w2 : World, (sizeOf e).run P w2 = .ok te.size w2 := fun w2 => (hC.ty e te hte).size_ne (w := w2)
      replace h := must_some h
      obtain ⟨hne, h⟩ := h
      have run : ∀ b o, inB i n = true → ∀ w2 : World, (Instr.indexAt t (.pointer (some ⟨b, o, none⟩)) (.int k i)).run P w2 = .ok (.pointer (some ⟨b, o + i.toNat * te.size, none⟩)) w2 := fun b o hb w2 => by
        have hb := inB_iff hb
        simp [Instr.indexAt, asIntOf, run_underlying hu, Instr.sureAddr, hb.1, hb.2, hse, add_at]
      split at h
      · rename_i id off
        obtain ⟨h1, h2⟩ := must_some h
        simp only [Rl] at hx
        obtain ⟨g, hg, rfl⟩ := hx
        exact ⟨_, _, h2, run g off h1, by simp only [Rl]; exact ⟨g, hg, rfl⟩⟩
      · rename_i cs off
        obtain ⟨h1, h2⟩ := must_some h
        simp only [Rl] at hx
        obtain ⟨b, o', vs, rfl, hl, hm⟩ := hx
        exact ⟨_, _, h2, run b (o' + off) h1, by simp only [Rl]; exact ⟨b, o', vs, by simp only [Nat.add_assoc], hl, hm⟩⟩
      · cases h
    · rename_i e hty
      replace h := need_some h
      obtain ⟨te, hte, h⟩ := h
      have hu := ht.under_slice hty
      have hse : ∀ w2 : World, (sizeOf e).run P w2 = .ok te.size w2 := fun w2 => (hC.ty e te hte).size_ne (w := w2)
      replace h := must_some h
      obtain ⟨hne, h⟩ := h
      have run : ∀ b o n c, inB i n = true → ∀ w2 : World, (Instr.indexAt t (.slice (some ⟨b, o, none⟩) n c) (.int k i)).run P w2 = .ok (.pointer (some ⟨b, o + i.toNat * te.size, none⟩)) w2 := fun b o n c hb w2 => by
        have hb := inB_iff hb
        simp [Instr.indexAt, asIntOf, run_underlying hu, hb.1, hb.2, hse, add_at]
      split at h
      · rename_i id
        obtain ⟨n, a, c, hK, e', hn, href, _⟩ := slLen_sound h hS hx
        obtain ⟨h1, h2⟩ := must_some hK
        simp only [Rl] at hx
        have hb := inB_iff h1
        obtain ⟨b, rfl⟩ := href id rfl (by omega)
        have hbo : blockOf xv = some b := by rw [e']; rfl
        refine ⟨_, _, h2, by rw [e']; exact run b 0 n c h1, ?_⟩
        simp only [Rl]
        exact ⟨b, by rw [hx]; simpa using hbo, by rw [Nat.zero_add]⟩
      · rename_i hnr
        obtain ⟨n, cs, hK, a, c, vs, e', hn, hl, hat, hlies⟩ := slOf_sound h hS hx
        obtain ⟨h1, h2⟩ := must_some hK
        have hb := inB_iff h1
        have hli := hlies (fun id => hnr id)
        subst e'
        rcases hli with ⟨rfl, rfl⟩ | ⟨b, o, rfl, hc⟩
        · omega
        · exact ⟨_, _, h2, run b o n c h1, by simp only [Rl]; exact ⟨b, o, vs, rfl, hl, hc⟩⟩
    · cases h
  · cases h
theorem asOwn_some {ne : Bool} {t sz : Nat} {v : Option V} {K : Nat → List V → Option α} (h : asOwn ne t sz v K = some r) : ∃ n cs, v = some (.own ne t sz n cs) ∧ K n cs = some r := by
  unfold asOwn at h
  split at h
  · obtain ⟨h1, h2⟩ := must_some h
    simp only [Bool.and_eq_true, beq_iff_eq] at h1
    have e2 := Nat.eq_of_beq_eq_true h1.2.1
    have e3 := Nat.eq_of_beq_eq_true h1.2.2
    have e1 := h1.1
    subst e1; subst e2; subst e3
    exact ⟨_, _, rfl, h2⟩
  · cases h
theorem elemOf_some0 {t : Nat} {K : Nat → TI → Option α} (hC : CfgOk P C) (h : elemOf C t K = some r) : ∃ e te, P.underlying t = some (.slice e) ∧ C.ty e = some te ∧ TyOk P e te ∧ 0 < te.size ∧ K e te = some r := by
  unfold elemOf at h
  replace h := need_some h
  obtain ⟨ti, hti, h⟩ := h
  split at h
  · rename_i e hty
    replace h := need_some h
    obtain ⟨te, hte, h⟩ := h
    replace h := must_some h
    obtain ⟨h1, h⟩ := h
    refine ⟨e, te, (hC.ty t ti hti).under_slice hty, hte, hC.ty e te hte, ?_, h⟩
    have : te.size ≠ 0 := by intro h0; simp [h0] at h1
    omega
  · cases h
theorem loadOut_sound (hC : CfgOk P C) {nm : NM} {t : Nat} {p : V} {pv : Value} (hS : St C N s0 n0 A obs w) (hp : Rl A (Ok N A obs w) w p pv) {K : V → Obs → Option α} (h : loadOut C nm obs t p K = some r) :
    ∃ v obs' A' vv, K v obs' = some r ∧ (Instr.loadAt t pv).run P w = .ok vv w ∧ After C N s0 n0 A obs w A' obs' w ∧ Rl A' (Ok N A' obs' w) w v vv := by
  have plain : load C obs t p (fun v => K v obs) = some r → ∃ v obs' A' vv, K v obs' = some r ∧ (Instr.loadAt t pv).run P w = .ok vv w ∧ After C N s0 n0 A obs w A' obs' w ∧ Rl A' (Ok N A' obs' w) w v vv := fun h => by
    obtain ⟨v, vv, hk, hr, hR⟩ := load_sound hC hS hp h
    exact ⟨v, obs, A, vv, hk, hr, After.refl hS, hR⟩
  unfold loadOut at h
  split at h
  · rename_i id off
    split at h
    · rename_i hs bt n cs ho
      obtain ⟨_, h⟩ := must_some h
      replace h := need_some h
      obtain ⟨ti, hti, h⟩ := h
      obtain ⟨hagg, h⟩ := must_some h
      obtain ⟨e, te, hu, hte, hteok, hpos, h⟩ := elemOf_some0 hC h
      obtain ⟨hoff, h⟩ := must_some h
      obtain ⟨m, ics, hc, h⟩ := asOwn_some h
      simp only [Rl] at hp
      obtain ⟨g, hg, rfl⟩ := hp
      cases hv : A[id]? with
      | none => simp [hv] at hg
      | some v =>
        rw [hv] at hg; simp at hg
        have hoff : holeAt off hs = false := by simpa using hoff
        have hagg : ti.agg = false := by simpa using hagg
        have fin : ∀ (o2 : Ob), (o2 = .nrow [] e m ics ∨ (o2 = .row e m ics false ∧ hasSl te.leaves = false)) → K (.ref obs.length) (setOb obs id (.nrow ((off, obs.length) :: hs) bt n cs) ++ [o2]) = some r →
            ∃ v obs' A' vv, K v obs' = some r ∧ (Instr.loadAt t (.pointer (some ⟨g, off, none⟩))).run P w = .ok vv w ∧ After C N s0 n0 A obs w A' obs' w ∧ Rl A' (Ok N A' obs' w) w v vv := by
          intro o2 ho2 hk
          obtain ⟨x, hx, ha⟩ := hS.unfold ho hv hoff hc hte rfl ho2
          refine ⟨_, _, _, x, hk, ?_, ha, by simp only [Rl]; rw [← hS.len]; simp⟩
          have hcell : w.cell? ⟨g, off, none⟩ = some x := by
            obtain ⟨_, _, _, hown, _⟩ := hS.nrow id _ _ _ _ v ho hv
            rcases hown.2 with ⟨rfl, _⟩ | ⟨g', cap, cur, rfl, _, hh, _⟩
            · simp [blockOf] at hg
            · simp [blockOf] at hg; subst hg
              simp only [cellsOf] at hx
              rw [hh] at hx
              dsimp only at hx
              rw [List.getElem?_take] at hx
              split at hx
              · rw [cell_of_row w g' off cur bt (0, 0) hh]; simpa using hx
              · cases hx
          have := run_loadVar_one (P := P) (hC.ty t ti hti) hagg hcell
          simpa [Instr.loadAt, Instr.sureAddr] using this
        split at h
        · exact fin _ (.inl rfl) h
        · rename_i hsl
          exact fin _ (.inr ⟨rfl, hsl⟩) h
    · exact plain h
  · exact plain h
theorem foldHs_sound {i : Nat} : ∀ (l : List (Nat × Nat)) {obs : Obs} {K : Obs → Option α}, St C N s0 n0 A obs w → foldHs C i l obs K = some r → ∃ obs', K obs' = some r ∧ After C N s0 n0 A obs w A obs' w
  | [], obs, K, hS, h => ⟨obs, by simpa only [foldHs] using h, After.refl hS⟩
  | _ :: l, obs, K, hS, h => by
    simp only [foldHs] at h
    split at h
    · rename_i off k hh t n cs ho
      split at h
      · rename_i e m c hk
        replace h := need_some h
        obtain ⟨te, hte, h⟩ := h
        obtain ⟨hoff, h⟩ := must_some h
        obtain ⟨hfl, h⟩ := must_some h
        have a1 := hS.foldIn ho (by simpa using hoff) hte hk (.inr ⟨rfl, rfl, hfl⟩)
        obtain ⟨obs', hK, a2⟩ := foldHs_sound l a1.st h
        exact ⟨obs', hK, a1.trans a2⟩
      · rename_i e m c hk
        replace h := need_some h
        obtain ⟨te, hte, h⟩ := h
        obtain ⟨hoff, h⟩ := must_some h
        have a1 := hS.foldIn ho (by simpa using hoff) hte hk (.inl ⟨rfl, rfl⟩)
        obtain ⟨obs', hK, a2⟩ := foldHs_sound l a1.st h
        exact ⟨obs', hK, a1.trans a2⟩
      · cases h
    · cases h
theorem foldGo_sound : ∀ (l : Obs) (i : Nat) {obs : Obs} {K : Obs → Option α}, St C N s0 n0 A obs w → foldGo C l i obs K = some r → ∃ obs', K obs' = some r ∧ After C N s0 n0 A obs w A obs' w
  | [], i, obs, K, hS, h => ⟨obs, by simpa only [foldGo] using h, After.refl hS⟩
  | o :: l, i, obs, K, hS, h => by
    cases o with
    | nrow hh t n cs =>
      simp only [foldGo] at h
      obtain ⟨obs1, h, a1⟩ := foldHs_sound hh hS h
      obtain ⟨obs2, h, a2⟩ := foldGo_sound l (i + 1) a1.st h
      exact ⟨obs2, h, a1.trans a2⟩
    | gone => simp only [foldGo] at h; exact foldGo_sound l (i + 1) hS h
    | box => simp only [foldGo] at h; exact foldGo_sound l (i + 1) hS h
    | row => simp only [foldGo] at h; exact foldGo_sound l (i + 1) hS h
end
end Go.PI
