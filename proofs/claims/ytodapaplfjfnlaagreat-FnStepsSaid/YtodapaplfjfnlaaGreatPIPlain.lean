/-
  PI: the interpreter's word without its fuel: what it comes to from some fuel on.
-/
import Derived.Test.YtodapaplfjfnlaaGreatPIGlue
namespace Go.PI
open Go
set_option linter.unusedVariables false
structure Fu where
  k : Nat
  m : Nat
  fs : List Nat
def Big (K : Nat) (s : Fu) : Prop := K ≤ s.k ∧ K ≤ s.m ∧ ∀ x ∈ s.fs, K ≤ x
theorem Big.mono {K K' : Nat} {s : Fu} (h : Big K' s) (hk : K ≤ K') : Big K s := ⟨Nat.le_trans hk h.1, Nat.le_trans hk h.2.1, fun x hx => Nat.le_trans hk (h.2.2 x hx)⟩
section
variable {α β : Type} {d : Nat}
def Sets (d : Nat) (F : Fu → Option α) (r : α) : Prop := ∃ K, ∀ s, s.fs.length = d → Big K s → F s = some r
theorem Sets.uniq {F : Fu → Option α} {r r' : α} (h : Sets d F r) (h' : Sets d F r') : r = r' := by
  obtain ⟨K, h⟩ := h
  obtain ⟨K', h'⟩ := h'
  have h1 := h ⟨max K K', max K K', List.replicate d (max K K')⟩ (by simp) ⟨Nat.le_max_left _ _, Nat.le_max_left _ _, fun x hx => by rw [(List.mem_replicate.1 hx).2]; exact Nat.le_max_left _ _⟩
  have h2 := h' ⟨max K K', max K K', List.replicate d (max K K')⟩ (by simp) ⟨Nat.le_max_right _ _, Nat.le_max_right _ _, fun x hx => by rw [(List.mem_replicate.1 hx).2]; exact Nat.le_max_right _ _⟩
  rw [h1] at h2
  exact Option.some.inj h2
open Classical in
noncomputable def lim (d : Nat) (F : Fu → Option α) : Option α := if h : ∃ r, Sets d F r then some (Classical.choose h) else none
theorem lim_some {F : Fu → Option α} {r : α} : lim d F = some r ↔ Sets d F r := by
  unfold lim
  constructor
  · intro h
    split at h
    · rename_i hr
      have := Classical.choose_spec hr
      rw [Option.some.inj h] at this
      exact this
    · cases h
  · intro h
    rw [dif_pos ⟨r, h⟩]
    exact congrArg some ((Classical.choose_spec ⟨r, h⟩ : Sets d F _).uniq h)
def Comes (d : Nat) (F : Fu → Option α) (x : Option α) : Prop := ∀ r, x = some r → Sets d F r
theorem cC {x : Option α} : Comes d (fun _ => x) x := fun r h => ⟨0, fun _ _ _ => h⟩
theorem cN {F : Fu → Option β} {x : Option β} {G : Fu → β → Option α} {y : β → Option α} (h : Comes d F x) (k : ∀ v, Comes d (fun s => G s v) (y v)) : Comes d (fun s => need (F s) (G s)) (need x y) := by
  intro r hr
  cases hx : x with
  | none => rw [hx] at hr; cases hr
  | some v =>
    rw [hx] at hr
    obtain ⟨K, h1⟩ := h v hx
    obtain ⟨K', h2⟩ := k v r hr
    refine ⟨max K K', fun s hs hb => ?_⟩
    have h1 := h1 s hs (hb.mono (Nat.le_max_left _ _))
    have h2 := h2 s hs (hb.mono (Nat.le_max_right _ _))
    dsimp only at h2 ⊢
    rw [h1]
    exact h2
theorem cT {v : Option V} {G : Fu → List V → Option α} {y : List V → Option α} (k : ∀ v, Comes d (fun s => G s v) (y v)) : Comes d (fun s => asTup v (G s)) (asTup v y) := by
  unfold asTup; split
  · exact k _
  · exact cC
theorem cI {i : IntKind} {v : Option V} {G : Fu → Int → Option α} {y : Int → Option α} (k : ∀ v, Comes d (fun s => G s v) (y v)) : Comes d (fun s => asInt i v (G s)) (asInt i v y) := by
  unfold asInt; split
  · cases kbeq _ i
    · exact cC
    · exact k _
  · exact cC
theorem cB {v : Option V} {G : Fu → Bool → Option α} {y : Bool → Option α} (k : ∀ v, Comes d (fun s => G s v) (y v)) : Comes d (fun s => asBool v (G s)) (asBool v y) := by
  unfold asBool; split
  · exact k _
  · exact cC
theorem cA {v : Option V} {G : Fu → List V → Option α} {y : List V → Option α} (k : ∀ v, Comes d (fun s => G s v) (y v)) : Comes d (fun s => asAgg v (G s)) (asAgg v y) := by
  unfold asAgg; split
  · exact k _
  · exact cC
theorem cL {v : Option V} {G : Fu → Nat → List V → Option α} {y : Nat → List V → Option α} (k : ∀ n v, Comes d (fun s => G s n v) (y n v)) : Comes d (fun s => asSl v (G s)) (asSl v y) := by
  unfold asSl; split
  · exact k _ _
  · exact cC
theorem cO {v : Option V} {G : Fu → Nat → List V → Option α} {y : Nat → List V → Option α} (k : ∀ n v, Comes d (fun s => G s n v) (y n v)) : Comes d (fun s => asOsl v (G s)) (asOsl v y) := by
  unfold asOsl; split
  · exact k _ _
  · exact cC
theorem cM {b : Bool} {F : Fu → Option α} {x : Option α} (k : Comes d F x) : Comes d (fun s => must b (F s)) (must b x) := by
  unfold must
  cases b
  · exact cC
  · exact k
theorem cF {b : Bool} {F G : Fu → Option α} {x y : Option α} (k : Comes d F x) (l : Comes d G y) : Comes d (fun s => bif b then F s else G s) (bif b then x else y) := by
  cases b
  · exact l
  · exact k
theorem cW {F G : Fu → Option α} {x y : Option α} (k : Comes d F x) (l : Comes d G y) : Comes d (fun s => both (F s) (G s)) (both x y) := by
  intro r hr
  obtain ⟨h1, h2⟩ := both_some hr
  obtain ⟨K, q1⟩ := k r h1
  obtain ⟨K', q2⟩ := l r h2
  refine ⟨max K K', fun s hs hb => ?_⟩
  have q1 := q1 s hs (hb.mono (Nat.le_max_left _ _))
  have q2 := q2 s hs (hb.mono (Nat.le_max_right _ _))
  dsimp only
  rw [q1, q2, both_self]
def Grows (d : Nat) (n : Fu → Nat) : Prop := ∀ K s, s.fs.length = d → Big K s → K ≤ n s
theorem gK : Grows d (fun s => s.k) := fun K s _ h => h.1
theorem gM : Grows d (fun s => s.m) := fun K s _ h => h.2.1
theorem gF {i : Nat} (hi : i < d) : Grows d (fun s => s.fs.getD i 0) := fun K s hs h => by
  have : i < s.fs.length := by omega
  show K ≤ s.fs.getD i 0
  rw [List.getD_eq_getElem?_getD, List.getElem?_eq_getElem this]
  exact h.2.2 _ (List.getElem_mem _)
end
section
variable (C : Cfg)
noncomputable def runE (f : Nat) (xs : List V) : Option V := lim 0 fun s => runV C s.k f xs
noncomputable def runWE (f : Nat) (D : List Nat) (xs : List V) (obs : Obs) : Option V := lim 0 fun s => runW C s.k f D xs obs
noncomputable def loopE (f id : Nat) (p : List Bool) (fs : List Nat) (env : Env) (obs : Obs) : Option V := lim fs.length fun s => runL C s.k f id p s.fs s.m env obs
noncomputable def loopWE (f : Nat) (D : List Nat) (h : Obs) (id : Nat) (p : List Bool) (fs : List Nat) (env : Env) (obs : Obs) : Option V := lim fs.length fun s => runLW C s.k f D h id p s.fs s.m env obs
structure Orc where
  R : Nat → Nat → List V → Option V
  W : Nat → Nat → List Nat → List V → Obs → Option V
  L : Nat → Nat → Nat → List Bool → List Nat → Nat → Env → Obs → Option V
  X : Nat → Nat → List Nat → Obs → Nat → List Bool → List Nat → Nat → Env → Obs → Option V
noncomputable def orc (k : Nat) : Orc := ⟨fun j f xs => runV C (k + j) f xs, fun j f D xs obs => runW C (k + j) f D xs obs, fun j f id p fs n e obs => runL C (k + j) f id p fs n e obs, fun j f D h id p fs n e obs => runLW C (k + j) f D h id p fs n e obs⟩
noncomputable def orcE : Orc := ⟨fun _ f xs => runE C f xs, fun _ f D xs obs => runWE C f D xs obs, fun _ f id p fs _ e obs => loopE C f id p fs e obs, fun _ f D h id p fs _ e obs => loopWE C f D h id p fs e obs⟩
variable {C} {d : Nat}
theorem cR {j f : Nat} {xs : List V} : Comes d (fun s => (orc C s.k).R j f xs) ((orcE C).R j f xs) := by
  intro r hr
  obtain ⟨K, h⟩ := lim_some.1 hr
  exact ⟨K, fun s _ hb => h ⟨s.k + j, s.k + j, []⟩ rfl ⟨Nat.le_trans hb.1 (Nat.le_add_right _ _), Nat.le_trans hb.1 (Nat.le_add_right _ _), by simp⟩⟩
theorem cQ {j f : Nat} {D : List Nat} {xs : List V} {obs : Obs} : Comes d (fun s => (orc C s.k).W j f D xs obs) ((orcE C).W j f D xs obs) := by
  intro r hr
  obtain ⟨K, h⟩ := lim_some.1 hr
  exact ⟨K, fun s _ hb => h ⟨s.k + j, s.k + j, []⟩ rfl ⟨Nat.le_trans hb.1 (Nat.le_add_right _ _), Nat.le_trans hb.1 (Nat.le_add_right _ _), by simp⟩⟩
theorem cD0 {j f id n' : Nat} {p : List Bool} {n : Fu → Nat} {e : Env} {obs : Obs} (hn : Grows d n) : Comes d (fun s => (orc C s.k).L j f id p [] (n s) e obs) ((orcE C).L j f id p [] n' e obs) := by
  intro r hr
  obtain ⟨K, h⟩ := lim_some.1 hr
  exact ⟨K, fun s hs hb => h ⟨s.k + j, n s, []⟩ rfl ⟨Nat.le_trans hb.1 (Nat.le_add_right _ _), hn K s hs hb, by simp⟩⟩
theorem cX0 {j f id n' : Nat} {D : List Nat} {h : Obs} {p : List Bool} {n : Fu → Nat} {e : Env} {obs : Obs} (hn : Grows d n) : Comes d (fun s => (orc C s.k).X j f D h id p [] (n s) e obs) ((orcE C).X j f D h id p [] n' e obs) := by
  intro r hr
  obtain ⟨K, h⟩ := lim_some.1 hr
  exact ⟨K, fun s hs hb => h ⟨s.k + j, n s, []⟩ rfl ⟨Nat.le_trans hb.1 (Nat.le_add_right _ _), hn K s hs hb, by simp⟩⟩
theorem cD1 {j f id n' q' : Nat} {p : List Bool} {n q : Fu → Nat} {e : Env} {obs : Obs} (hn : Grows d n) (hq : Grows d q) : Comes d (fun s => (orc C s.k).L j f id p [q s] (n s) e obs) ((orcE C).L j f id p [q'] n' e obs) := by
  intro r hr
  obtain ⟨K, h⟩ := lim_some.1 hr
  exact ⟨K, fun s hs hb => h ⟨s.k + j, n s, [q s]⟩ rfl ⟨Nat.le_trans hb.1 (Nat.le_add_right _ _), hn K s hs hb, by simpa using hq K s hs hb⟩⟩
theorem ofR {j f : Nat} {xs : List V} {F : Fu → Option V} {x : Option V} {r : V} (h : ∀ k, runV C (k + j) f xs = F ⟨k, k, []⟩) (hc : Comes 0 F x) (hx : x = some r) : runE C f xs = some r := by
  obtain ⟨K, hK⟩ := hc r hx
  refine lim_some.2 ⟨K + j, fun s _ hb => ?_⟩
  have hk := hb.1
  have e := h (s.k - j)
  rw [Nat.sub_add_cancel (by omega)] at e
  refine Eq.trans e ?_
  exact hK _ rfl ⟨by dsimp only; omega, by dsimp only; omega, by simp⟩
theorem ofW {j f : Nat} {D : List Nat} {xs : List V} {obs : Obs} {F : Fu → Option V} {x : Option V} {r : V} (h : ∀ k, runW C (k + j) f D xs obs = F ⟨k, k, []⟩) (hc : Comes 0 F x) (hx : x = some r) : runWE C f D xs obs = some r := by
  obtain ⟨K, hK⟩ := hc r hx
  refine lim_some.2 ⟨K + j, fun s _ hb => ?_⟩
  have hk := hb.1
  have e := h (s.k - j)
  rw [Nat.sub_add_cancel (by omega)] at e
  refine Eq.trans e ?_
  exact hK _ rfl ⟨by dsimp only; omega, by dsimp only; omega, by simp⟩
theorem fs0 {F G : Fu → Option V} (h : ∀ k m, F ⟨k, m, []⟩ = G ⟨k, m, []⟩) : ∀ s : Fu, s.fs.length = 0 → F s = G s := fun ⟨k, m, fs⟩ e => by
  have e : fs = [] := List.eq_nil_of_length_eq_zero e
  subst e; exact h k m
theorem fs1 {F G : Fu → Option V} (h : ∀ k m q, F ⟨k, m, [q]⟩ = G ⟨k, m, [q]⟩) : ∀ s : Fu, s.fs.length = 1 → F s = G s := fun ⟨k, m, fs⟩ e => by
  match fs, e with
  | [q], _ => exact h k m q
theorem ofL {j f id : Nat} {p : List Bool} {fs : List Nat} {env : Env} {obs : Obs} {F : Fu → Option V} {x : Option V} {r : V} (h : ∀ s : Fu, s.fs.length = fs.length → runL C (s.k + j) f id p s.fs (s.m + 1) env obs = F s) (hc : Comes fs.length F x) (hx : x = some r) : loopE C f id p fs env obs = some r := by
  obtain ⟨K, hK⟩ := hc r hx
  refine lim_some.2 ⟨K + 1 + j, fun s hs hb => ?_⟩
  have hm := hb.2.1
  have hk := hb.1
  have e := h ⟨s.k - j, s.m - 1, s.fs⟩ hs
  dsimp only at e
  rw [Nat.sub_add_cancel (by omega), Nat.sub_add_cancel (by omega)] at e
  refine Eq.trans e ?_
  exact hK _ hs ⟨by have := hb.1; dsimp only; omega, by dsimp only; omega, fun x hx => by have := hb.2.2 x hx; omega⟩
theorem ofX {j f id : Nat} {D : List Nat} {hh : Obs} {p : List Bool} {fs : List Nat} {env : Env} {obs : Obs} {F : Fu → Option V} {x : Option V} {r : V} (h : ∀ s : Fu, s.fs.length = fs.length → runLW C (s.k + j) f D hh id p s.fs (s.m + 1) env obs = F s) (hc : Comes fs.length F x) (hx : x = some r) : loopWE C f D hh id p fs env obs = some r := by
  obtain ⟨K, hK⟩ := hc r hx
  refine lim_some.2 ⟨K + 1 + j, fun s hs hb => ?_⟩
  have hm := hb.2.1
  have hk := hb.1
  have e := h ⟨s.k - j, s.m - 1, s.fs⟩ hs
  dsimp only at e
  rw [Nat.sub_add_cancel (by omega), Nat.sub_add_cancel (by omega)] at e
  refine Eq.trans e ?_
  exact hK _ hs ⟨by have := hb.1; dsimp only; omega, by dsimp only; omega, fun x hx => by have := hb.2.2 x hx; omega⟩
end
end Go.PI
