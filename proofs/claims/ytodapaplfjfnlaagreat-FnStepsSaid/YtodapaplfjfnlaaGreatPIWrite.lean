/-
  PI: a call that is handed objects of the caller's: it writes them, and hands them back.
-/
import Derived.Test.YtodapaplfjfnlaaGreatPICall2
namespace Go.PI
open Go
set_option linter.unusedVariables false
set_option linter.unusedSimpArgs false
section
variable {P : Program} {C : Cfg} {N : Nat → Prop} {s0 n0 : Nat} {A A' A1 AP : List Value} {obs obs' obs1 : Obs} {w w' : World} {α : Type} {r : α}
theorem renW_sound {m : List Nat} {ok ok' : Nat → Prop} (hm : ∀ x ∈ m, x < A.length) (hok : ∀ b, ok b → ok' b) {v : V} {vv : Value} (h : Rl A ok w v vv) : Rl (picked A m) ok' w (renW m v) vv := by
  cases v with
  | agg cs =>
    simp only [renW, Rl] at h ⊢
    obtain ⟨a, e, hl, ho⟩ := h
    exact ⟨a, e, renCells_sound hm hok hl, ho⟩
  | _ => exact renV_sound hm hok h
theorem allOpenX_iff : ∀ (X : List Nat), allOpenX obs X = true → ∀ i ∈ X, ∃ o, obs[i]? = some o ∧ o.isOpen = true
  | [], _, i, hi => by simp at hi
  | j :: X, h, i, hi => by
    simp only [allOpenX, Bool.and_eq_true] at h
    rcases List.mem_cons.1 hi with rfl | hi
    · have h1 := h.1
      split at h1
      · rename_i o ho
        refine ⟨o, ho, ?_⟩
        cases o with
        | gone => simp [openOb] at h1
        | nrow => rfl
        | box t cs sh => cases sh <;> simp_all [openOb, Ob.isOpen]
        | row t n cs sh => cases sh <;> simp_all [openOb, Ob.isOpen]
      · cases h1
    · exact allOpenX_iff X h.2 i hi
theorem apartN_iff {X : List Nat} : ∀ (l : List Nat), apartN l X = true → ∀ i ∈ l, i ∉ X
  | [], _, i, hi => by simp at hi
  | j :: l, h, i, hi => by
    simp only [apartN, Bool.and_eq_true, Bool.not_eq_true'] at h
    rcases List.mem_cons.1 hi with rfl | hi
    · intro hm; rw [(memN_iff X i).2 hm] at h; exact absurd h.1 (by simp)
    · exact apartN_iff l h.2 i hi
theorem shutAll_ne : ∀ (ids : List Nat) {obs : Obs} {i : Nat}, i ∉ ids → (shutAll obs ids)[i]? = obs[i]?
  | [], obs, i, _ => rfl
  | j :: ids, obs, i, h => by
    simp only [shutAll]
    rw [shutAll_ne ids (fun hm => h (by simp [hm])), shutAt_get, if_neg (fun e => h (by simp [e]))]
theorem shutAll_open : ∀ (ids : List Nat) {obs : Obs} {i : Nat} {o : Ob}, (shutAll obs ids)[i]? = some o → ∃ o0, obs[i]? = some o0 ∧ (o.isOpen = true → o = o0) ∧ (o.isGone = false → o0.isGone = false)
  | [], obs, i, o, h => ⟨o, h, fun _ => rfl, fun h => h⟩
  | j :: ids, obs, i, o, h => by
    simp only [shutAll] at h
    obtain ⟨o1, h1, h2, h3⟩ := shutAll_open ids h
    rw [shutAt_get] at h1
    by_cases e : i = j
    · rw [if_pos e] at h1
      cases ho : obs[i]? with
      | none => rw [ho] at h1; simp at h1
      | some o0 =>
        rw [ho] at h1
        simp at h1
        refine ⟨o0, rfl, fun hop => ?_, fun hg => ?_⟩
        · have := h2 hop
          rw [this, ← h1, shutOb_isOpen] at hop
          cases hop
        · have := h3 hg
          rw [← h1] at this
          exact shutOb_isGone o0 this
    · rw [if_neg e] at h1; exact ⟨o1, h1, h2, h3⟩
theorem forceN0_eq : ∀ (l : List Nat) (K : List Nat → Option α), forceN0 l K = K l
  | [], K => rfl
  | x :: l, K => by simp only [forceN0]; rw [forceN0_eq l]
theorem lendX_sound (hS : St C N s0 0 A obs w) {mode : Bool} {X lent : List Nat} {ok' : Nat → Prop} (hltA : ∀ x ∈ X, x < A.length) (hok0 : ∀ b, Ok N A obs w b → ok' b) (hok : ∀ b, Ok N A (shutAll obs lent) w b → ok' b) :
    ∀ (args : List V) (ts : List Nat) (vals : List Value) {K : List V → Option α}, RlL A (Ok N A obs w) w args vals → (mode = false → ∀ id ∈ lendIds obs (noPtrs args), id ∈ lent) → lendX C mode X obs ts args K = some r →
    ∃ xs, K xs = some r ∧ RlL (picked A X) ok' w xs vals
  | [], ts, [], K, _, _, h => by
    simp only [lendX] at h
    exact ⟨[], (must_some h).2, by simp [RlL]⟩
  | [], _, _ :: _, _, hl, _, _ => by simp [RlL] at hl
  | _ :: _, _, [], _, hl, _, _ => by simp [RlL] at hl
  | v :: vs, ts, u :: us, K, hl, hid, h => by
    simp only [RlL] at hl
    simp only [lendX] at h
    have step : ∃ x, (lendX C mode X obs ts.tail vs fun xs => K (x :: xs)) = some r ∧ Rl (picked A X) ok' w x u := by
      unfold lendX1 at h
      cases hp : isPtrV v with
      | true => rw [hp] at h; exact ⟨_, h, renV_sound hltA hok0 hl.1⟩
      | false =>
        rw [hp] at h; simp only [cond_false] at h
        split at h
        · obtain ⟨h1, h⟩ := must_some h
          exact ⟨_, h, Rl.mono ⟨fun _ _ h => by simp at h, hok0, fun _ _ => rfl⟩ v (hl.1.free (B := []) h1)⟩
        · cases hm : mode with
          | true => rw [hm] at h; exact ⟨_, h, renW_sound hltA hok0 hl.1⟩
          | false =>
            rw [hm] at h; simp only [cond_false] at h
            replace h := need_some h
            obtain ⟨ti, _, h⟩ := h
            have hid := hid hm
            simp only [noPtrs, hp, cond_false] at hid
            rw [lendIds_cons] at hid
            obtain ⟨y, h, hy⟩ := lendArg_sound hS hl.1 (fun id e => hid id (by simp [e])) h
            exact ⟨y, h, Rl.mono ⟨fun _ _ h => by simp at h, hok, fun _ _ => rfl⟩ y hy⟩
    obtain ⟨x, h, hx⟩ := step
    obtain ⟨xs, h, hxs⟩ := lendX_sound hS hltA hok0 hok vs ts.tail us hl.2 (fun hm id e => by
      have hid := hid hm
      simp only [noPtrs] at hid
      cases hp : isPtrV v with
      | true => rw [hp] at hid; exact hid id e
      | false => rw [hp] at hid; simp only [cond_false] at hid; rw [lendIds_cons] at hid; exact hid id (by simp [e])) h
    exact ⟨_, h, by simp only [RlL]; exact ⟨hx, hxs⟩⟩
def BS (C : Cfg) (D : List Nat) (obs1 : Obs) : Nat → Obs → List V → Prop
  | _, [], bs => bs = []
  | j, .box t _ _ :: h, bs => ∃ ti cs bs', C.ty t = some ti ∧ obs1[j]? = some (.box t cs false) ∧ cs.length = ti.leaves.length ∧ bs = cs ++ bs' ∧ BS C D obs1 (j + 1) h bs'
  | j, .row _ _ _ _ :: h, bs => (memN j D = true ∧ ∃ bs', bs = .ref j :: bs' ∧ BS C D obs1 (j + 1) h bs') ∨ (memN j D = false ∧ BS C D obs1 (j + 1) h bs)
  | j, .nrow _ _ _ _ :: h, bs => (memN j D = true ∧ ∃ bs', bs = .ref j :: bs' ∧ BS C D obs1 (j + 1) h bs') ∨ (memN j D = false ∧ BS C D obs1 (j + 1) h bs)
  | _, .gone :: _, _ => False
theorem bCells_some {D : List Nat} : ∀ (h : Obs) (j : Nat) {K : List V → Option α}, bCells C D obs1 j h K = some r → ∃ bs, K bs = some r ∧ BS C D obs1 j h bs
  | [], j, K, h => ⟨[], by simpa [bCells] using h, rfl⟩
  | .gone :: h, j, K, hh => by simp [bCells] at hh
  | .box t cs0 sh0 :: h, j, K, hh => by
    simp only [bCells] at hh
    split at hh
    · rename_i t' cs ho
      obtain ⟨ti, hti, h2⟩ := need_some hh
      obtain ⟨h1, h3⟩ := must_some h2
      simp only [Bool.and_eq_true] at h1
      obtain ⟨bs, h4, hb⟩ := bCells_some h (j + 1) h3
      exact ⟨_, h4, ti, cs, bs, hti, by rw [Nat.eq_of_beq_eq_true h1.1]; exact ho, Nat.eq_of_beq_eq_true h1.2, rfl, hb⟩
    · cases hh
  | .row t n cs sh :: h, j, K, hh => by
    simp only [bCells] at hh
    cases hm : memN j D with
    | true =>
      rw [hm] at hh; simp only [cond_true] at hh
      obtain ⟨bs, hh, hb⟩ := bCells_some h (j + 1) hh
      exact ⟨_, hh, .inl ⟨hm, bs, rfl, hb⟩⟩
    | false =>
      rw [hm] at hh; simp only [cond_false] at hh
      obtain ⟨bs, hh, hb⟩ := bCells_some h (j + 1) hh
      exact ⟨_, hh, .inr ⟨hm, hb⟩⟩
  | .nrow h0 t n cs :: h, j, K, hh => by
    simp only [bCells] at hh
    cases hm : memN j D with
    | true =>
      rw [hm] at hh; simp only [cond_true] at hh
      obtain ⟨bs, hh, hb⟩ := bCells_some h (j + 1) hh
      exact ⟨_, hh, .inl ⟨hm, bs, rfl, hb⟩⟩
    | false =>
      rw [hm] at hh; simp only [cond_false] at hh
      obtain ⟨bs, hh, hb⟩ := bCells_some h (j + 1) hh
      exact ⟨_, hh, .inr ⟨hm, hb⟩⟩
def MS (C : Cfg) (D : List Nat) (A1 : List Value) (w : World) : Nat → Obs → List Value → Prop
  | _, [], fl => fl = []
  | j, .box t _ _ :: h, fl => ∃ ti g cur fl', C.ty t = some ti ∧ A1[j]? = some (.pointer (some ⟨g, 0, none⟩)) ∧ w.heap[g]? = some (.cells cur t (0, 0)) ∧ cur.toList.length = ti.leaves.length ∧ (∀ x ∈ cur.toList, x.oneCell' = true) ∧ fl = cur.toList ++ fl' ∧ MS C D A1 w (j + 1) h fl'
  | j, .row _ _ _ _ :: h, fl => (memN j D = true ∧ ∃ v fl', A1[j]? = some v ∧ fl = v :: fl' ∧ MS C D A1 w (j + 1) h fl') ∨ (memN j D = false ∧ MS C D A1 w (j + 1) h fl)
  | j, .nrow _ _ _ _ :: h, fl => (memN j D = true ∧ ∃ v fl', A1[j]? = some v ∧ fl = v :: fl' ∧ MS C D A1 w (j + 1) h fl') ∨ (memN j D = false ∧ MS C D A1 w (j + 1) h fl)
  | _, .gone :: _, _ => False
theorem BS.rl {D : List Nat} (hS : St C N s0 n0 A1 obs1 w) : ∀ (h : Obs) (j : Nat) (bs : List V), j + h.length ≤ A1.length → BS C D obs1 j h bs → ∃ fl, RlL A1 (Ok N A1 obs1 w) w bs fl ∧ MS C D A1 w j h fl
  | [], j, bs, _, hb => by simp only [BS] at hb; subst hb; exact ⟨[], by simp [RlL], rfl⟩
  | .gone :: h, j, bs, _, hb => by simp [BS] at hb
  | .box t cs0 sh0 :: h, j, bs, hl, hb => by
    simp only [BS] at hb
    obtain ⟨ti, cs, bs', hti, ho, hlen, rfl, hb⟩ := hb
    simp only [List.length_cons] at hl
    have hA : A1[j]? = some (A1[j]'(by omega)) := List.getElem?_eq_getElem (by omega)
    obtain ⟨g, cur, e, hg, hr, h1⟩ := hS.box j t cs false _ ho hA
    obtain ⟨fl, hf, hm⟩ := BS.rl hS h (j + 1) bs' (by omega) hb
    exact ⟨cur.toList ++ fl, hr.1.append hf, by simp only [MS]; exact ⟨ti, g, cur, fl, hti, by rw [← e]; exact hA, hg, by rw [← hr.1.length]; exact hlen, h1, rfl, hm⟩⟩
  | .row t n cs sh :: h, j, bs, hl, hb => by
    simp only [BS] at hb
    simp only [List.length_cons] at hl
    have hA : A1[j]? = some (A1[j]'(by omega)) := List.getElem?_eq_getElem (by omega)
    rcases hb with ⟨hm, bs', rfl, hb⟩ | ⟨hm, hb⟩
    · obtain ⟨fl, hf, hms⟩ := BS.rl hS h (j + 1) bs' (by omega) hb
      exact ⟨A1[j]'(by omega) :: fl, by simp only [RlL, Rl]; exact ⟨hA, hf⟩, by simp only [MS]; exact .inl ⟨hm, _, fl, hA, rfl, hms⟩⟩
    · obtain ⟨fl, hf, hms⟩ := BS.rl hS h (j + 1) bs (by omega) hb
      exact ⟨fl, hf, by simp only [MS]; exact .inr ⟨hm, hms⟩⟩
  | .nrow h0 t n cs :: h, j, bs, hl, hb => by
    simp only [BS] at hb
    simp only [List.length_cons] at hl
    have hA : A1[j]? = some (A1[j]'(by omega)) := List.getElem?_eq_getElem (by omega)
    rcases hb with ⟨hm, bs', rfl, hb⟩ | ⟨hm, hb⟩
    · obtain ⟨fl, hf, hms⟩ := BS.rl hS h (j + 1) bs' (by omega) hb
      exact ⟨A1[j]'(by omega) :: fl, by simp only [RlL, Rl]; exact ⟨hA, hf⟩, by simp only [MS]; exact .inl ⟨hm, _, fl, hA, rfl, hms⟩⟩
    · obtain ⟨fl, hf, hms⟩ := BS.rl hS h (j + 1) bs (by omega) hb
      exact ⟨fl, hf, by simp only [MS]; exact .inr ⟨hm, hms⟩⟩
inductive Fin (C : Cfg) (A1 AP : List Value) (okF : Nat → Prop) (w' : World) (L : Nat) (o o3 : Obs) (q i : Nat) : Ob → Prop where
  | box (t : Nat) (cs : List V) (sh : Bool) (g : Nat) (cur : Array Value) (seg : List V) (h1 : A1[q]? = some (.pointer (some ⟨g, 0, none⟩))) (h2 : w'.heap[g]? = some (.cells cur t (0, 0)))
      (h3 : ∀ x ∈ cur.toList, x.oneCell' = true) (h4 : o3[i]? = some (.box t seg false)) (h5 : flatB C t seg = true) (h6 : RlL AP okF w' seg cur.toList) : Fin C A1 AP okF w' L o o3 q i (.box t cs sh)
  | dir (x : Ob) (m : Nat) (v : Value) (ro : Ob) (h1 : L ≤ m) (h2 : A1[q]? = some v) (h3 : AP[m]? = some v) (h4 : o[m]? = some ro) (h5 : o3[i]? = some ro)
      (h6 : o3[m]? = some .gone) : Fin C A1 AP okF w' L o o3 q i x
  | via (x : Ob) (h : o3[i]? = some .gone) : Fin C A1 AP okF w' L o o3 q i x
theorem putB_some {D : List Nat} {L : Nat} {okF : Nat → Prop} {o0 : Obs} : ∀ (X : List Nat) (h : Obs) (j : Nat) (ys : List V) (fl : List Value) (o : Obs) {K : Obs → Option α}, X.Nodup → (∀ i ∈ X, i < L) → L ≤ o.length → (∀ m, L ≤ m → o[m]? = o0[m]? ∨ o[m]? = some .gone) →
    h.length = X.length → RlL AP okF w' ys fl → MS C D A1 w' j h fl → putB C D L j X h ys o K = some r →
    ∃ o3, K o3 = some r ∧ o3.length = o.length ∧ (∀ i, i ∉ X → i < L → o3[i]? = o[i]?) ∧ (∀ m, L ≤ m → o3[m]? = o[m]? ∨ o3[m]? = some .gone) ∧ (∀ p i x, X[p]? = some i → h[p]? = some x → Fin C A1 AP okF w' L o0 o3 (j + p) i x)
  | [], h, j, ys, fl, o, K, _, _, _, _, hlen, _, _, hh => by
    simp only [putB] at hh
    exact ⟨o, hh, rfl, fun _ _ _ => rfl, fun _ _ => .inl rfl, fun p i x hp => by simp at hp⟩
  | i :: X, [], j, ys, fl, o, K, _, _, _, _, hlen, _, _, hh => by simp at hlen
  | i :: X, .gone :: h, j, ys, fl, o, K, _, _, _, _, hlen, _, _, hh => by simp [putB] at hh
  | i :: X, .box t cs sh :: h, j, ys, fl, o, K, hnd, hlt, hL, hsame, hlen, hr, hms, hh => by
    obtain ⟨hni, hnd'⟩ := List.nodup_cons.1 hnd
    simp only [putB] at hh
    simp only [MS] at hms
    obtain ⟨ti, g, cur, fl', hti, hA, hg, hcl, hone, rfl, hms⟩ := hms
    replace hh := need_some hh
    obtain ⟨ti', hti', hh⟩ := hh
    rw [hti] at hti'; cases hti'
    obtain ⟨hflat, hh⟩ := must_some hh
    have h1 : RlL AP okF w' (ys.take ti.leaves.length) cur.toList := by
      have := hr.take ti.leaves.length
      rwa [← hcl, List.take_left, hcl] at this
    have h2 : RlL AP okF w' (ys.drop ti.leaves.length) fl' := by
      have := hr.drop ti.leaves.length
      rwa [← hcl, List.drop_left, hcl] at this
    have hi : i < L := hlt i (by simp)
    obtain ⟨o3, hk, hl3, hoth, hge, hfin⟩ := putB_some (o0 := o0) X h (j + 1) (ys.drop ti.leaves.length) fl' _ hnd' (fun i hi => hlt i (by simp [hi])) (by rw [setOb_length]; exact hL)
      (fun m hm => by rw [setOb_get, if_neg (by omega)]; exact hsame m hm) (by simpa using hlen) h2 hms hh
    refine ⟨o3, hk, by rw [hl3, setOb_length], fun i' h3 h4 => ?_, fun m hm => ?_, fun p i' x hp hx => ?_⟩
    · rw [hoth i' (fun hm => h3 (by simp [hm])) h4, setOb_get, if_neg (fun e => h3 (by simp [e]))]
    · rcases hge m hm with e | e
      · rw [e, setOb_get, if_neg (by omega)]; exact .inl rfl
      · exact .inr e
    · cases p with
      | zero =>
        simp at hp hx; subst hp; subst hx
        have hio : i < o.length := by omega
        exact .box t cs sh g cur _ hA hg hone (by rw [hoth i hni hi, setOb_get, if_pos rfl, List.getElem?_eq_getElem hio]; rfl) hflat h1
      | succ p =>
        have := hfin p i' x (by simpa using hp) (by simpa using hx)
        rwa [show j + 1 + p = j + (p + 1) by omega] at this
  | i :: X, .row t0 n0 cs0 sh0 :: h, j, ys, fl, o, K, hnd, hlt, hL, hsame, hlen, hr, hms, hh => by
    obtain ⟨hni, hnd'⟩ := List.nodup_cons.1 hnd
    simp only [putB] at hh
    simp only [MS] at hms
    have hi : i < L := hlt i (by simp)
    have hio : i < o.length := by omega
    rcases hms with ⟨hm, v, fl', hA, rfl, hms⟩ | ⟨hm, hms⟩
    · rw [hm] at hh; simp only [cond_true] at hh
      split at hh
      · rename_i m ys'
        split at hh
        · rename_i t n c ho
          obtain ⟨hLm, hh⟩ := must_some hh
          have hLm := Nat.le_of_ble_eq_true hLm
          simp only [RlL, Rl] at hr
          have hmo : m < o.length := (List.getElem?_eq_some_iff.1 ho).1
          obtain ⟨o3, hk, hl3, hoth, hge, hfin⟩ := putB_some (o0 := o0) X h (j + 1) ys' fl' _ hnd' (fun i hi => hlt i (by simp [hi])) (by rw [setOb_length, setOb_length]; exact hL)
            (fun m' hm' => by
              rw [setOb_get, setOb_get]
              by_cases e : m' = m
              · rw [if_pos e, if_neg (by omega), e, ho]; exact .inr rfl
              · rw [if_neg e, if_neg (by omega)]; exact hsame m' hm') (by simpa using hlen) hr.2 hms hh
          refine ⟨o3, hk, by rw [hl3, setOb_length, setOb_length], fun i' h3 h4 => ?_, fun m' hm' => ?_, fun p i' x hp hx => ?_⟩
          · rw [hoth i' (fun hm => h3 (by simp [hm])) h4, setOb_get, if_neg (by omega), setOb_get, if_neg (fun e => h3 (by simp [e]))]
          · rcases hge m' hm' with e | e
            · rw [e, setOb_get, setOb_get]
              by_cases e : m' = m
              · rw [if_pos e, if_neg (by omega), e, ho]; exact .inr rfl
              · rw [if_neg e, if_neg (by omega)]; exact .inl rfl
            · exact .inr e
          · cases p with
            | zero =>
              simp at hp hx; subst hp; subst hx
              have h6 : o3[m]? = some .gone := by
                rcases hge m hLm with e | e
                · rw [e, setOb_get, if_pos rfl, setOb_get, if_neg (by omega), ho]; rfl
                · exact e
              refine .dir _ m v _ hLm hA hr.1 ?_ (by rw [hoth i hni hi, setOb_get, if_neg (by omega), setOb_get, if_pos rfl, List.getElem?_eq_getElem hio]; rfl) h6
              rcases hsame m hLm with e | e
              · rw [← e]; exact ho
              · rw [e] at ho; cases ho
            | succ p =>
              have := hfin p i' x (by simpa using hp) (by simpa using hx)
              rwa [show j + 1 + p = j + (p + 1) by omega] at this
        · cases hh
      · cases hh
    · rw [hm] at hh; simp only [cond_false] at hh
      obtain ⟨o3, hk, hl3, hoth, hge, hfin⟩ := putB_some (o0 := o0) X h (j + 1) ys fl _ hnd' (fun i hi => hlt i (by simp [hi])) (by rw [setOb_length]; exact hL)
        (fun m hm => by rw [setOb_get, if_neg (by omega)]; exact hsame m hm) (by simpa using hlen) hr hms hh
      refine ⟨o3, hk, by rw [hl3, setOb_length], fun i' h3 h4 => ?_, fun m hm => ?_, fun p i' x hp hx => ?_⟩
      · rw [hoth i' (fun hm => h3 (by simp [hm])) h4, setOb_get, if_neg (fun e => h3 (by simp [e]))]
      · rcases hge m hm with e | e
        · rw [e, setOb_get, if_neg (by omega)]; exact .inl rfl
        · exact .inr e
      · cases p with
        | zero =>
          simp at hp hx; subst hp; subst hx
          exact .via _ (by rw [hoth i hni hi, setOb_get, if_pos rfl, List.getElem?_eq_getElem hio]; rfl)
        | succ p =>
          have := hfin p i' x (by simpa using hp) (by simpa using hx)
          rwa [show j + 1 + p = j + (p + 1) by omega] at this
  | i :: X, .nrow h0 t0 n0 cs0 :: h, j, ys, fl, o, K, hnd, hlt, hL, hsame, hlen, hr, hms, hh => by
    obtain ⟨hni, hnd'⟩ := List.nodup_cons.1 hnd
    simp only [putB] at hh
    simp only [MS] at hms
    have hi : i < L := hlt i (by simp)
    have hio : i < o.length := by omega
    rcases hms with ⟨hm, v, fl', hA, rfl, hms⟩ | ⟨hm, hms⟩
    · rw [hm] at hh; simp only [cond_true] at hh
      split at hh
      · rename_i m ys'
        split at hh
        · rename_i t n c ho
          obtain ⟨hLm, hh⟩ := must_some hh
          have hLm := Nat.le_of_ble_eq_true hLm
          simp only [RlL, Rl] at hr
          have hmo : m < o.length := (List.getElem?_eq_some_iff.1 ho).1
          obtain ⟨o3, hk, hl3, hoth, hge, hfin⟩ := putB_some (o0 := o0) X h (j + 1) ys' fl' _ hnd' (fun i hi => hlt i (by simp [hi])) (by rw [setOb_length, setOb_length]; exact hL)
            (fun m' hm' => by
              rw [setOb_get, setOb_get]
              by_cases e : m' = m
              · rw [if_pos e, if_neg (by omega), e, ho]; exact .inr rfl
              · rw [if_neg e, if_neg (by omega)]; exact hsame m' hm') (by simpa using hlen) hr.2 hms hh
          refine ⟨o3, hk, by rw [hl3, setOb_length, setOb_length], fun i' h3 h4 => ?_, fun m' hm' => ?_, fun p i' x hp hx => ?_⟩
          · rw [hoth i' (fun hm => h3 (by simp [hm])) h4, setOb_get, if_neg (by omega), setOb_get, if_neg (fun e => h3 (by simp [e]))]
          · rcases hge m' hm' with e | e
            · rw [e, setOb_get, setOb_get]
              by_cases e : m' = m
              · rw [if_pos e, if_neg (by omega), e, ho]; exact .inr rfl
              · rw [if_neg e, if_neg (by omega)]; exact .inl rfl
            · exact .inr e
          · cases p with
            | zero =>
              simp at hp hx; subst hp; subst hx
              have h6 : o3[m]? = some .gone := by
                rcases hge m hLm with e | e
                · rw [e, setOb_get, if_pos rfl, setOb_get, if_neg (by omega), ho]; rfl
                · exact e
              refine .dir _ m v _ hLm hA hr.1 ?_ (by rw [hoth i hni hi, setOb_get, if_neg (by omega), setOb_get, if_pos rfl, List.getElem?_eq_getElem hio]; rfl) h6
              rcases hsame m hLm with e | e
              · rw [← e]; exact ho
              · rw [e] at ho; cases ho
            | succ p =>
              have := hfin p i' x (by simpa using hp) (by simpa using hx)
              rwa [show j + 1 + p = j + (p + 1) by omega] at this
        · cases hh
      · cases hh
    · rw [hm] at hh; simp only [cond_false] at hh
      obtain ⟨o3, hk, hl3, hoth, hge, hfin⟩ := putB_some (o0 := o0) X h (j + 1) ys fl _ hnd' (fun i hi => hlt i (by simp [hi])) (by rw [setOb_length]; exact hL)
        (fun m hm => by rw [setOb_get, if_neg (by omega)]; exact hsame m hm) (by simpa using hlen) hr hms hh
      refine ⟨o3, hk, by rw [hl3, setOb_length], fun i' h3 h4 => ?_, fun m hm => ?_, fun p i' x hp hx => ?_⟩
      · rw [hoth i' (fun hm => h3 (by simp [hm])) h4, setOb_get, if_neg (fun e => h3 (by simp [e]))]
      · rcases hge m hm with e | e
        · rw [e, setOb_get, if_neg (by omega)]; exact .inl rfl
        · exact .inr e
      · cases p with
        | zero =>
          simp at hp hx; subst hp; subst hx
          exact .via _ (by rw [hoth i hni hi, setOb_get, if_pos rfl, List.getElem?_eq_getElem hio]; rfl)
        | succ p =>
          have := hfin p i' x (by simpa using hp) (by simpa using hx)
          rwa [show j + 1 + p = j + (p + 1) by omega] at this
theorem DecAll.length (hC : CfgOk P C) : ∀ (ts : List Nat) (us fl : List Value) (ls : List Leaf), DecAll C ts us fl → lvs C ts = some ls → ls.length = fl.length
  | [], [], fl, ls, hd, hl => by simp only [DecAll] at hd; simp only [lvs, Option.some.injEq] at hl; rw [hd, ← hl]; rfl
  | [], _ :: _, fl, ls, hd, hl => by simp [DecAll] at hd
  | _ :: _, [], fl, ls, hd, hl => by simp [DecAll] at hd
  | t :: ts, u :: us, fl, ls, hd, hl => by
    simp only [DecAll] at hd
    obtain ⟨ti, f1, f2, ht, rfl, hd1, hd2⟩ := hd
    simp only [lvs, ht] at hl
    cases hls : lvs C ts with
    | none => rw [hls] at hl; cases hl
    | some ls' =>
      rw [hls] at hl
      have hl : ti.leaves ++ ls' = ls := by simpa using hl
      rw [← hl, List.length_append, List.length_append, DecAll.length hC ts us f2 ls' hd2 hls]
      congr 1
      rcases hd1 with ⟨_, h1, _⟩ | ⟨ha, rfl⟩
      · exact h1.symm
      · obtain ⟨i, z, d, _, _, _, _, hz, _, _, _, _, hlv, hz1, hzl⟩ := (hC.ty t ti ht).info
        have := hz1 ha
        rw [this] at hz
        rw [hlv, ← hzl, ← hz]; rfl
theorem DecRes.length (hC : CfgOk P C) {ts : List Nat} {vv : Value} {fl : List Value} {ls : List Leaf} (hd : DecRes C ts vv fl) (hl : lvs C ts = some ls) : ls.length = fl.length := by
  rcases hd with ⟨t, rfl, hd⟩ | ⟨_, arr, rfl, hd⟩
  · exact hd.length hC [t] [vv] fl ls hl
  · exact hd.length hC ts _ fl ls hl
theorem shape_length : ∀ (o : Obs), (shape o).length = o.length
  | [] => rfl
  | o :: r => by simp [shape, shape_length r]
theorem bIds_mem : ∀ (h : Obs) (j p : Nat) (t : Nat) (cs : List V) (sh : Bool), h[p]? = some (.box t cs sh) → j + p ∈ bIds j h
  | [], j, p, t, cs, sh, h => by simp at h
  | o :: r, j, 0, t, cs, sh, h => by simp at h; subst h; simp [bIds]
  | o :: r, j, p + 1, t, cs, sh, h => by
    have := bIds_mem r (j + 1) p t cs sh (by simpa using h)
    rw [show j + 1 + p = j + (p + 1) by omega] at this
    cases o <;> simp [bIds, this]
end
end Go.PI
