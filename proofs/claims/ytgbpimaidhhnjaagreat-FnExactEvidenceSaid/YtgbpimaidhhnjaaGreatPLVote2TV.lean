/-
  SignHead, both sides.
-/
import Derived.Test.YtgbpimaidhhnjaaGreatPLVoteTV
namespace Go.Proofs.YtgbpimaidhhnjaaGreat.Vote
open Go Go.PI Go.PI.Sha Go.PI.Rel Go.PI.Nest Go.PI.Tru Go.PI.Set Go.PI.Tree Go.PI.Vote Go.Proofs.YtgbpimaidhhnjaaGreat.Sha Go.Proofs.YtgbpimaidhhnjaaGreat.By Go.Proofs.YtgbpimaidhhnjaaGreat.Nest Go.Proofs.YtgbpimaidhhnjaaGreat.Tru Go.Proofs.YtgbpimaidhhnjaaGreat.Set Go.Proofs.YtgbpimaidhhnjaaGreat.Tree EqV
set_option maxHeartbeats 1000000
set_option linter.unusedVariables false
set_option linter.unusedSimpArgs false
/-! ### the digest of a head that is signed -/
theorem hbW_cells (x : HB) : psS (hbW x) = [V.sl 7 (bytesV (num7 x.hgt)), V.sl 7 (bytesV (num7 x.tim)), V.sl x.root.length (bytesV x.root), V.sl x.set.length (bytesV x.set), V.sl x.nxt.length (bytesV x.nxt)] := by
  simp only [psS, hbW, List.flatMap_cons, List.flatMap_nil, bS, num7_length, List.cons_append, List.nil_append]
theorem ints_at {i : Nat} {d : List Int} (hi : i = d.length) (v : Int) (r : List Int) : (ints (d ++ v :: r))[i]? = some (.int .i64 v) := by
  subst hi
  rw [ints_append, List.getElem?_append_right (by rw [ints_length]; exact Nat.le_refl _), ints_length, Nat.sub_self]; rfl
theorem seed_at {l : List (List UInt8)} {i : Nat} (h : i < l.length) : (psS l)[i]? = some (.sl (l.getD i []).length (bytesV (l.getD i []))) := by
  have e : l = l.take i ++ l.getD i [] :: l.drop (i + 1) := by rw [List.getD_eq_getElem?_getD, List.getElem?_eq_getElem h, Option.getD_some, ← List.drop_eq_getElem_cons h, List.take_append_drop]
  have hl : (l.take i).length = i := by rw [List.length_take]; omega
  have := psS_at (l.take i) (l.getD i []) (l.drop (i + 1))
  rw [← e, hl] at this
  exact this
theorem seed_short {l : List (List UInt8)} (h : ¬ l.any long = true) {i : Nat} (hi : i < l.length) : (l.getD i []).length ≤ 1000 := by
  have hm : l.getD i [] ∈ l := by rw [List.getD_eq_getElem?_getD, List.getElem?_eq_getElem hi]; exact List.getElem_mem hi
  have : long (l.getD i []) = false := by
    by_cases e : long (l.getD i []) = true
    · exact absurd (List.any_eq_true.2 ⟨_, hm, e⟩) h
    · simpa using e
  unfold long at this
  have := of_decide_eq_false this
  omega
theorem c50 (x : HB) (h : hbFault x = 0) : runE C 50 [.agg [.int .i64 x.hgt, .int .i64 x.tim, .sl x.root.length (bytesV x.root), .sl x.set.length (bytesV x.set), .sl x.nxt.length (bytesV x.nxt)]] = some (.tup [.sl 32 (bytesV (hbDig x))]) := by
  have hs := hbW_small h
  have k1 : runE C 97 [.sl 5 (psS (hbW x))] = _ := c97 (hbW x) hs
  rw [hbW_cells] at k1
  have k2 := c96 bftTag (packW (hbW x)) (by decide) (by rw [packW_length]; have := hs.2.2; omega)
  have k2 : runE C 96 [V.str { data := #[(98 : UInt8), (102 : UInt8), (116 : UInt8)] }, V.sl 1 [V.sl (packW (hbW x)).length (bytesV (packW (hbW x)))]] = some (.tup [.osl 32 (bytesV (hbDig x))]) := k2
  refine E50 _ _ _ _ _ _ _ _ ?_
  unfold T50
  simp only [S0, c98, k1, k2]
theorem c38 (x : HB) (h : hbFault x = 0) : runE C 38 [.agg [.int .i64 x.hgt, .int .i64 x.tim, .sl x.root.length (bytesV x.root), .sl x.set.length (bytesV x.set), .sl x.nxt.length (bytesV x.nxt)]] = some (.tup [.sl 32 (bytesV (hbDig x))]) := by
  have hs := hbW_small h
  have k1 : runE C 78 [.sl 5 (psS (hbW x))] = _ := c78 (hbW x) hs
  rw [hbW_cells] at k1
  have k2 := c77 bftTag (packW (hbW x)) (by decide) (by rw [packW_length]; have := hs.2.2; omega)
  have k2 : runE C 77 [V.str { data := #[(98 : UInt8), (102 : UInt8), (116 : UInt8)] }, V.sl (packW (hbW x)).length (bytesV (packW (hbW x)))] = some (.tup [.osl 32 (bytesV (hbDig x))]) := k2
  have k0 := c71 x
  rw [h] at k0
  refine E38 _ _ _ _ _ _ _ _ ?_
  unfold T38
  simp only [S0, k0, bne_f, c79, k1, k2]
theorem okP_cons (n : Nat) (k : Int) (r : List Int) (p : Int) : okP n (k :: r) p = (decide (0 ≤ k ∧ k ≤ (n : Int) - 1) && (decide (p < k) && okP n r k)) := rfl
end Go.Proofs.YtgbpimaidhhnjaaGreat.Vote
