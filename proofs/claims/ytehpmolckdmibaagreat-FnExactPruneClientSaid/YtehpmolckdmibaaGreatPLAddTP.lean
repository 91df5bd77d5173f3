/-
  AddHead, both sides.
-/
import Derived.Test.YtehpmolckdmibaaGreatPLJoin2TP
namespace Go.Proofs.YtehpmolckdmibaaGreat.Cli
open Go Go.PI Go.PI.Sha Go.PI.Rel Go.PI.Nest Go.PI.Tru Go.PI.Set Go.PI.Cli Go.Proofs.YtehpmolckdmibaaGreat.Sha Go.Proofs.YtehpmolckdmibaaGreat.By Go.Proofs.YtehpmolckdmibaaGreat.Nest Go.Proofs.YtehpmolckdmibaaGreat.Set EqP
set_option maxHeartbeats 1000000
set_option linter.unusedVariables false
set_option linter.unusedSimpArgs false

theorem cf_wf : ∀ (r d : List Hd), cf d r = 0 → wf d → wf (d ++ r)
  | [], d, h, hw => by simpa using hw
  | x :: r, d, h, hw => by
    rw [cf_cons] at h
    by_cases g : hf x = 0
    case neg => rw [if_pos g] at h; exact absurd h g
    rw [if_neg (fun h => h g)] at h
    have e : d ++ x :: r = d ++ [x] ++ r := by simp
    rw [e]
    by_cases h0 : d.length = 0
    · rw [if_pos h0] at h
      by_cases hf : first x = true
      · rw [if_pos hf] at h; exact cf_wf r _ h (wf_first h0)
      · rw [if_neg hf] at h; cases h
    · rw [if_neg h0] at h
      by_cases gj : jf d x = 0
      · rw [if_neg (fun h => h gj)] at h; exact cf_wf r _ h (wf_snoc hw gj)
      · rw [if_pos gj] at h; exact absurd h gj
theorem clFault_ok {hs : List Hd} {dep : Int} (h : clFault hs dep = 0) : okH hs ∧ wf hs ∧ 0 < hs.length ∧ hs.length ≤ 24 ∧ 1 ≤ dep ∧ dep ≤ 6 := by
  unfold clFault at h
  by_cases g0 : 1 ≤ dep ∧ dep ≤ 6
  case neg => rw [if_pos g0] at h; cases h
  rw [if_neg (fun h => h g0)] at h
  by_cases g1 : hs.length = 0
  · rw [if_pos g1] at h; cases h
  rw [if_neg g1] at h
  by_cases g2 : 24 < hs.length
  · rw [if_pos g2] at h; cases h
  rw [if_neg g2] at h
  have w0 : wf [] := fun j h1 h2 => by simp at h2
  exact ⟨cf_ok hs [] h, by simpa using cf_wf hs [] h w0, by omega, by omega, g0⟩
/-- What AddHead answers. -/
def addC (x : Cl) (y : Hd) : Int × List Hd × Int := if clFault x.hds x.dep ≠ 0 then (clFault x.hds x.dep, [], 0) else if hf y ≠ 0 then (hf y, [], 0) else if jf x.hds y ≠ 0 then (jf x.hds y, [], 0) else if x.hds.length = 24 then (8, [], 0) else (0, x.hds ++ [y], x.dep)
theorem hd_fit {y : Hd} (h : hdFault y = 0) : hdZ y = 64 := by have := hdFault_ok h; unfold hdZ; omega
theorem ok_tot : ∀ {hs : List Hd}, okH hs → tot hdZ hs = 64 * hs.length
  | [], _ => rfl
  | v :: l, h => by
    simp only [tot, hd_fit (h v (by simp)), ok_tot (hs := l) (fun u hu => h u (by simp [hu])), List.length_cons]; omega
theorem ok_fit {hs : List Hd} (h : okH hs) (hl : hs.length ≤ 1000) : hdsfit hs := ⟨by omega, by rw [ok_tot h]; omega⟩
theorem addC_fit (x : Cl) (y : Hd) (h : hdsfit x.hds) (h1 : hdfit y) : hdsfit (addC x y).2.1 := by
  unfold addC
  by_cases g0 : clFault x.hds x.dep = 0
  case neg => rw [if_pos g0]; exact ⟨by simp, by simp [tot]⟩
  rw [if_neg (fun h => h g0)]
  by_cases g1 : hf y = 0
  case neg => rw [if_pos g1]; exact ⟨by simp, by simp [tot]⟩
  rw [if_neg (fun h => h g1)]
  by_cases g2 : jf x.hds y = 0
  case neg => rw [if_pos g2]; exact ⟨by simp, by simp [tot]⟩
  rw [if_neg (fun h => h g2)]
  by_cases g3 : x.hds.length = 24
  · rw [if_pos g3]; exact ⟨by simp, by simp [tot]⟩
  rw [if_neg g3]
  obtain ⟨q1, q2, q3, q4, q5⟩ := clFault_ok g0
  exact ok_fit (okH_snoc q1 g1) (by simp; omega)
end Go.Proofs.YtehpmolckdmibaaGreat.Cli
