/- The law FnExactSignAt answers true for every number. No condition. -/
import Derived.Test.YtlikjclgpmalkaaPFnExactSignAtx1
namespace Go.Proofs.Ytlikjclgpmalkaa.Pure
open Go.RowKit Go.Proofs.Ytlikjclgpmalkaa.PFnExactSignAt Go.Proofs.YtlikjclgpmalkaaW.PrintWords Go.Proofs.YtlikjclgpmalkaaW.PrintLast Go.Proofs.YtlikjclgpmalkaaW.PrintMore

theorem FnExactSignAt : laws_FnExactSignAt.Pure := by
  intro a0 _
  unfold laws_FnExactSignAt.f
  have e : impl_SignAt.f a0 = spec_SignAt.f a0 := rfl
  rw [e]
  have h : ∃ r, spec_SignAt.f a0 = some r := by
    unfold spec_SignAt.f spec_l1In.f
    by_cases h1 : a0 ≥ 0
    · by_cases h2 : a0 ≤ 63
      · have hw : wrap64 (a0 + 1) = a0 + 1 := by unfold wrap64; omega
        rw [hw, if_pos h1]
        simp only [Option.bind_some, h2, decide_true, if_true]
        rw [if_pos (by omega), if_pos (by omega), if_pos (by omega)]
        exact ⟨_, rfl⟩
      · rw [if_pos h1]
        simp only [Option.bind_some, h2, decide_false]
        exact ⟨_, rfl⟩
    · rw [if_neg h1]
      exact ⟨_, rfl⟩
  obtain ⟨r, hr⟩ := h
  rw [hr]
  simp

end Go.Proofs.Ytlikjclgpmalkaa.Pure
