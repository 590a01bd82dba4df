/- Both paddings at a length, compared. -/
import Derived.Test.YtkoalnbcoggabaaSFnExactPadTextx1
namespace Go.Proofs.Ytkoalnbcoggabaa.Pure
open Go.RowKit Go.Proofs.Ytkoalnbcoggabaa.SFnExactPadText Go.Proofs.YtkoalnbcoggabaaW.PrintWords Go.Proofs.YtkoalnbcoggabaaW.PrintLast Go.Proofs.YtkoalnbcoggabaaW.PrintMore

/-- two results, compared -/
def cmpB : Option ByteArray → Option ByteArray → Bool
  | some a, some b => a.data.toList == b.data.toList && decide (a.data.toList.length ≤ 100)
  | _, _ => false
theorem cmpB_spec {x y : Option ByteArray} (h : cmpB x y = true) : ∃ t : ByteArray, t.size ≤ 100 ∧ x = some t ∧ y = some t := by
  match x, y, h with
  | some a, some b, h =>
    simp only [cmpB, Bool.and_eq_true, beq_iff_eq, decide_eq_true_eq] at h
    obtain ⟨he, hl⟩ := h
    have hab : a = b := by
      cases a
      cases b
      congr 1
      exact Array.toList_inj.mp he
    subst hab
    exact ⟨a, hl, rfl, rfl⟩
def padOk (n : Nat) : Bool := cmpB (spec_l1Tail.f 100 (n : Int)) (impl_padding.f 100 (n : Int))
theorem padOk_spec {n : Nat} (h : padOk n = true) : ∃ t : ByteArray, t.size ≤ 100 ∧ spec_l1Tail.f 100 (n : Int) = some t ∧ impl_padding.f 100 (n : Int) = some t := by
  unfold padOk at h
  exact cmpB_spec h
def padR (a : Nat) : Bool := (List.range 51).all fun i => padOk (a + i)

end Go.Proofs.Ytkoalnbcoggabaa.Pure
