/- The law FnExactGoodRune answers true for every number. No condition. -/
import Derived.Test.YtlikjclgpmalkaaPFnExactGoodRunex1
namespace Go.Proofs.Ytlikjclgpmalkaa.Pure
open Go.RowKit Go.Proofs.Ytlikjclgpmalkaa.PFnExactGoodRune Go.Proofs.YtlikjclgpmalkaaW.PrintWords Go.Proofs.YtlikjclgpmalkaaW.PrintLast Go.Proofs.YtlikjclgpmalkaaW.PrintMore

theorem FnExactGoodRune : laws_FnExactGoodRune.Pure := by
  intro a0 _
  unfold laws_FnExactGoodRune.f impl_GoodRune.f spec_GoodRune.f impl_isRune.f impl_within.f spec_l1In.f
  by_cases h1 : a0 ≥ 0 <;> by_cases h2 : a0 ≥ 55296 <;> by_cases h3 : a0 ≤ 1114111 <;> simp [h1, h2, h3]

end Go.Proofs.Ytlikjclgpmalkaa.Pure
