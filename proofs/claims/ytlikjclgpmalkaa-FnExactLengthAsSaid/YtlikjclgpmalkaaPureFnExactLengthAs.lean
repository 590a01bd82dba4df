/- The law FnExactLengthAs answers true for every number. No condition. -/
import Derived.Test.YtlikjclgpmalkaaPFnExactLengthAsx1
namespace Go.Proofs.Ytlikjclgpmalkaa.Pure
open Go.RowKit Go.Proofs.Ytlikjclgpmalkaa.PFnExactLengthAs Go.Proofs.YtlikjclgpmalkaaW.PrintWords Go.Proofs.YtlikjclgpmalkaaW.PrintLast Go.Proofs.YtlikjclgpmalkaaW.PrintMore

theorem FnExactLengthAs : laws_FnExactLengthAs.Pure := by
  intro a0 _
  unfold laws_FnExactLengthAs.f impl_LengthAs.f spec_LengthAs.f impl_within.f spec_l1In.f
  by_cases h1 : a0 ≥ 0 <;> by_cases h2 : a0 ≤ 600 <;> simp [h1, h2]

end Go.Proofs.Ytlikjclgpmalkaa.Pure
