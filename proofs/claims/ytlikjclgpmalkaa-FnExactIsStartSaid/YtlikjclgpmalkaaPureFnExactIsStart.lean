/- The law FnExactIsStart answers true for every byte. No condition. -/
import Derived.Test.YtlikjclgpmalkaaPFnExactIsStartx1
namespace Go.Proofs.Ytlikjclgpmalkaa.Pure
open Go.RowKit Go.Proofs.Ytlikjclgpmalkaa.PFnExactIsStart Go.Proofs.YtlikjclgpmalkaaW.PrintWords Go.Proofs.YtlikjclgpmalkaaW.PrintLast Go.Proofs.YtlikjclgpmalkaaW.PrintMore

theorem FnExactIsStart : laws_FnExactIsStart.Pure := by
  intro a0 _
  unfold laws_FnExactIsStart.f impl_IsStart.f spec_IsStart.f
  split <;> simp

end Go.Proofs.Ytlikjclgpmalkaa.Pure
