/- Both paddings agree at these lengths, and their last eight bytes spell it: by the kernel's computation. -/
import Derived.Test.YtkoalnbcoggabaaUnpDef
namespace Go.Proofs.Ytkoalnbcoggabaa.Pure
open Go.RowKit Go.Proofs.Ytkoalnbcoggabaa.SFnExactUnpadText Go.Proofs.YtkoalnbcoggabaaW.PrintWords Go.Proofs.YtkoalnbcoggabaaW.PrintLast Go.Proofs.YtkoalnbcoggabaaW.PrintMore

theorem pad_2 : padR 102 = true := by decide +kernel
theorem pad_3 : padR 153 = true := by decide +kernel

end Go.Proofs.Ytkoalnbcoggabaa.Pure
