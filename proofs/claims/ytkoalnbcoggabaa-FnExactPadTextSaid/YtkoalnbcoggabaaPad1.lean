/- Both paddings agree at these lengths: by the kernel's computation. -/
import Derived.Test.YtkoalnbcoggabaaPadDef
namespace Go.Proofs.Ytkoalnbcoggabaa.Pure
open Go.RowKit Go.Proofs.Ytkoalnbcoggabaa.SFnExactPadText Go.Proofs.YtkoalnbcoggabaaW.PrintWords Go.Proofs.YtkoalnbcoggabaaW.PrintLast Go.Proofs.YtkoalnbcoggabaaW.PrintMore

theorem pad_2 : padR 102 = true := by decide +kernel
theorem pad_3 : padR 153 = true := by decide +kernel

end Go.Proofs.Ytkoalnbcoggabaa.Pure
