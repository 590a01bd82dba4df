/- The law FnExactConstants answers true: the program's constants are the reference's. No condition. -/
import Derived.Test.YtlikjclgpmalkaaPFnExactConstantsx1
namespace Go.Proofs.Ytlikjclgpmalkaa.Pure
open Go.RowKit Go.Proofs.Ytlikjclgpmalkaa.PFnExactConstants Go.Proofs.YtlikjclgpmalkaaW.PrintWords Go.Proofs.YtlikjclgpmalkaaW.PrintLast Go.Proofs.YtlikjclgpmalkaaW.PrintMore

theorem FnExactConstants : laws_FnExactConstants.Pure := rfl

end Go.Proofs.Ytlikjclgpmalkaa.Pure
