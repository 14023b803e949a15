/- Every exported constant of the program has the value that the reference gives. -/
import Derived.Test.YtokoikpafnbblaaPFnExactConstantsx0
import Derived.Test.YtokoikpafnbblaaPFnExactConstantsx1
import Derived.Test.YtokoikpafnbblaaBase
namespace Go.Proofs.Ytokoikpafnbblaa.Pure.LFnExactConstants
open Go.RowKit Go.Proofs.Ytokoikpafnbblaa.PFnExactConstants Go.Proofs.YtokoikpafnbblaaW.PrintWords Go.Proofs.YtokoikpafnbblaaW.PrintLast Go.Proofs.YtokoikpafnbblaaW.PrintMore Go.Proofs.Ytokoikpafnbblaa.Base
set_option linter.unusedVariables false
set_option linter.unusedSimpArgs false


theorem FnExactConstants : laws_FnExactConstants.Pure := rfl

end Go.Proofs.Ytokoikpafnbblaa.Pure.LFnExactConstants
namespace Go.Proofs.Ytokoikpafnbblaa.Pure
theorem FnExactConstants : PFnExactConstants.laws_FnExactConstants.Pure := LFnExactConstants.FnExactConstants
end Go.Proofs.Ytokoikpafnbblaa.Pure
