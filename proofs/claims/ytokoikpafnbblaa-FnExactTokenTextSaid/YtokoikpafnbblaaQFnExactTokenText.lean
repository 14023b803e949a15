/- What is known of the arguments of FnExactTokenText, and the statement over plain values. No condition of its own. -/
import Derived.Test.YtokoikpafnbblaaPFnExactTokenTextx0
import Derived.Test.YtokoikpafnbblaaPFnExactTokenTextx1
import Derived.Test.YtokoikpafnbblaaOpn
import Derived.KernelRfl
namespace Go.Proofs.Ytokoikpafnbblaa.PFnExactTokenText
open Go.RowKit Go.Proofs.Ytokoikpafnbblaa.PFnExactTokenText Go.Proofs.YtokoikpafnbblaaW.PrintWords Go.Proofs.YtokoikpafnbblaaW.PrintLast Go.Proofs.YtokoikpafnbblaaW.PrintMore Go.Proofs.Ytokoikpafnbblaa.Opn
section
variable {H : Type} {enc : TypeId × Value → H} {W : World}
end
def laws_FnExactTokenText.Pure : Prop := ∀ (x0 : (Int × ByteArray × Int)), ((Lit.int .i64 x0.1).wf = true ∧ x0.2.1.size ≤ maxLen ∧ (Lit.int .i64 x0.2.2).wf = true) → ∃ k, laws_FnExactTokenText.f k (x0.1) (x0.2.1) (x0.2.2) = some true
end Go.Proofs.Ytokoikpafnbblaa.PFnExactTokenText
