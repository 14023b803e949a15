/- What is known of the arguments of FnExactAtomsOf, and the statement over plain values. No condition of its own. -/
import Derived.Test.YtmkhoakhfdjplaaDoorPFnExactAtomsOfx0
import Derived.Test.YtmkhoakhfdjplaaDoorPFnExactAtomsOfx3
import Derived.Test.YtmkhoakhfdjplaaDoorOpn
import Derived.KernelRfl
namespace Go.Proofs.YtmkhoakhfdjplaaDoor.PFnExactAtomsOf
open Go.RowKit Go.Proofs.YtmkhoakhfdjplaaDoor.PFnExactAtomsOf Go.Proofs.YtmkhoakhfdjplaaDoorW.PrintWords Go.Proofs.YtmkhoakhfdjplaaDoorW.PrintLast Go.Proofs.YtmkhoakhfdjplaaDoorW.PrintMore Go.Proofs.YtmkhoakhfdjplaaDoor.Opn
section
variable {H : Type} {enc : TypeId × Value → H} {W : World}
end
def laws_FnExactAtomsOf.Pure : Prop := ∀ (x0 : (Int × Int × ByteArray × Bool × List ByteArray)), ((Lit.int .i64 x0.1).wf = true ∧ (Lit.int .i64 x0.2.1).wf = true ∧ x0.2.2.1.size ≤ maxLen ∧ True ∧ (x0.2.2.2.2.length ≤ maxLen ∧ ∀ y ∈ x0.2.2.2.2, y.size ≤ maxLen)) → ∃ k, laws_FnExactAtomsOf.f k (x0.1) (x0.2.1) (x0.2.2.1) (x0.2.2.2.1) (x0.2.2.2.2) = some true
end Go.Proofs.YtmkhoakhfdjplaaDoor.PFnExactAtomsOf
