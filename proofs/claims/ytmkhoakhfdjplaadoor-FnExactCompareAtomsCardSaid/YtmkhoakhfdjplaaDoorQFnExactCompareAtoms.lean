/- What is known of the arguments of FnExactCompareAtoms, and the statement over plain values. No condition of its own. -/
import Derived.Test.YtmkhoakhfdjplaaDoorPFnExactCompareAtomsx0
import Derived.Test.YtmkhoakhfdjplaaDoorPFnExactCompareAtomsx3
import Derived.Test.YtmkhoakhfdjplaaDoorOpn
import Derived.KernelRfl
namespace Go.Proofs.YtmkhoakhfdjplaaDoor.PFnExactCompareAtoms
open Go.RowKit Go.Proofs.YtmkhoakhfdjplaaDoor.PFnExactCompareAtoms Go.Proofs.YtmkhoakhfdjplaaDoorW.PrintWords Go.Proofs.YtmkhoakhfdjplaaDoorW.PrintLast Go.Proofs.YtmkhoakhfdjplaaDoorW.PrintMore Go.Proofs.YtmkhoakhfdjplaaDoor.Opn
section
variable {H : Type} {enc : TypeId × Value → H} {W : World}
end
def laws_FnExactCompareAtoms.Pure : Prop := ∀ (x0 : Int) (x1 : ByteArray) (x2 : ByteArray), (Lit.int .i64 x0).wf = true → x1.size ≤ maxLen → x2.size ≤ maxLen → ∃ k, laws_FnExactCompareAtoms.f k (x0) (x1) (x2) = some true
end Go.Proofs.YtmkhoakhfdjplaaDoor.PFnExactCompareAtoms
