/- What is known of the arguments of FnExactFormatInt, and the statement over plain values. No condition of its own. -/
import Derived.Test.YtnccklajpmpfdaaDoorPFnExactFormatIntx0
import Derived.Test.YtnccklajpmpfdaaDoorPFnExactFormatIntx1
import Derived.Test.YtnccklajpmpfdaaDoorOpn
import Derived.KernelRfl
namespace Go.Proofs.YtnccklajpmpfdaaDoor.PFnExactFormatInt
open Go.RowKit Go.Proofs.YtnccklajpmpfdaaDoor.PFnExactFormatInt Go.Proofs.YtnccklajpmpfdaaDoorW.PrintWords Go.Proofs.YtnccklajpmpfdaaDoorW.PrintLast Go.Proofs.YtnccklajpmpfdaaDoorW.PrintMore Go.Proofs.YtnccklajpmpfdaaDoor.Opn
section
variable {H : Type} {enc : TypeId × Value → H} {W : World}
end
def laws_FnExactFormatInt.Pure : Prop := ∀ (x0 : Int), (Lit.int .i64 x0).wf = true → ∃ k, laws_FnExactFormatInt.f k (x0) = some true
end Go.Proofs.YtnccklajpmpfdaaDoor.PFnExactFormatInt
