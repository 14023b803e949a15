/- What is known of the arguments of FnNumbers, and the statement over plain values. No condition of its own. -/
import Derived.Test.YtmkhoakhfdjplaaDoorPFnNumbersx0
import Derived.Test.YtmkhoakhfdjplaaDoorPFnNumbersx3
import Derived.Test.YtmkhoakhfdjplaaDoorOpn
import Derived.KernelRfl
namespace Go.Proofs.YtmkhoakhfdjplaaDoor.PFnNumbers
open Go.RowKit Go.Proofs.YtmkhoakhfdjplaaDoor.PFnNumbers Go.Proofs.YtmkhoakhfdjplaaDoorW.PrintWords Go.Proofs.YtmkhoakhfdjplaaDoorW.PrintLast Go.Proofs.YtmkhoakhfdjplaaDoorW.PrintMore Go.Proofs.YtmkhoakhfdjplaaDoor.Opn
section
variable {H : Type} {enc : TypeId × Value → H} {W : World}
end
def laws_FnNumbers.Pure : Prop := ∀ (x0 : List Int), (x0.length ≤ maxLen ∧ ∀ y ∈ x0, (Lit.int .u8 y).wf = true) → ∃ k, laws_FnNumbers.f k (x0) = some true
end Go.Proofs.YtmkhoakhfdjplaaDoor.PFnNumbers
