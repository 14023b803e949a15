/- What is known of the arguments of FnExactParseInt, and the statement over plain values. No condition of its own. -/
import Derived.Test.YtmkhoakhfdjplaaDoorPFnExactParseIntx0
import Derived.Test.YtmkhoakhfdjplaaDoorPFnExactParseIntx2
import Derived.Test.YtmkhoakhfdjplaaDoorOpn
import Derived.KernelRfl
namespace Go.Proofs.YtmkhoakhfdjplaaDoor.PFnExactParseInt
open Go.RowKit Go.Proofs.YtmkhoakhfdjplaaDoor.PFnExactParseInt Go.Proofs.YtmkhoakhfdjplaaDoorW.PrintWords Go.Proofs.YtmkhoakhfdjplaaDoorW.PrintLast Go.Proofs.YtmkhoakhfdjplaaDoorW.PrintMore Go.Proofs.YtmkhoakhfdjplaaDoor.Opn
section
variable {H : Type} {enc : TypeId × Value → H} {W : World}
end
def laws_FnExactParseInt.Pure : Prop := ∀ (x0 : ByteArray), x0.size ≤ maxLen → ∃ k, laws_FnExactParseInt.f k (x0) = some true
end Go.Proofs.YtmkhoakhfdjplaaDoor.PFnExactParseInt
