/- What is known of the arguments of FnExactSortTexts, and the statement over plain values. No condition of its own. -/
import Derived.Test.YtmkhoakhfdjplaaPFnExactSortTextsx0
import Derived.Test.YtmkhoakhfdjplaaPFnExactSortTextsx4
import Derived.Test.YtmkhoakhfdjplaaOpn
import Derived.KernelRfl
namespace Go.Proofs.Ytmkhoakhfdjplaa.PFnExactSortTexts
open Go.RowKit Go.Proofs.Ytmkhoakhfdjplaa.PFnExactSortTexts Go.Proofs.YtmkhoakhfdjplaaW.PrintWords Go.Proofs.YtmkhoakhfdjplaaW.PrintLast Go.Proofs.YtmkhoakhfdjplaaW.PrintMore Go.Proofs.Ytmkhoakhfdjplaa.Opn
section
variable {H : Type} {enc : TypeId × Value → H} {W : World}
end
def laws_FnExactSortTexts.Pure : Prop := ∀ (x0 : List ByteArray), (x0.length ≤ maxLen ∧ ∀ y ∈ x0, y.size ≤ maxLen) → ∃ k, laws_FnExactSortTexts.f k (x0) = some true
end Go.Proofs.Ytmkhoakhfdjplaa.PFnExactSortTexts
