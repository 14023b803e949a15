/- What is known of the arguments of FnExactIsTrue, and the statement over plain values. No condition of its own. -/
import Derived.Test.YtnccklajpmpfdaaPFnExactIsTruex0
import Derived.Test.YtnccklajpmpfdaaPFnExactIsTruex2
import Derived.Test.YtnccklajpmpfdaaOpn
import Derived.KernelRfl
namespace Go.Proofs.Ytnccklajpmpfdaa.PFnExactIsTrue
open Go.RowKit Go.Proofs.Ytnccklajpmpfdaa.PFnExactIsTrue Go.Proofs.YtnccklajpmpfdaaW.PrintWords Go.Proofs.YtnccklajpmpfdaaW.PrintLast Go.Proofs.YtnccklajpmpfdaaW.PrintMore Go.Proofs.Ytnccklajpmpfdaa.Opn
section
variable {H : Type} {enc : TypeId × Value → H} {W : World}
end
def laws_FnExactIsTrue.Pure : Prop := ∀ (x0 : (Int × Int × ByteArray × Bool × List ByteArray)), ((Lit.int .i64 x0.1).wf = true ∧ (Lit.int .i64 x0.2.1).wf = true ∧ x0.2.2.1.size ≤ maxLen ∧ True ∧ (x0.2.2.2.2.length ≤ maxLen ∧ ∀ y ∈ x0.2.2.2.2, y.size ≤ maxLen)) → ∃ k, laws_FnExactIsTrue.f k (x0.1) (x0.2.1) (x0.2.2.1) (x0.2.2.2.1) (x0.2.2.2.2) = some true
end Go.Proofs.Ytnccklajpmpfdaa.PFnExactIsTrue
