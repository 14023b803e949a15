/- What is known of the arguments of FnExactInRanges, and the statement over plain values. No condition of its own. -/
import Derived.Test.YtokoikpafnbblaaPFnExactInRangesx0
import Derived.Test.YtokoikpafnbblaaPFnExactInRangesx2
import Derived.Test.YtokoikpafnbblaaOpn
import Derived.KernelRfl
namespace Go.Proofs.Ytokoikpafnbblaa.PFnExactInRanges
open Go.RowKit Go.Proofs.Ytokoikpafnbblaa.PFnExactInRanges Go.Proofs.YtokoikpafnbblaaW.PrintWords Go.Proofs.YtokoikpafnbblaaW.PrintLast Go.Proofs.YtokoikpafnbblaaW.PrintMore Go.Proofs.Ytokoikpafnbblaa.Opn
section
variable {H : Type} {enc : TypeId × Value → H} {W : World}
def G56 (x : S56) : Prop := (Lit.int .i64 x.f0).wf = true ∧ (Lit.int .i64 x.f1).wf = true
theorem opn56 (N : Nat) : Opens enc Try.prog W N 56 k56 G56 := (opens_struct Try.underlying56 (by kernel_rfl) (fun p => ⟨p.1, p.2⟩) (fun _ => rfl) (opensF_cons rfl (by kernel_rfl) (opens_int Try.underlying3) (opensF_one rfl (by kernel_rfl) (opens_int Try.underlying3))) (fun _ h => h)).le (Nat.le_succ N)
end
def laws_FnExactInRanges.Pure : Prop := ∀ (x0 : List S56) (x1 : Int), (x0.length ≤ maxLen ∧ ∀ y ∈ x0, G56 y) → (Lit.int .i64 x1).wf = true → ∃ k, laws_FnExactInRanges.f k (x0) (x1) = some true
end Go.Proofs.Ytokoikpafnbblaa.PFnExactInRanges
