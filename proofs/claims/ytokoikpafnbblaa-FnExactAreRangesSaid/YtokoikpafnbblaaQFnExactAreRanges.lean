/- What is known of the arguments of FnExactAreRanges, and the statement over plain values. No condition of its own. -/
import Derived.Test.YtokoikpafnbblaaPFnExactAreRangesx0
import Derived.Test.YtokoikpafnbblaaPFnExactAreRangesx3
import Derived.Test.YtokoikpafnbblaaOpn
import Derived.KernelRfl
namespace Go.Proofs.Ytokoikpafnbblaa.PFnExactAreRanges
open Go.RowKit Go.Proofs.Ytokoikpafnbblaa.PFnExactAreRanges Go.Proofs.YtokoikpafnbblaaW.PrintWords Go.Proofs.YtokoikpafnbblaaW.PrintLast Go.Proofs.YtokoikpafnbblaaW.PrintMore Go.Proofs.Ytokoikpafnbblaa.Opn
section
variable {H : Type} {enc : TypeId × Value → H} {W : World}
def G56 (x : S56) : Prop := (Lit.int .i64 x.f0).wf = true ∧ (Lit.int .i64 x.f1).wf = true
theorem opn56 (N : Nat) : Opens enc Try.prog W N 56 k56 G56 := (opens_struct Try.underlying56 (by kernel_rfl) (fun p => ⟨p.1, p.2⟩) (fun _ => rfl) (opensF_cons rfl (by kernel_rfl) (opens_int Try.underlying3) (opensF_one rfl (by kernel_rfl) (opens_int Try.underlying3))) (fun _ h => h)).le (Nat.le_succ N)
end
def laws_FnExactAreRanges.Pure : Prop := ∀ (x0 : List S56), (x0.length ≤ maxLen ∧ ∀ y ∈ x0, G56 y) → ∃ k, laws_FnExactAreRanges.f k (x0) = some true
end Go.Proofs.Ytokoikpafnbblaa.PFnExactAreRanges
