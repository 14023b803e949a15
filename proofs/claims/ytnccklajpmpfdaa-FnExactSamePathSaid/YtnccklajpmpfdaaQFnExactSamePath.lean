/- What is known of the arguments of FnExactSamePath, and the statement over plain values. No condition of its own. -/
import Derived.Test.YtnccklajpmpfdaaPFnExactSamePathx0
import Derived.Test.YtnccklajpmpfdaaPFnExactSamePathx8
import Derived.Test.YtnccklajpmpfdaaOpn
import Derived.KernelRfl
namespace Go.Proofs.Ytnccklajpmpfdaa.PFnExactSamePath
open Go.RowKit Go.Proofs.Ytnccklajpmpfdaa.PFnExactSamePath Go.Proofs.YtnccklajpmpfdaaW.PrintWords Go.Proofs.YtnccklajpmpfdaaW.PrintLast Go.Proofs.YtnccklajpmpfdaaW.PrintMore Go.Proofs.Ytnccklajpmpfdaa.Opn
section
variable {H : Type} {enc : TypeId × Value → H} {W : World}
def G143 (x : S143) : Prop := x.f0.size ≤ maxLen ∧ x.f1.size ≤ maxLen
theorem opn143 (N : Nat) : Opens enc Try.prog W N 143 k143 G143 := (opens_struct Try.underlying143 (by kernel_rfl) (fun p => ⟨p.1, p.2⟩) (fun _ => rfl) (opensF_cons rfl (by kernel_rfl) (opens_string Try.underlying9) (opensF_one rfl (by kernel_rfl) (opens_string Try.underlying9))) (fun _ h => h)).le (Nat.le_succ N)
def G124 (x : S124) : Prop := x.f0.size ≤ maxLen ∧ (x.f1.length ≤ maxLen ∧ ∀ y ∈ x.f1, G143 y)
theorem opn124 (N : Nat) : Opens enc Try.prog W N 124 k124 G124 := (opens_struct Try.underlying124 (by kernel_rfl) (fun p => ⟨p.1, p.2⟩) (fun _ => rfl) (opensF_cons rfl (by kernel_rfl) (opens_string Try.underlying9) (opensF_one rfl (by kernel_rfl) (opens_slice Try.underlying122 (by kernel_rfl) (opn143 _)))) (fun _ h => h)).le (Nat.le_succ N)
end
def laws_FnExactSamePath.Pure : Prop := ∀ (x0 : (Bool × Int × List S124)) (x1 : (Bool × Int × List S124)), (True ∧ (Lit.int .i64 x0.2.1).wf = true ∧ (x0.2.2.length ≤ maxLen ∧ ∀ y ∈ x0.2.2, G124 y)) → (True ∧ (Lit.int .i64 x1.2.1).wf = true ∧ (x1.2.2.length ≤ maxLen ∧ ∀ y ∈ x1.2.2, G124 y)) → ∃ k, laws_FnExactSamePath.f k (x0.1) (x0.2.1) (x0.2.2) (x1.1) (x1.2.1) (x1.2.2) = some true
end Go.Proofs.Ytnccklajpmpfdaa.PFnExactSamePath
