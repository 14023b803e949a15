/- What is known of the arguments of FnExactJoinTokens, and the statement over plain values. No condition of its own. -/
import Derived.Test.YtnccklajpmpfdaaPFnExactJoinTokensx0
import Derived.Test.YtnccklajpmpfdaaPFnExactJoinTokensx3
import Derived.Test.YtnccklajpmpfdaaOpn
import Derived.KernelRfl
namespace Go.Proofs.Ytnccklajpmpfdaa.PFnExactJoinTokens
open Go.RowKit Go.Proofs.Ytnccklajpmpfdaa.PFnExactJoinTokens Go.Proofs.YtnccklajpmpfdaaW.PrintWords Go.Proofs.YtnccklajpmpfdaaW.PrintLast Go.Proofs.YtnccklajpmpfdaaW.PrintMore Go.Proofs.Ytnccklajpmpfdaa.Opn
section
variable {H : Type} {enc : TypeId × Value → H} {W : World}
def G108 (x : S108) : Prop := (Lit.int .i64 x.f0).wf = true ∧ x.f1.size ≤ maxLen ∧ (Lit.int .i64 x.f2).wf = true
theorem opn108 (N : Nat) : Opens enc Try.prog W N 108 k108 G108 := (opens_struct Try.underlying108 (by kernel_rfl) (fun p => ⟨p.1, p.2.1, p.2.2⟩) (fun _ => rfl) (opensF_cons rfl (by kernel_rfl) (opens_int Try.underlying3) (opensF_cons rfl (by kernel_rfl) (opens_string Try.underlying9) (opensF_one rfl (by kernel_rfl) (opens_int Try.underlying3)))) (fun _ h => h)).le (Nat.le_succ N)
end
def laws_FnExactJoinTokens.Pure : Prop := ∀ (x0 : List S108), (x0.length ≤ maxLen ∧ ∀ y ∈ x0, G108 y) → ∃ k, laws_FnExactJoinTokens.f k (x0) = some true
end Go.Proofs.Ytnccklajpmpfdaa.PFnExactJoinTokens
