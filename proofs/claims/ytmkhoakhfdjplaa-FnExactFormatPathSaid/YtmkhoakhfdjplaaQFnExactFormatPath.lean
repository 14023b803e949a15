/- What is known of the arguments of FnExactFormatPath, and the statement over plain values. No condition of its own. -/
import Derived.Test.YtmkhoakhfdjplaaPFnExactFormatPathx0
import Derived.Test.YtmkhoakhfdjplaaPFnExactFormatPathx9
import Derived.Test.YtmkhoakhfdjplaaOpn
import Derived.KernelRfl
namespace Go.Proofs.Ytmkhoakhfdjplaa.PFnExactFormatPath
open Go.RowKit Go.Proofs.Ytmkhoakhfdjplaa.PFnExactFormatPath Go.Proofs.YtmkhoakhfdjplaaW.PrintWords Go.Proofs.YtmkhoakhfdjplaaW.PrintLast Go.Proofs.YtmkhoakhfdjplaaW.PrintMore Go.Proofs.Ytmkhoakhfdjplaa.Opn
section
variable {H : Type} {enc : TypeId × Value → H} {W : World}
def G149 (x : S149) : Prop := x.f0.size ≤ maxLen ∧ x.f1.size ≤ maxLen
theorem opn149 (N : Nat) : Opens enc Try.prog W N 149 k149 G149 := (opens_struct Try.underlying149 (by kernel_rfl) (fun p => ⟨p.1, p.2⟩) (fun _ => rfl) (opensF_cons rfl (by kernel_rfl) (opens_string Try.underlying9) (opensF_one rfl (by kernel_rfl) (opens_string Try.underlying9))) (fun _ h => h)).le (Nat.le_succ N)
def G105 (x : S105) : Prop := x.f0.size ≤ maxLen ∧ (x.f1.length ≤ maxLen ∧ ∀ y ∈ x.f1, G149 y)
theorem opn105 (N : Nat) : Opens enc Try.prog W N 105 k105 G105 := (opens_struct Try.underlying105 (by kernel_rfl) (fun p => ⟨p.1, p.2⟩) (fun _ => rfl) (opensF_cons rfl (by kernel_rfl) (opens_string Try.underlying9) (opensF_one rfl (by kernel_rfl) (opens_slice Try.underlying103 (by kernel_rfl) (opn149 _)))) (fun _ h => h)).le (Nat.le_succ N)
end
def laws_FnExactFormatPath.Pure : Prop := ∀ (x0 : (Bool × Int × List S105)), (True ∧ (Lit.int .i64 x0.2.1).wf = true ∧ (x0.2.2.length ≤ maxLen ∧ ∀ y ∈ x0.2.2, G105 y)) → ∃ k, laws_FnExactFormatPath.f k (x0.1) (x0.2.1) (x0.2.2) = some true
end Go.Proofs.Ytmkhoakhfdjplaa.PFnExactFormatPath
