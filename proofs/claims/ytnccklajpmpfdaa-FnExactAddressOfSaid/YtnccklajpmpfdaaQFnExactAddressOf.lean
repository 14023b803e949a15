/- What is known of the arguments of FnExactAddressOf, and the statement over plain values. No condition of its own. -/
import Derived.Test.YtnccklajpmpfdaaPFnExactAddressOfx0
import Derived.Test.YtnccklajpmpfdaaPFnExactAddressOfx5
import Derived.Test.YtnccklajpmpfdaaOpn
import Derived.KernelRfl
namespace Go.Proofs.Ytnccklajpmpfdaa.PFnExactAddressOf
open Go.RowKit Go.Proofs.Ytnccklajpmpfdaa.PFnExactAddressOf Go.Proofs.YtnccklajpmpfdaaW.PrintWords Go.Proofs.YtnccklajpmpfdaaW.PrintLast Go.Proofs.YtnccklajpmpfdaaW.PrintMore Go.Proofs.Ytnccklajpmpfdaa.Opn
section
variable {H : Type} {enc : TypeId × Value → H} {W : World}
mutual
def G88 : S88 → Prop
  | ⟨a0, a1, a2⟩ => a0.size ≤ maxLen ∧ a1.size ≤ maxLen ∧ (a2.length ≤ maxLen ∧ GL88 a2)
def GL88 : List S88 → Prop
  | [] => True
  | x :: l => G88 x ∧ GL88 l
end
theorem GL88_iff : ∀ {l : List S88}, GL88 l ↔ ∀ y ∈ l, G88 y
  | [] => by simp [GL88]
  | x :: l => by simp only [GL88, List.mem_cons, forall_eq_or_imp]; rw [GL88_iff]
theorem opn88 (N : Nat) : Opens enc Try.prog W N 88 k88 G88 := opens_fix fun N d hd h => opens_struct Try.underlying88 (by kernel_rfl) (fun p => ⟨p.1, p.2.1, p.2.2⟩) (fun _ => rfl) (opensF_cons rfl (by kernel_rfl) (opens_string Try.underlying9) (opensF_cons rfl (by kernel_rfl) (opens_string Try.underlying9) (opensF_one rfl (by kernel_rfl) (opens_slice Try.underlying22 (by rw [hd]; kernel_rfl) h)))) (fun p h => by simp only [G88, GL88_iff]; exact h)
end
def laws_FnExactAddressOf.Pure : Prop := ∀ (x0 : List S88) (x1 : List Int), (x0.length ≤ maxLen ∧ ∀ y ∈ x0, G88 y) → (x1.length ≤ maxLen ∧ ∀ y ∈ x1, (Lit.int .i64 y).wf = true) → ∃ k, laws_FnExactAddressOf.f k (x0) (x1) = some true
end Go.Proofs.Ytnccklajpmpfdaa.PFnExactAddressOf
