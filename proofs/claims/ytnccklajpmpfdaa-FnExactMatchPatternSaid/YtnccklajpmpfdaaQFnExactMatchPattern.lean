/- What is known of the arguments of FnExactMatchPattern, and the statement over plain values. No condition of its own. -/
import Derived.Test.YtnccklajpmpfdaaPFnExactMatchPatternx0
import Derived.Test.YtnccklajpmpfdaaPFnExactMatchPatternx6
import Derived.Test.YtnccklajpmpfdaaOpn
import Derived.KernelRfl
namespace Go.Proofs.Ytnccklajpmpfdaa.PFnExactMatchPattern
open Go.RowKit Go.Proofs.Ytnccklajpmpfdaa.PFnExactMatchPattern Go.Proofs.YtnccklajpmpfdaaW.PrintWords Go.Proofs.YtnccklajpmpfdaaW.PrintLast Go.Proofs.YtnccklajpmpfdaaW.PrintMore Go.Proofs.Ytnccklajpmpfdaa.Opn
section
variable {H : Type} {enc : TypeId × Value → H} {W : World}
mutual
def G41 : S41 → Prop
  | ⟨a0, a1, a2⟩ => (Lit.int .i64 a0).wf = true ∧ a1.size ≤ maxLen ∧ (a2.length ≤ maxLen ∧ GL41 a2)
def GL41 : List S41 → Prop
  | [] => True
  | x :: l => G41 x ∧ GL41 l
end
theorem GL41_iff : ∀ {l : List S41}, GL41 l ↔ ∀ y ∈ l, G41 y
  | [] => by simp [GL41]
  | x :: l => by simp only [GL41, List.mem_cons, forall_eq_or_imp]; rw [GL41_iff]
theorem opn41 (N : Nat) : Opens enc Try.prog W N 41 k41 G41 := opens_fix fun N d hd h => opens_struct Try.underlying41 (by kernel_rfl) (fun p => ⟨p.1, p.2.1, p.2.2⟩) (fun _ => rfl) (opensF_cons rfl (by kernel_rfl) (opens_int Try.underlying3) (opensF_cons rfl (by kernel_rfl) (opens_string Try.underlying9) (opensF_one rfl (by kernel_rfl) (opens_slice Try.underlying39 (by rw [hd]; kernel_rfl) h)))) (fun p h => by simp only [G41, GL41_iff]; exact h)
end
def laws_FnExactMatchPattern.Pure : Prop := ∀ (x0 : S41) (x1 : ByteArray), G41 x0 → x1.size ≤ maxLen → ∃ k, laws_FnExactMatchPattern.f k (x0.f0) (x0.f1) (x0.f2) (x1) = some true
end Go.Proofs.Ytnccklajpmpfdaa.PFnExactMatchPattern
