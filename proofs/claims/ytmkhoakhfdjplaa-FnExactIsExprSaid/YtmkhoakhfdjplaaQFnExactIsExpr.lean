/- What is known of the arguments of FnExactIsExpr, and the statement over plain values. No condition of its own. -/
import Derived.Test.YtmkhoakhfdjplaaPFnExactIsExprx0
import Derived.Test.YtmkhoakhfdjplaaPFnExactIsExprx11
import Derived.Test.YtmkhoakhfdjplaaOpn
import Derived.KernelRfl
namespace Go.Proofs.Ytmkhoakhfdjplaa.PFnExactIsExpr
open Go.RowKit Go.Proofs.Ytmkhoakhfdjplaa.PFnExactIsExpr Go.Proofs.YtmkhoakhfdjplaaW.PrintWords Go.Proofs.YtmkhoakhfdjplaaW.PrintLast Go.Proofs.YtmkhoakhfdjplaaW.PrintMore Go.Proofs.Ytmkhoakhfdjplaa.Opn
section
variable {H : Type} {enc : TypeId × Value → H} {W : World}
def G149 (x : S149) : Prop := x.f0.size ≤ maxLen ∧ x.f1.size ≤ maxLen
theorem opn149 (N : Nat) : Opens enc Try.prog W N 149 k149 G149 := (opens_struct Try.underlying149 (by kernel_rfl) (fun p => ⟨p.1, p.2⟩) (fun _ => rfl) (opensF_cons rfl (by kernel_rfl) (opens_string Try.underlying9) (opensF_one rfl (by kernel_rfl) (opens_string Try.underlying9))) (fun _ h => h)).le (Nat.le_succ N)
def G105 (x : S105) : Prop := x.f0.size ≤ maxLen ∧ (x.f1.length ≤ maxLen ∧ ∀ y ∈ x.f1, G149 y)
theorem opn105 (N : Nat) : Opens enc Try.prog W N 105 k105 G105 := (opens_struct Try.underlying105 (by kernel_rfl) (fun p => ⟨p.1, p.2⟩) (fun _ => rfl) (opensF_cons rfl (by kernel_rfl) (opens_string Try.underlying9) (opensF_one rfl (by kernel_rfl) (opens_slice Try.underlying103 (by kernel_rfl) (opn149 _)))) (fun _ h => h)).le (Nat.le_succ N)
def G24 (x : S24) : Prop := True ∧ (Lit.int .i64 x.f1).wf = true ∧ (x.f2.length ≤ maxLen ∧ ∀ y ∈ x.f2, G105 y)
theorem opn24 (N : Nat) : Opens enc Try.prog W N 24 k24 G24 := (opens_struct Try.underlying24 (by kernel_rfl) (fun p => ⟨p.1, p.2.1, p.2.2⟩) (fun _ => rfl) (opensF_cons rfl (by kernel_rfl) (opens_bool Try.underlying4) (opensF_cons rfl (by kernel_rfl) (opens_int Try.underlying3) (opensF_one rfl (by kernel_rfl) (opens_slice Try.underlying22 (by kernel_rfl) (opn105 _))))) (fun _ h => h)).le (Nat.le_succ N)
mutual
def G48 : S48 → Prop
  | ⟨a0, a1, a2, a3, a4⟩ => (Lit.int .i64 a0).wf = true ∧ (Lit.int .i64 a1).wf = true ∧ a2.size ≤ maxLen ∧ G24 a3 ∧ (a4.length ≤ maxLen ∧ GL48 a4)
def GL48 : List S48 → Prop
  | [] => True
  | x :: l => G48 x ∧ GL48 l
end
theorem GL48_iff : ∀ {l : List S48}, GL48 l ↔ ∀ y ∈ l, G48 y
  | [] => by simp [GL48]
  | x :: l => by simp only [GL48, List.mem_cons, forall_eq_or_imp]; rw [GL48_iff]
theorem opn48 (N : Nat) : Opens enc Try.prog W N 48 k48 G48 := opens_fix fun N d hd h => opens_struct Try.underlying48 (by kernel_rfl) (fun p => ⟨p.1, p.2.1, p.2.2.1, p.2.2.2.1, p.2.2.2.2⟩) (fun _ => rfl) (opensF_cons rfl (by kernel_rfl) (opens_int Try.underlying3) (opensF_cons rfl (by kernel_rfl) (opens_int Try.underlying3) (opensF_cons rfl (by kernel_rfl) (opens_string Try.underlying9) (opensF_cons rfl (by kernel_rfl) (opn24 _) (opensF_one rfl (by kernel_rfl) (opens_slice Try.underlying46 (by rw [hd]; kernel_rfl) h)))))) (fun p h => by simp only [G48, GL48_iff]; exact h)
end
def laws_FnExactIsExpr.Pure : Prop := ∀ (x0 : S48), G48 x0 → ∃ k, laws_FnExactIsExpr.f k (x0.f0) (x0.f1) (x0.f2) (x0.f3.f0) (x0.f3.f1) (x0.f3.f2) (x0.f4) = some true
end Go.Proofs.Ytmkhoakhfdjplaa.PFnExactIsExpr
