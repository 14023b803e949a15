/- What is known of the arguments of FnExactFormatRanges, and the statement over plain values. No condition of its own. -/
import Derived.Test.YtmkhoakhfdjplaaDoorPFnExactFormatRangesx0
import Derived.Test.YtmkhoakhfdjplaaDoorPFnExactFormatRangesx2
import Derived.Test.YtmkhoakhfdjplaaDoorOpn
import Derived.KernelRfl
namespace Go.Proofs.YtmkhoakhfdjplaaDoor.PFnExactFormatRanges
open Go.RowKit Go.Proofs.YtmkhoakhfdjplaaDoor.PFnExactFormatRanges Go.Proofs.YtmkhoakhfdjplaaDoorW.PrintWords Go.Proofs.YtmkhoakhfdjplaaDoorW.PrintLast Go.Proofs.YtmkhoakhfdjplaaDoorW.PrintMore Go.Proofs.YtmkhoakhfdjplaaDoor.Opn
section
variable {H : Type} {enc : TypeId × Value → H} {W : World}
def G59 (x : S59) : Prop := (Lit.int .i64 x.f0).wf = true ∧ (Lit.int .i64 x.f1).wf = true
theorem opn59 (N : Nat) : Opens enc Tryd.prog W N 59 k59 G59 := (opens_struct Tryd.underlying59 (by kernel_rfl) (fun p => ⟨p.1, p.2⟩) (fun _ => rfl) (opensF_cons rfl (by kernel_rfl) (opens_int Tryd.underlying3) (opensF_one rfl (by kernel_rfl) (opens_int Tryd.underlying3))) (fun _ h => h)).le (Nat.le_succ N)
end
def laws_FnExactFormatRanges.Pure : Prop := ∀ (x0 : List S59), (x0.length ≤ maxLen ∧ ∀ y ∈ x0, G59 y) → ∃ k, laws_FnExactFormatRanges.f k (x0) = some true
end Go.Proofs.YtmkhoakhfdjplaaDoor.PFnExactFormatRanges
