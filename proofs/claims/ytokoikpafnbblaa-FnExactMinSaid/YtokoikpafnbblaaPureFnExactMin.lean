/- For every two integers, the program's Min returns what the reference's Min returns. -/
import Derived.Test.YtokoikpafnbblaaPFnExactMinx1
namespace Go.Proofs.Ytokoikpafnbblaa.Pure
open Go.RowKit Go.Proofs.Ytokoikpafnbblaa.PFnExactMin Go.Proofs.YtokoikpafnbblaaW.PrintWords Go.Proofs.YtokoikpafnbblaaW.PrintLast

theorem FnExactMin : laws_FnExactMin.Pure := by
  intro a b _ _
  unfold laws_FnExactMin.f spec_Min.f impl_Min.f mn
  by_cases h : b < a
  · rw [if_pos h]
    simp only [Option.bind_some]
    rw [if_pos (by rw [if_pos h])]
  · rw [if_neg h]
    simp only [Option.bind_some]
    rw [if_pos (by rw [if_neg h])]

end Go.Proofs.Ytokoikpafnbblaa.Pure
