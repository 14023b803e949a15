/- For every two integers, the program's Max returns what the reference's Max returns. -/
import Derived.Test.YtokoikpafnbblaaPFnExactMaxx1
namespace Go.Proofs.Ytokoikpafnbblaa.Pure
open Go.RowKit Go.Proofs.Ytokoikpafnbblaa.PFnExactMax Go.Proofs.YtokoikpafnbblaaW.PrintWords Go.Proofs.YtokoikpafnbblaaW.PrintLast

theorem FnExactMax : laws_FnExactMax.Pure := by
  intro a b _ _
  unfold laws_FnExactMax.f spec_Max.f impl_Max.f mx
  by_cases h : b > a
  · rw [if_pos h]
    simp only [Option.bind_some]
    rw [if_pos (by rw [if_pos h])]
  · rw [if_neg h]
    simp only [Option.bind_some]
    rw [if_pos (by rw [if_neg h])]

end Go.Proofs.Ytokoikpafnbblaa.Pure
