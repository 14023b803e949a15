/- The statement FnExactSortTexts: whatever the arguments, the law returns true, and the arguments read as before. No condition. -/
import Derived.Test.YtmkhoakhfdjplaaRows
import Derived.Test.YtmkhoakhfdjplaaPFnExactSortTextsx4
import Derived.Test.YtmkhoakhfdjplaaQFnExactSortTexts
import Derived.Test.YtmkhoakhfdjplaaPureFnExactSortTexts
import Derived.WalkKit
import Derived.ProofKit
import Derived.OpenShut
import Derived.ShutString
import Derived.ChangeOld
import Derived.Below
import Derived.SizedLaws
import Derived.Carry
import Derived.WideShapes
namespace Go.Proofs.Ytmkhoakhfdjplaa.fnExactSortTexts
open Go.ChangeShapes Go.WideShapes Go.ChangeAt Go.RowKit Go.Proofs.Ytmkhoakhfdjplaa.Opn Go.Proofs.Ytmkhoakhfdjplaa.PFnExactSortTexts Go.Proofs.YtmkhoakhfdjplaaW.PrintWords
open Go.ChangeMaps (open_string shut_string)
set_option linter.unusedVariables false
theorem own : ownKnob Try.prog.godebug = none := by kernel_rfl
theorem laidOut : laidOutB Try.prog = true := by kernel_rfl
set_option maxRecDepth 100000 in
theorem lifted (os : Os) (started : os.Started) (H : Type) (enc : TypeId × Value → H) :
    ReturnsInHanded {} Try.checked os 9 .any (Rows.fnExactSortTextsSpec.pre6 enc Try.prog Try.f9 Rows.fnExactSortTextsRow.domain false) (Rows.fnExactSortTextsSpec.post enc Try.prog Try.f9 false true false false) := by
  refine returnsInHanded_of_change_sized (C := Try.checked) own started (by kernel_rfl) Try.func9
    (ChangeSpec.witness6 (enc := enc) (C := Try.checked) false ⟨#[], #[.slice none 0 0], []⟩ 8 (by kernel_rfl) (by kernel_rfl) (by kernel_rfl) (by kernel_rfl)) ?_
  intro W base args ds gs before hval0 hW hcnd hsz0 _
  have hval : ∀ (j : Nat) t v, Try.f9.params[j]? = some t → args[j]? = some v → Value.okWide Try.prog W .any base t v := hval0
  have hW' := hW
  obtain ⟨p, q, hA0, hV, rfl, hfz, hnd⟩ := hW
  have hA : DataW.TrodAll enc Try.prog W 0 (fun _ => true) true Try.f9.params.toList args.toList ds p := hA0
  rw [Try.params9] at hA hval
  obtain ⟨v0, vs0, d0, ds0, p0, q0, hargs, rfl, rfl, h0, r0⟩ := trodAll_cons hA
  obtain ⟨rfl, rfl, rfl⟩ := trodAll_nil r0
  obtain rfl : args = #[v0] := by cases args; simp_all
  obtain ⟨rfl, rfl⟩ := trodVars_none hV
  have k0 := h0
  have lt0 : ∀ x ∈ p0, x.block < W.heap.size := by obtain ⟨m, hm⟩ := k0; exact DataW.trod_lt m _ _ _ hm
  obtain ⟨x0, hx0, g0⟩ := opens_arg (fun N => (opens_slice Try.underlying63 (by kernel_rfl) (opens_string Try.underlying9))) h0
  obtain ⟨a0, len0, cap0, rfl⟩ := okWide_slice Try.underlying63 (hval 0 63 v0 rfl rfl)
  obtain ⟨A0, c0, ecs0, hl0, hr0⟩ := hx0
  have e0 := (List.cons.inj ecs0).1
  injection e0 with ea0 el0 ec0
  subst ea0 el0 ec0
  clear hA0 hval0
  obtain ⟨k, hk⟩ := Pure.FnExactSortTexts x0 g0
  refine (PFnExactSortTexts.laws_FnExactSortTexts.calls k _ _ x0 true W hr0 hl0 hk).mono fun e W' ⟨he, bel0⟩ => ?_
  have bel : Below W.heap.size W W' := bel0
  subst he
  exact ⟨_, rfl, _, _, _, [], _, [], hW', trodAll_mk1 (shut_bool Try.underlying4 _), (trodAll_cons_mk (Below.trod laidOut (by kernel_rfl) (of_decide_eq_true (by kernel_rfl)) k0 bel lt0) trodAll_mk0), rfl, bel.frame _, fun h => by cases h⟩
theorem over : Rows.fnExactSortTextsRow.holds Try.pinned (OpenSpec.ofChange Rows.fnExactSortTextsSpec) :=
  OpenClaim.holds_of_wide 9 Try.f9 rfl rfl rfl rfl rfl rfl rfl ⟨rfl, rfl, rfl, rfl, rfl⟩ rfl rfl rfl rfl rfl (by kernel_rfl) Try.func9 (by kernel_rfl)
    (of_decide_eq_true (by kernel_rfl)) (by unfold Func.isWrapper; first | (rw [if_pos (by decide +kernel)]; kernel_rfl) | (rw [if_neg (by decide +kernel)]; exact ⟨rfl, rfl⟩))
    (fun os started H enc _ => lifted os started H enc)
theorem proved : Rows.FnExactSortTextsSaid := over
#print axioms proved
end Go.Proofs.Ytmkhoakhfdjplaa.fnExactSortTexts
namespace Go.Proofs.Ytmkhoakhfdjplaa
/-- The row, under a short name, for the claim. -/
theorem fnExactSortTexts_holds : Rows.FnExactSortTextsSaid := fnExactSortTexts.proved
end Go.Proofs.Ytmkhoakhfdjplaa
