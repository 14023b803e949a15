/- The statement FnExactFormatPath: whatever the arguments, the law returns true, and the arguments read as before. No condition. -/
import Derived.Test.YtmkhoakhfdjplaaRows
import Derived.Test.YtmkhoakhfdjplaaPFnExactFormatPathx9
import Derived.Test.YtmkhoakhfdjplaaQFnExactFormatPath
import Derived.Test.YtmkhoakhfdjplaaPureFnExactFormatPath
import Derived.WalkKit
import Derived.ProofKit
import Derived.OpenShut
import Derived.ShutString
import Derived.ChangeOld
import Derived.Below
import Derived.SizedLaws
import Derived.Carry
import Derived.WideShapes
namespace Go.Proofs.Ytmkhoakhfdjplaa.fnExactFormatPath
open Go.ChangeShapes Go.WideShapes Go.ChangeAt Go.RowKit Go.Proofs.Ytmkhoakhfdjplaa.Opn Go.Proofs.Ytmkhoakhfdjplaa.PFnExactFormatPath Go.Proofs.YtmkhoakhfdjplaaW.PrintWords
open Go.ChangeMaps (open_string shut_string)
set_option linter.unusedVariables false
theorem own : ownKnob Try.prog.godebug = none := by kernel_rfl
theorem laidOut : laidOutB Try.prog = true := by kernel_rfl
set_option maxRecDepth 100000 in
theorem lifted (os : Os) (started : os.Started) (H : Type) (enc : TypeId × Value → H) :
    ReturnsInHanded {} Try.checked os 7 .any (Rows.fnExactFormatPathSpec.pre6 enc Try.prog Try.f7 Rows.fnExactFormatPathRow.domain false) (Rows.fnExactFormatPathSpec.post enc Try.prog Try.f7 false true false false) := by
  refine returnsInHanded_of_change_sized (C := Try.checked) own started (by kernel_rfl) Try.func7
    (ChangeSpec.witness6 (enc := enc) (C := Try.checked) false ⟨#[], #[.agg #[.bool false, .int .i64 0, .slice none 0 0]], []⟩ 8 (by kernel_rfl) (by kernel_rfl) (by kernel_rfl) (by kernel_rfl)) ?_
  intro W base args ds gs before hval0 hW hcnd hsz0 _
  have hval : ∀ (j : Nat) t v, Try.f7.params[j]? = some t → args[j]? = some v → Value.okWide Try.prog W .any base t v := hval0
  have hW' := hW
  obtain ⟨p, q, hA0, hV, rfl, hfz, hnd⟩ := hW
  have hA : DataW.TrodAll enc Try.prog W 0 (fun _ => true) true Try.f7.params.toList args.toList ds p := hA0
  rw [Try.params7] at hA hval
  obtain ⟨v0, vs0, d0, ds0, p0, q0, hargs, rfl, rfl, h0, r0⟩ := trodAll_cons hA
  obtain ⟨rfl, rfl, rfl⟩ := trodAll_nil r0
  obtain rfl : args = #[v0] := by cases args; simp_all
  obtain ⟨rfl, rfl⟩ := trodVars_none hV
  have k0 := h0
  have lt0 : ∀ x ∈ p0, x.block < W.heap.size := by obtain ⟨m, hm⟩ := k0; exact DataW.trod_lt m _ _ _ hm
  obtain ⟨x0, hx0, g0⟩ := opens_arg (fun N => ((opens_struct Try.underlying24 (by kernel_rfl) (fun p => p) (fun _ => rfl) (opensF_cons rfl (by kernel_rfl) (opens_bool Try.underlying4) (opensF_cons rfl (by kernel_rfl) (opens_int Try.underlying3) (opensF_one rfl (by kernel_rfl) (opens_slice Try.underlying22 (by kernel_rfl) (opn105 _))))) (fun _ h => h)).le (Nat.le_succ _))) h0
  obtain ⟨cs0, rfl, _⟩ := okWide_struct Try.underlying24 (hval 0 24 v0 rfl rfl)
  obtain ⟨cl0⟩ := cs0
  replace hx0 := show _ from hx0
  obtain ⟨_, _, rfl, rfl, ⟨_, _, rfl, rfl, ⟨A0_2, c0_2, rfl, hl0_2, hr0_2⟩⟩⟩ := hx0
  clear hA0 hval0
  obtain ⟨k, hk⟩ := Pure.FnExactFormatPath x0 g0
  refine (PFnExactFormatPath.laws_FnExactFormatPath.calls k (x0.1) (x0.2.1) _ _ (x0.2.2) true W hr0_2 hl0_2 hk).mono fun e W' ⟨he, bel0⟩ => ?_
  have bel : Below W.heap.size W W' := bel0
  subst he
  exact ⟨_, rfl, _, _, _, [], _, [], hW', trodAll_mk1 (shut_bool Try.underlying4 _), (trodAll_cons_mk (Below.trod laidOut (by kernel_rfl) (of_decide_eq_true (by kernel_rfl)) k0 bel lt0) trodAll_mk0), rfl, bel.frame _, fun h => by cases h⟩
theorem over : Rows.fnExactFormatPathRow.holds Try.pinned (OpenSpec.ofChange Rows.fnExactFormatPathSpec) :=
  OpenClaim.holds_of_wide 7 Try.f7 rfl rfl rfl rfl rfl rfl rfl ⟨rfl, rfl, rfl, rfl, rfl⟩ rfl rfl rfl rfl rfl (by kernel_rfl) Try.func7 (by kernel_rfl)
    (of_decide_eq_true (by kernel_rfl)) (by unfold Func.isWrapper; first | (rw [if_pos (by decide +kernel)]; kernel_rfl) | (rw [if_neg (by decide +kernel)]; exact ⟨rfl, rfl⟩))
    (fun os started H enc _ => lifted os started H enc)
theorem proved : Rows.FnExactFormatPathSaid := over
#print axioms proved
end Go.Proofs.Ytmkhoakhfdjplaa.fnExactFormatPath
namespace Go.Proofs.Ytmkhoakhfdjplaa
/-- The row, under a short name, for the claim. -/
theorem fnExactFormatPath_holds : Rows.FnExactFormatPathSaid := fnExactFormatPath.proved
end Go.Proofs.Ytmkhoakhfdjplaa
