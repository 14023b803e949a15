/- The statement FnExactIsExpr: whatever the arguments, the law returns true, and the arguments read as before. No condition. -/
import Derived.Test.YtmkhoakhfdjplaaRows
import Derived.Test.YtmkhoakhfdjplaaPFnExactIsExprx11
import Derived.Test.YtmkhoakhfdjplaaQFnExactIsExpr
import Derived.Test.YtmkhoakhfdjplaaPureFnExactIsExpr
import Derived.WalkKit
import Derived.ProofKit
import Derived.OpenShut
import Derived.ShutString
import Derived.ChangeOld
import Derived.Below
import Derived.SizedLaws
import Derived.Carry
import Derived.WideShapes
namespace Go.Proofs.Ytmkhoakhfdjplaa.fnExactIsExpr
open Go.ChangeShapes Go.WideShapes Go.ChangeAt Go.RowKit Go.Proofs.Ytmkhoakhfdjplaa.Opn Go.Proofs.Ytmkhoakhfdjplaa.PFnExactIsExpr Go.Proofs.YtmkhoakhfdjplaaW.PrintWords
open Go.ChangeMaps (open_string shut_string)
set_option linter.unusedVariables false
theorem own : ownKnob Try.prog.godebug = none := by kernel_rfl
theorem laidOut : laidOutB Try.prog = true := by kernel_rfl
set_option maxRecDepth 100000 in
theorem lifted (os : Os) (started : os.Started) (H : Type) (enc : TypeId × Value → H) :
    ReturnsInHanded {} Try.checked os 8 .any (Rows.fnExactIsExprSpec.pre6 enc Try.prog Try.f8 Rows.fnExactIsExprRow.domain false) (Rows.fnExactIsExprSpec.post enc Try.prog Try.f8 false true false false) := by
  refine returnsInHanded_of_change_sized (C := Try.checked) own started (by kernel_rfl) Try.func8
    (ChangeSpec.witness6 (enc := enc) (C := Try.checked) false ⟨#[], #[.agg #[.int .i64 0, .int .i64 0, .string ByteArray.empty, .bool false, .int .i64 0, .slice none 0 0, .slice none 0 0]], []⟩ 8 (by kernel_rfl) (by kernel_rfl) (by kernel_rfl) (by kernel_rfl)) ?_
  intro W base args ds gs before hval0 hW hcnd hsz0 _
  have hval : ∀ (j : Nat) t v, Try.f8.params[j]? = some t → args[j]? = some v → Value.okWide Try.prog W .any base t v := hval0
  have hW' := hW
  obtain ⟨p, q, hA0, hV, rfl, hfz, hnd⟩ := hW
  have hA : DataW.TrodAll enc Try.prog W 0 (fun _ => true) true Try.f8.params.toList args.toList ds p := hA0
  rw [Try.params8] at hA hval
  obtain ⟨v0, vs0, d0, ds0, p0, q0, hargs, rfl, rfl, h0, r0⟩ := trodAll_cons hA
  obtain ⟨rfl, rfl, rfl⟩ := trodAll_nil r0
  obtain rfl : args = #[v0] := by cases args; simp_all
  obtain ⟨rfl, rfl⟩ := trodVars_none hV
  have k0 := h0
  have lt0 : ∀ x ∈ p0, x.block < W.heap.size := by obtain ⟨m, hm⟩ := k0; exact DataW.trod_lt m _ _ _ hm
  obtain ⟨x0, hx0, g0⟩ := opens_arg (fun N => (opn48 _)) h0
  obtain ⟨cs0, rfl, _⟩ := okWide_struct Try.underlying48 (hval 0 48 v0 rfl rfl)
  obtain ⟨cl0⟩ := cs0
  obtain ⟨A0_5, c0_5, A0_6, c0_6, ecl0, hl0_5, hr0_5, hl0_6, hr0_6⟩ := k48_open hx0
  replace ecl0 : cl0 = _ := ecl0
  subst ecl0
  clear hA0 hval0
  obtain ⟨k, hk⟩ := Pure.FnExactIsExpr x0 g0
  refine (PFnExactIsExpr.laws_FnExactIsExpr.calls k (x0.f0) (x0.f1) (x0.f2) (x0.f3.f0) (x0.f3.f1) _ _ (x0.f3.f2) _ _ (x0.f4) true W hr0_5 hl0_5 hr0_6 hl0_6 hk).mono fun e W' ⟨he, bel0⟩ => ?_
  have bel : Below W.heap.size W W' := bel0
  subst he
  exact ⟨_, rfl, _, _, _, [], _, [], hW', trodAll_mk1 (shut_bool Try.underlying4 _), (trodAll_cons_mk (Below.trod laidOut (by kernel_rfl) (of_decide_eq_true (by kernel_rfl)) k0 bel lt0) trodAll_mk0), rfl, bel.frame _, fun h => by cases h⟩
theorem over : Rows.fnExactIsExprRow.holds Try.pinned (OpenSpec.ofChange Rows.fnExactIsExprSpec) :=
  OpenClaim.holds_of_wide 8 Try.f8 rfl rfl rfl rfl rfl rfl rfl ⟨rfl, rfl, rfl, rfl, rfl⟩ rfl rfl rfl rfl rfl (by kernel_rfl) Try.func8 (by kernel_rfl)
    (of_decide_eq_true (by kernel_rfl)) (by unfold Func.isWrapper; first | (rw [if_pos (by decide +kernel)]; kernel_rfl) | (rw [if_neg (by decide +kernel)]; exact ⟨rfl, rfl⟩))
    (fun os started H enc _ => lifted os started H enc)
theorem proved : Rows.FnExactIsExprSaid := over
#print axioms proved
end Go.Proofs.Ytmkhoakhfdjplaa.fnExactIsExpr
namespace Go.Proofs.Ytmkhoakhfdjplaa
/-- The row, under a short name, for the claim. -/
theorem fnExactIsExpr_holds : Rows.FnExactIsExprSaid := fnExactIsExpr.proved
end Go.Proofs.Ytmkhoakhfdjplaa
