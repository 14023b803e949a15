/- The statement FnExactAddressOf: whatever the arguments, the law returns true, and the arguments read as before. No condition. -/
import Derived.Test.YtnccklajpmpfdaaRows
import Derived.Test.YtnccklajpmpfdaaPFnExactAddressOfx5
import Derived.Test.YtnccklajpmpfdaaQFnExactAddressOf
import Derived.Test.YtnccklajpmpfdaaPureFnExactAddressOf
import Derived.WalkKit
import Derived.ProofKit
import Derived.OpenShut
import Derived.ShutString
import Derived.ChangeOld
import Derived.Below
import Derived.SizedLaws
import Derived.Carry
import Derived.WideShapes
namespace Go.Proofs.Ytnccklajpmpfdaa.fnExactAddressOf
open Go.ChangeShapes Go.WideShapes Go.ChangeAt Go.RowKit Go.Proofs.Ytnccklajpmpfdaa.Opn Go.Proofs.Ytnccklajpmpfdaa.PFnExactAddressOf Go.Proofs.YtnccklajpmpfdaaW.PrintWords
open Go.ChangeMaps (open_string shut_string)
set_option linter.unusedVariables false
theorem own : ownKnob Try.prog.godebug = none := by kernel_rfl
theorem laidOut : laidOutB Try.prog = true := by kernel_rfl
set_option maxRecDepth 100000 in
theorem lifted (os : Os) (started : os.Started) (H : Type) (enc : TypeId × Value → H) :
    ReturnsInHanded {} Try.checked os 7 .any (Rows.fnExactAddressOfSpec.pre6 enc Try.prog Try.f7 Rows.fnExactAddressOfRow.domain false) (Rows.fnExactAddressOfSpec.post enc Try.prog Try.f7 false true false false) := by
  refine returnsInHanded_of_change_sized (C := Try.checked) own started (by kernel_rfl) Try.func7
    (ChangeSpec.witness6 (enc := enc) (C := Try.checked) false ⟨#[], #[.slice none 0 0, .slice none 0 0], []⟩ 8 (by kernel_rfl) (by kernel_rfl) (by kernel_rfl) (by kernel_rfl)) ?_
  intro W base args ds gs before hval0 hW hcnd hsz0 _
  have hval : ∀ (j : Nat) t v, Try.f7.params[j]? = some t → args[j]? = some v → Value.okWide Try.prog W .any base t v := hval0
  have hW' := hW
  obtain ⟨p, q, hA0, hV, rfl, hfz, hnd⟩ := hW
  have hA : DataW.TrodAll enc Try.prog W 0 (fun _ => true) true Try.f7.params.toList args.toList ds p := hA0
  rw [Try.params7] at hA hval
  obtain ⟨v0, vs0, d0, ds0, p0, q0, hargs, rfl, rfl, h0, r0⟩ := trodAll_cons hA
  obtain ⟨v1, vs1, d1, ds1, p1, q1, rfl, rfl, rfl, h1, r1⟩ := trodAll_cons r0
  obtain ⟨rfl, rfl, rfl⟩ := trodAll_nil r1
  obtain rfl : args = #[v0, v1] := by cases args; simp_all
  obtain ⟨rfl, rfl⟩ := trodVars_none hV
  have k0 := h0
  have lt0 : ∀ x ∈ p0, x.block < W.heap.size := by obtain ⟨m, hm⟩ := k0; exact DataW.trod_lt m _ _ _ hm
  obtain ⟨x0, hx0, g0⟩ := opens_arg (fun N => (opens_slice Try.underlying22 (by kernel_rfl) (opn88 _))) h0
  obtain ⟨a0, len0, cap0, rfl⟩ := okWide_slice Try.underlying22 (hval 0 22 v0 rfl rfl)
  obtain ⟨A0, c0, ecs0, hl0, hr0⟩ := hx0
  have e0 := (List.cons.inj ecs0).1
  injection e0 with ea0 el0 ec0
  subst ea0 el0 ec0
  have k1 := h1
  have lt1 : ∀ x ∈ p1, x.block < W.heap.size := by obtain ⟨m, hm⟩ := k1; exact DataW.trod_lt m _ _ _ hm
  obtain ⟨x1, hx1, g1⟩ := opens_arg (fun N => (opens_slice Try.underlying50 (by kernel_rfl) (opens_int Try.underlying3))) h1
  obtain ⟨a1, len1, cap1, rfl⟩ := okWide_slice Try.underlying50 (hval 1 50 v1 rfl rfl)
  obtain ⟨A1, c1, ecs1, hl1, hr1⟩ := hx1
  have e1 := (List.cons.inj ecs1).1
  injection e1 with ea1 el1 ec1
  subst ea1 el1 ec1
  clear hA0 hval0
  obtain ⟨k, hk⟩ := Pure.FnExactAddressOf x0 x1 g0 g1
  refine (PFnExactAddressOf.laws_FnExactAddressOf.calls k _ _ x0 _ _ x1 true W hr0 hl0 hr1 hl1 hk).mono fun e W' ⟨he, bel0⟩ => ?_
  have bel : Below W.heap.size W W' := bel0
  subst he
  exact ⟨_, rfl, _, _, _, [], _, [], hW', trodAll_mk1 (shut_bool Try.underlying4 _), (trodAll_cons_mk (Below.trod laidOut (by kernel_rfl) (of_decide_eq_true (by kernel_rfl)) k0 bel lt0) (trodAll_cons_mk (Below.trod laidOut (by kernel_rfl) (of_decide_eq_true (by kernel_rfl)) k1 bel lt1) trodAll_mk0)), rfl, bel.frame _, fun h => by cases h⟩
theorem over : Rows.fnExactAddressOfRow.holds Try.pinned (OpenSpec.ofChange Rows.fnExactAddressOfSpec) :=
  OpenClaim.holds_of_wide 7 Try.f7 rfl rfl rfl rfl rfl rfl rfl ⟨rfl, rfl, rfl, rfl, rfl⟩ rfl rfl rfl rfl rfl (by kernel_rfl) Try.func7 (by kernel_rfl)
    (of_decide_eq_true (by kernel_rfl)) (by unfold Func.isWrapper; first | (rw [if_pos (by decide +kernel)]; kernel_rfl) | (rw [if_neg (by decide +kernel)]; exact ⟨rfl, rfl⟩))
    (fun os started H enc _ => lifted os started H enc)
theorem proved : Rows.FnExactAddressOfSaid := over
#print axioms proved
end Go.Proofs.Ytnccklajpmpfdaa.fnExactAddressOf
namespace Go.Proofs.Ytnccklajpmpfdaa
/-- The row, under a short name, for the claim. -/
theorem fnExactAddressOf_holds : Rows.FnExactAddressOfSaid := fnExactAddressOf.proved
end Go.Proofs.Ytnccklajpmpfdaa
