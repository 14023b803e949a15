-- Written by a program of this session (wip/mkx.py), which extends the kit's print.
import Derived.Test.YtmkhoakhfdjplaaPFnExactIsExprx0
import Derived.Test.YtmkhoakhfdjplaaPFnExactIsExprx4
import Derived.Test.YtmkhoakhfdjplaaPFnExactIsExprx5
import Derived.Test.YtmkhoakhfdjplaaPFnExactIsExprx6
namespace Go.Proofs.Ytmkhoakhfdjplaa.PFnExactIsExpr
open Go.RowKit Go.Proofs.YtmkhoakhfdjplaaW.PrintWords Go.Proofs.YtmkhoakhfdjplaaW.PrintLast Go.Proofs.YtmkhoakhfdjplaaW.PrintMore
attribute [local go_sem] max2_int min2_int max_two min_two max_three min_three max_four min_four   -- for this text's walks alone
set_option linter.unusedVariables false
set_option linter.unusedSimpArgs false

/-! ### spec_l8Valid: function 75 -/
mutual
def spec_l8Valid.j1 : Nat → Int → Bool → Bool → Int → Int → ByteArray → Bool → Int → List (S71) → List (S54) → Option (Bool)
 | 0, _, _, _, _, _, _, _, _, _, _ => none
 | k + 1, x3, x4, x5, x217000, x217001, x217002, x217003, x217004, x217005, x217006 => if x5 = true then (if (x217006.length : Int) = x3 then (if x4 = true then (spec_l8Valid.j2 k x3 false x217000 x217001 x217002 x217003 x217004 x217005 x217006) else ((spec_l8Plain.f x217003 x217004 x217005).bind fun t221 => (spec_l8Valid.j2 k x3 (!t221) x217000 x217001 x217002 x217003 x217004 x217005 x217006))) else (spec_l8Valid.j2 k x3 true x217000 x217001 x217002 x217003 x217004 x217005 x217006)) else (spec_l8Valid.j2 k x3 true x217000 x217001 x217002 x217003 x217004 x217005 x217006)
def spec_l8Valid.j2 : Nat → Int → Bool → Int → Int → ByteArray → Bool → Int → List (S71) → List (S54) → Option (Bool)
 | 0, _, _, _, _, _, _, _, _, _ => none
 | k + 1, x3, x86, x217000, x217001, x217002, x217003, x217004, x217005, x217006 => if x86 = true then (some false) else (spec_l8Valid.l0 k x3 0 x217000 x217001 x217002 x217003 x217004 x217005 x217006)
def spec_l8Valid.l0 : Nat → Int → Int → Int → Int → ByteArray → Bool → Int → List (S71) → List (S54) → Option (Bool)
 | 0, _, _, _, _, _, _, _, _, _ => none
 | k + 1, x3, x6, x217000, x217001, x217002, x217003, x217004, x217005, x217006 => if x6 < x3 then (if 0 ≤ x6 then (if x6 < (x217006.length : Int) then ((spec_l8Valid.f k ((rd_T54 x217006 x6).f0) ((rd_T54 x217006 x6).f1) ((rd_T54 x217006 x6).f2) ((rd_T54 x217006 x6).f3.f0) ((rd_T54 x217006 x6).f3.f1) ((rd_T54 x217006 x6).f3.f2) ((rd_T54 x217006 x6).f4)).bind fun t223 => (if t223 = true then (spec_l8Valid.l0 k x3 (wrap64 (x6 + 1)) x217000 x217001 x217002 x217003 x217004 x217005 x217006) else (some false))) else (none)) else (none)) else (if x217000 = 3 then ((spec_l8Writable.f x217003 x217004 x217005).bind fun t224 => (some t224)) else (some true))
def spec_l8Valid.j0 : Nat → Int → Bool → Bool → Int → Int → ByteArray → Bool → Int → List (S71) → List (S54) → Option (Bool)
 | 0, _, _, _, _, _, _, _, _, _, _ => none
 | k + 1, x3, x4, x31, x217000, x217001, x217002, x217003, x217004, x217005, x217006 => if x31 = true then ((spec_IsPath.f k x217003 x217004 x217005).bind fun t219 => (if t219 = true then (if x217001 = 0 then (spec_l8Valid.j1 k x3 true (x217002.toList == ([] : List UInt8)) x217000 x217001 x217002 x217003 x217004 x217005 x217006) else (spec_l8Valid.j1 k x3 true false x217000 x217001 x217002 x217003 x217004 x217005 x217006)) else (spec_l8Valid.j1 k x3 true false x217000 x217001 x217002 x217003 x217004 x217005 x217006))) else ((spec_l1In.f x217000 5 15).bind fun t220 => (if t220 = true then (if x217000 = 5 then (if x217001 = 0 then (spec_l8Valid.j1 k 1 x4 (x217002.toList == ([] : List UInt8)) x217000 x217001 x217002 x217003 x217004 x217005 x217006) else (spec_l8Valid.j1 k 1 x4 false x217000 x217001 x217002 x217003 x217004 x217005 x217006)) else (if x217001 = 0 then (spec_l8Valid.j1 k 2 x4 (x217002.toList == ([] : List UInt8)) x217000 x217001 x217002 x217003 x217004 x217005 x217006) else (spec_l8Valid.j1 k 2 x4 false x217000 x217001 x217002 x217003 x217004 x217005 x217006))) else (some false)))
def spec_l8Valid.f : Nat → Int → Int → ByteArray → Bool → Int → List (S71) → List (S54) → Option (Bool)
 | 0, _, _, _, _, _, _, _ => none
 | k + 1, a0_0, a0_1, a0_2, a0_3, a0_4, l0_5, l0_6 => if a0_0 = 1 then ((spec_l1In.f a0_1 0 1000000000).bind fun t217 => (if t217 = true then (spec_l8Valid.j1 k 0 false (a0_2.toList == ([] : List UInt8)) a0_0 a0_1 a0_2 a0_3 a0_4 l0_5 l0_6) else (spec_l8Valid.j1 k 0 false false a0_0 a0_1 a0_2 a0_3 a0_4 l0_5 l0_6))) else (if a0_0 = 2 then ((spec_IsText.f k a0_2).bind fun t218 => (if t218 = true then (spec_l8Valid.j1 k 0 false (a0_1 == 0) a0_0 a0_1 a0_2 a0_3 a0_4 l0_5 l0_6) else (spec_l8Valid.j1 k 0 false false a0_0 a0_1 a0_2 a0_3 a0_4 l0_5 l0_6))) else (if a0_0 = 3 then (spec_l8Valid.j0 k 0 false true a0_0 a0_1 a0_2 a0_3 a0_4 l0_5 l0_6) else (spec_l8Valid.j0 k 0 false (a0_0 == 4) a0_0 a0_1 a0_2 a0_3 a0_4 l0_5 l0_6)))
end
theorem spec_l8Valid.mono_l : ∀ k, (∀ y0 y1 y2 y3 y4 y5 y6, LeO (spec_l8Valid.f k y0 y1 y2 y3 y4 y5 y6) (spec_l8Valid.f (k + 1) y0 y1 y2 y3 y4 y5 y6)) ∧ (∀ y0 y1 y2 y3 y4 y5 y6 y7 y8 y9, LeO (spec_l8Valid.j1 k y0 y1 y2 y3 y4 y5 y6 y7 y8 y9) (spec_l8Valid.j1 (k + 1) y0 y1 y2 y3 y4 y5 y6 y7 y8 y9)) ∧ (∀ y0 y1 y2 y3 y4 y5 y6 y7 y8, LeO (spec_l8Valid.j2 k y0 y1 y2 y3 y4 y5 y6 y7 y8) (spec_l8Valid.j2 (k + 1) y0 y1 y2 y3 y4 y5 y6 y7 y8)) ∧ (∀ y0 y1 y2 y3 y4 y5 y6 y7 y8, LeO (spec_l8Valid.l0 k y0 y1 y2 y3 y4 y5 y6 y7 y8) (spec_l8Valid.l0 (k + 1) y0 y1 y2 y3 y4 y5 y6 y7 y8)) ∧ (∀ y0 y1 y2 y3 y4 y5 y6 y7 y8 y9, LeO (spec_l8Valid.j0 k y0 y1 y2 y3 y4 y5 y6 y7 y8 y9) (spec_l8Valid.j0 (k + 1) y0 y1 y2 y3 y4 y5 y6 y7 y8 y9))
 | 0 => ⟨fun _ _ _ _ _ _ _ r h => by simp [spec_l8Valid.f] at h, fun _ _ _ _ _ _ _ _ _ _ r h => by simp [spec_l8Valid.j1] at h, fun _ _ _ _ _ _ _ _ _ r h => by simp [spec_l8Valid.j2] at h, fun _ _ _ _ _ _ _ _ _ r h => by simp [spec_l8Valid.l0] at h, fun _ _ _ _ _ _ _ _ _ _ r h => by simp [spec_l8Valid.j0] at h⟩
 | k + 1 => by
  obtain ⟨ih0, ih1, ih2, ih3, ih4⟩ := spec_l8Valid.mono_l k
  refine ⟨?_, ?_, ?_, ?_, ?_⟩
  ·intro y0 y1 y2 y3 y4 y5 y6
   unfold spec_l8Valid.f
   repeat' first
   | (with_reducible exact ih0 _ _ _ _ _ _ _)
   | (with_reducible exact ih1 _ _ _ _ _ _ _ _ _ _)
   | (with_reducible exact ih2 _ _ _ _ _ _ _ _ _)
   | (with_reducible exact ih3 _ _ _ _ _ _ _ _ _)
   | (with_reducible exact ih4 _ _ _ _ _ _ _ _ _ _)
   | (with_reducible exact spec_IsPath.mono _ _ _ _)
   | (with_reducible exact spec_IsText.mono _ _)
   | (with_reducible exact LeO.refl _)
   | (with_reducible exact LeO.none _)
   | (with_reducible refine LeO.ite ?_ ?_)
   | (with_reducible refine LeO.bind ?_ (fun _ => ?_))
   | exact ih0 _ _ _ _ _ _ _
   | exact ih1 _ _ _ _ _ _ _ _ _ _
   | exact ih2 _ _ _ _ _ _ _ _ _
   | exact ih3 _ _ _ _ _ _ _ _ _
   | exact ih4 _ _ _ _ _ _ _ _ _ _
   | exact spec_IsPath.mono _ _ _ _
   | exact spec_IsText.mono _ _
   | exact LeO.none _
   | refine LeO.ite ?_ ?_
   | refine LeO.bind ?_ (fun _ => ?_)
  ·intro y0 y1 y2 y3 y4 y5 y6 y7 y8 y9
   unfold spec_l8Valid.j1
   repeat' first
   | (with_reducible exact ih0 _ _ _ _ _ _ _)
   | (with_reducible exact ih1 _ _ _ _ _ _ _ _ _ _)
   | (with_reducible exact ih2 _ _ _ _ _ _ _ _ _)
   | (with_reducible exact ih3 _ _ _ _ _ _ _ _ _)
   | (with_reducible exact ih4 _ _ _ _ _ _ _ _ _ _)
   | (with_reducible exact spec_IsPath.mono _ _ _ _)
   | (with_reducible exact spec_IsText.mono _ _)
   | (with_reducible exact LeO.refl _)
   | (with_reducible exact LeO.none _)
   | (with_reducible refine LeO.ite ?_ ?_)
   | (with_reducible refine LeO.bind ?_ (fun _ => ?_))
   | exact ih0 _ _ _ _ _ _ _
   | exact ih1 _ _ _ _ _ _ _ _ _ _
   | exact ih2 _ _ _ _ _ _ _ _ _
   | exact ih3 _ _ _ _ _ _ _ _ _
   | exact ih4 _ _ _ _ _ _ _ _ _ _
   | exact spec_IsPath.mono _ _ _ _
   | exact spec_IsText.mono _ _
   | exact LeO.none _
   | refine LeO.ite ?_ ?_
   | refine LeO.bind ?_ (fun _ => ?_)
  ·intro y0 y1 y2 y3 y4 y5 y6 y7 y8
   unfold spec_l8Valid.j2
   repeat' first
   | (with_reducible exact ih0 _ _ _ _ _ _ _)
   | (with_reducible exact ih1 _ _ _ _ _ _ _ _ _ _)
   | (with_reducible exact ih2 _ _ _ _ _ _ _ _ _)
   | (with_reducible exact ih3 _ _ _ _ _ _ _ _ _)
   | (with_reducible exact ih4 _ _ _ _ _ _ _ _ _ _)
   | (with_reducible exact spec_IsPath.mono _ _ _ _)
   | (with_reducible exact spec_IsText.mono _ _)
   | (with_reducible exact LeO.refl _)
   | (with_reducible exact LeO.none _)
   | (with_reducible refine LeO.ite ?_ ?_)
   | (with_reducible refine LeO.bind ?_ (fun _ => ?_))
   | exact ih0 _ _ _ _ _ _ _
   | exact ih1 _ _ _ _ _ _ _ _ _ _
   | exact ih2 _ _ _ _ _ _ _ _ _
   | exact ih3 _ _ _ _ _ _ _ _ _
   | exact ih4 _ _ _ _ _ _ _ _ _ _
   | exact spec_IsPath.mono _ _ _ _
   | exact spec_IsText.mono _ _
   | exact LeO.none _
   | refine LeO.ite ?_ ?_
   | refine LeO.bind ?_ (fun _ => ?_)
  ·intro y0 y1 y2 y3 y4 y5 y6 y7 y8
   unfold spec_l8Valid.l0
   repeat' first
   | (with_reducible exact ih0 _ _ _ _ _ _ _)
   | (with_reducible exact ih1 _ _ _ _ _ _ _ _ _ _)
   | (with_reducible exact ih2 _ _ _ _ _ _ _ _ _)
   | (with_reducible exact ih3 _ _ _ _ _ _ _ _ _)
   | (with_reducible exact ih4 _ _ _ _ _ _ _ _ _ _)
   | (with_reducible exact spec_IsPath.mono _ _ _ _)
   | (with_reducible exact spec_IsText.mono _ _)
   | (with_reducible exact LeO.refl _)
   | (with_reducible exact LeO.none _)
   | (with_reducible refine LeO.ite ?_ ?_)
   | (with_reducible refine LeO.bind ?_ (fun _ => ?_))
   | exact ih0 _ _ _ _ _ _ _
   | exact ih1 _ _ _ _ _ _ _ _ _ _
   | exact ih2 _ _ _ _ _ _ _ _ _
   | exact ih3 _ _ _ _ _ _ _ _ _
   | exact ih4 _ _ _ _ _ _ _ _ _ _
   | exact spec_IsPath.mono _ _ _ _
   | exact spec_IsText.mono _ _
   | exact LeO.none _
   | refine LeO.ite ?_ ?_
   | refine LeO.bind ?_ (fun _ => ?_)
  ·intro y0 y1 y2 y3 y4 y5 y6 y7 y8 y9
   unfold spec_l8Valid.j0
   repeat' first
   | (with_reducible exact ih0 _ _ _ _ _ _ _)
   | (with_reducible exact ih1 _ _ _ _ _ _ _ _ _ _)
   | (with_reducible exact ih2 _ _ _ _ _ _ _ _ _)
   | (with_reducible exact ih3 _ _ _ _ _ _ _ _ _)
   | (with_reducible exact ih4 _ _ _ _ _ _ _ _ _ _)
   | (with_reducible exact spec_IsPath.mono _ _ _ _)
   | (with_reducible exact spec_IsText.mono _ _)
   | (with_reducible exact LeO.refl _)
   | (with_reducible exact LeO.none _)
   | (with_reducible refine LeO.ite ?_ ?_)
   | (with_reducible refine LeO.bind ?_ (fun _ => ?_))
   | exact ih0 _ _ _ _ _ _ _
   | exact ih1 _ _ _ _ _ _ _ _ _ _
   | exact ih2 _ _ _ _ _ _ _ _ _
   | exact ih3 _ _ _ _ _ _ _ _ _
   | exact ih4 _ _ _ _ _ _ _ _ _ _
   | exact spec_IsPath.mono _ _ _ _
   | exact spec_IsText.mono _ _
   | exact LeO.none _
   | refine LeO.ite ?_ ?_
   | refine LeO.bind ?_ (fun _ => ?_)
theorem spec_l8Valid.mono : ∀ a0 a1 a2 a3 a4 a5 a6 k, LeO (spec_l8Valid.f k a0 a1 a2 a3 a4 a5 a6) (spec_l8Valid.f (k + 1) a0 a1 a2 a3 a4 a5 a6) := by
 intro a0 a1 a2 a3 a4 a5 a6 k
 obtain ⟨ih0, ih1, ih2, ih3, ih4⟩ := spec_l8Valid.mono_l k
 exact ih0 a0 a1 a2 a3 a4 a5 a6
set_option maxHeartbeats 8000000 in
set_option maxRecDepth 100000 in
theorem spec_l8Valid.calls (k : Nat) : ∀ (a0_0 : Int) (a0_1 : Int) (a0_2 : ByteArray) (a0_3 : Bool) (a0_4 : Int) (A0_5 : Option Addr) (c0_5 : Nat) (l0_5 : List (S71)) (A0_6 : Option Addr) (c0_6 : Nat) (l0_6 : List (S54)) (r : Bool) (w : World) (hr0_5 : Kd.C k71 w A0_5 l0_5.length l0_5) (hc0_5 : l0_5.length ≤ c0_5) (hr0_6 : Kd.C k54 w A0_6 l0_6.length l0_6) (hc0_6 : l0_6.length ≤ c0_6) (h : spec_l8Valid.f k a0_0 a0_1 a0_2 a0_3 a0_4 l0_5 l0_6 = some r),
  Calls Try.prog 75 #[.agg #[.int .i64 a0_0, .int .i64 a0_1, .string a0_2, .bool a0_3, .int .i64 a0_4, .slice A0_5 l0_5.length c0_5, .slice A0_6 l0_6.length c0_6]] w fun e w' => e = .returned (.bool r) ∧ Below w.heap.size w w' := by
 induction k using Nat.strongRecOn with
 | _ k ih =>
 intro a0_0 a0_1 a0_2 a0_3 a0_4 A0_5 c0_5 l0_5 A0_6 c0_6 l0_6 r w hr0_5 hc0_5 hr0_6 hc0_6 h
 cases k with
 | zero => exact absurd h (by simp [spec_l8Valid.f])
 | succ k =>
 simp only [spec_l8Valid.f] at h
 have hu54 := Try.underlying54
 have hu29 := Try.underlying29
 have HR0_5 := Aside0.mk hr0_5
 have HC0_5 := Aside0.mk hc0_5
 clear hr0_5 hc0_5
 have HR0_6 := Aside0.mk hr0_6
 have HC0_6 := Aside0.mk hc0_6
 clear hr0_6 hc0_6
 have HB := Aside0.mk (Below.refl w.heap.size w)
 have H : (if a0_0 = 1 then ((spec_l1In.f a0_1 0 1000000000).bind fun t217 => (if t217 = true then (spec_l8Valid.j1 k 0 false (a0_2.toList == ([] : List UInt8)) a0_0 a0_1 a0_2 a0_3 a0_4 l0_5 l0_6) else (spec_l8Valid.j1 k 0 false false a0_0 a0_1 a0_2 a0_3 a0_4 l0_5 l0_6))) else (if a0_0 = 2 then ((spec_IsText.f k a0_2).bind fun t218 => (if t218 = true then (spec_l8Valid.j1 k 0 false (a0_1 == 0) a0_0 a0_1 a0_2 a0_3 a0_4 l0_5 l0_6) else (spec_l8Valid.j1 k 0 false false a0_0 a0_1 a0_2 a0_3 a0_4 l0_5 l0_6))) else (if a0_0 = 3 then (spec_l8Valid.j0 k 0 false true a0_0 a0_1 a0_2 a0_3 a0_4 l0_5 l0_6) else (spec_l8Valid.j0 k 0 false (a0_0 == 4) a0_0 a0_1 a0_2 a0_3 a0_4 l0_5 l0_6)))) = some r := h
 clear h
 have HC2 := Aside0.mk H
 clear H
 go_enter Try.func75, Try.ntmps75
 go_upto_block 0 with (first | ((with_reducible refine gate_dst (N := 1) rfl ?_); (try (refine gate_guard (by rfl) ?_; dsimp only)); refine box_event ?hg (N := 1) ?hd (cs := #[.int .i64 a0_0, .int .i64 a0_1, .string a0_2, .bool a0_3, .int .i64 a0_4, .slice A0_5 l0_5.length c0_5, .slice A0_6 l0_6.length c0_6]) (t := 54) ?hr ?_; (case hd => rfl); (case hg => rfl); (case hr => first | (go_simp; done) | (go_simp; rfl)); intro gb216 hg w3 hbox hb; have n0_ := Aside0.mk (below_step (by repeat (first | (with_reducible first | exact HB.out | apply Ba_ | apply Bw_ | apply Bd_) | exact HB.out)) hb); have n1_ := Aside0.mk (hbox); have n2_ := Aside0.mk ((by rw [hg]; exact (below_size (by repeat (first | (with_reducible first | exact HB.out | apply Ba_ | apply Bw_ | apply Bd_) | exact HB.out))) : w.heap.size ≤ gb216)); have n3_ := Aside0.mk ((by rw [hg]; exact (below_size (by repeat (first | (with_reducible first | exact HB.out | apply Ba_ | apply Bw_ | apply Bd_) | exact HB.out))) : w.heap.size ≤ gb216)); clear HB; have HB := n0_; have BK216 := n1_; have GW216 := n2_; have GE216 := n3_; clear n0_ n1_ n2_ n3_; clear hb hbox hg))
 (try simp only [Act.put, List.setIfInBounds_toArray, List.set_cons_zero, List.set_cons_succ])
 go_cut [3, 4, 5] (fun v3 v4 v5 wc => ∃ (kq : Nat) (x3_1 : Int) (x4_1 : Bool) (x5_1 : Bool), v3 = .int .i64 x3_1 ∧ v4 = .bool x4_1 ∧ v5 = .bool x5_1 ∧ Aside0 (spec_l8Valid.j1 kq x3_1 x4_1 x5_1 a0_0 a0_1 a0_2 a0_3 a0_4 l0_5 l0_6 = some r) ∧ Aside0 (kq ≤ k) ∧ Aside0 (wc.heap[gb216]? = some (.cells #[.int .i64 a0_0, .int .i64 a0_1, .string a0_2, .bool a0_3, .int .i64 a0_4, (.slice A0_5 l0_5.length c0_5), (.slice A0_6 l0_6.length c0_6)] 54 (0, 0))) ∧ Aside0 (Below w.heap.size w wc))
 case first =>
  have H := HC2.out
  clear HC2
  by_cases c4 : a0_0 = 1
  ·rw [if_pos c4] at H
   have c4b0 : (a0_0 == 1) = true := beq_iff_eq.mpr c4
   have c4b1 : (a0_0 != 1) = false := bne_eq_false_iff_eq.mpr c4
   clear c4
   (first | rw [c4b0] | (simp only [i64_w, i32_w]; rw [c4b0]) | skip)
   replace H := Option.bind_eq_some_iff.mp H
   obtain ⟨t217, A50, H⟩ := H
   replace H : (if t217 = true then (spec_l8Valid.j1 k 0 false (a0_2.toList == ([] : List UInt8)) a0_0 a0_1 a0_2 a0_3 a0_4 l0_5 l0_6) else (spec_l8Valid.j1 k 0 false false a0_0 a0_1 a0_2 a0_3 a0_4 l0_5 l0_6)) = some r := H
   have A5 := Aside0.mk A50
   clear A50
   by_cases c6 : t217 = true
   ·subst c6
    have H1 : (spec_l8Valid.j1 k 0 false (a0_2.toList == ([] : List UInt8)) a0_0 a0_1 a0_2 a0_3 a0_4 l0_5 l0_6) = some r := by rw [if_pos rfl] at H; exact H
    clear H
    have H := H1
    clear H1
    have H' := Aside0.mk H
    clear H
    have hcz7_0 : w3.cell? ⟨gb216, 0, none⟩ = some (.int .i64 a0_0) := (blk_cell BK216.out 0).trans rfl
    have hcz7_1 : w3.cell? ⟨gb216, 1, none⟩ = some (.int .i64 a0_1) := (blk_cell BK216.out 1).trans rfl
    have hcz7_2 : w3.cell? ⟨gb216, 2, none⟩ = some (.string a0_2) := (blk_cell BK216.out 2).trans rfl
    have hcz7_3 : w3.cell? ⟨gb216, 3, none⟩ = some (.bool a0_3) := (blk_cell BK216.out 3).trans rfl
    have hcz7_4 : w3.cell? ⟨gb216, 4, none⟩ = some (.int .i64 a0_4) := (blk_cell BK216.out 4).trans rfl
    have hcz7_5 : w3.cell? ⟨gb216, 5, none⟩ = some (.slice A0_5 l0_5.length c0_5) := (blk_cell BK216.out 5).trans rfl
    have hcz7_6 : w3.cell? ⟨gb216, 6, none⟩ = some (.slice A0_6 l0_6.length c0_6) := (blk_cell BK216.out 6).trans rfl
    have hfz7_0 := blk_frozen BK216.out 0
    have hfz7_1 := blk_frozen BK216.out 1
    have hfz7_2 := blk_frozen BK216.out 2
    have hfz7_3 := blk_frozen BK216.out 3
    have hfz7_4 := blk_frozen BK216.out 4
    have hfz7_5 := blk_frozen BK216.out 5
    have hfz7_6 := blk_frozen BK216.out 6
    go_wp2_with (first | ((with_reducible refine gate_callee (f := 47) rfl ?_); refine goesL_ (some 13) rfl rfl Try.func47 (by kernel_rfl) rfl #[.int .i64 a0_1, .int .i64 0, .int .i64 1000000000] rfl (by (try simp only [List.map_toArray, List.map_cons, List.map_nil]); first | done | rfl | (simp only [List.length_drop, List.length_take]; rfl)) ?_; (with_reducible refine (spec_l1In.calls a0_1 0 1000000000 true _ A5.out).mono ?_); rintro e w' ⟨rfl, ⟨nd, rfl⟩⟩; refine ⟨_, rfl, ?_⟩))
    go_meet
    case rel => exact ⟨_, (0), (false), ((a0_2.toList == ([] : List UInt8))), (by first | rfl | (simp; done) | (simp [*]; done)), (by first | rfl | (simp; done) | (simp [*]; done)), (by first | rfl | (simp; done) | (simp [*]; done)), H', ⟨by first | omega | exact Nat.le_refl _⟩, ⟨by (with_reducible repeat (first | refine Fn_ ?_ _ | refine Fd_ ?_ | refine Fa_ ?_ _)); exact BK216.out⟩, ⟨by repeat (first | (with_reducible first | exact HB.out | apply Ba_ | apply Bw_ | apply Bd_ | refine below_set ?_ GE216.out) | exact HB.out)⟩⟩
   ·replace c6 := Bool.eq_false_iff.mpr c6
    subst c6
    have H1 : (spec_l8Valid.j1 k 0 false false a0_0 a0_1 a0_2 a0_3 a0_4 l0_5 l0_6) = some r := by rw [if_neg (show ¬ (false = true) by decide)] at H; exact H
    clear H
    have H := H1
    clear H1
    have H' := Aside0.mk H
    clear H
    have hcz8_0 : w3.cell? ⟨gb216, 0, none⟩ = some (.int .i64 a0_0) := (blk_cell BK216.out 0).trans rfl
    have hcz8_1 : w3.cell? ⟨gb216, 1, none⟩ = some (.int .i64 a0_1) := (blk_cell BK216.out 1).trans rfl
    have hcz8_2 : w3.cell? ⟨gb216, 2, none⟩ = some (.string a0_2) := (blk_cell BK216.out 2).trans rfl
    have hcz8_3 : w3.cell? ⟨gb216, 3, none⟩ = some (.bool a0_3) := (blk_cell BK216.out 3).trans rfl
    have hcz8_4 : w3.cell? ⟨gb216, 4, none⟩ = some (.int .i64 a0_4) := (blk_cell BK216.out 4).trans rfl
    have hcz8_5 : w3.cell? ⟨gb216, 5, none⟩ = some (.slice A0_5 l0_5.length c0_5) := (blk_cell BK216.out 5).trans rfl
    have hcz8_6 : w3.cell? ⟨gb216, 6, none⟩ = some (.slice A0_6 l0_6.length c0_6) := (blk_cell BK216.out 6).trans rfl
    have hfz8_0 := blk_frozen BK216.out 0
    have hfz8_1 := blk_frozen BK216.out 1
    have hfz8_2 := blk_frozen BK216.out 2
    have hfz8_3 := blk_frozen BK216.out 3
    have hfz8_4 := blk_frozen BK216.out 4
    have hfz8_5 := blk_frozen BK216.out 5
    have hfz8_6 := blk_frozen BK216.out 6
    go_wp2_with (first | ((with_reducible refine gate_callee (f := 47) rfl ?_); refine goesL_ (some 13) rfl rfl Try.func47 (by kernel_rfl) rfl #[.int .i64 a0_1, .int .i64 0, .int .i64 1000000000] rfl (by (try simp only [List.map_toArray, List.map_cons, List.map_nil]); first | done | rfl | (simp only [List.length_drop, List.length_take]; rfl)) ?_; (with_reducible refine (spec_l1In.calls a0_1 0 1000000000 false _ A5.out).mono ?_); rintro e w' ⟨rfl, ⟨nd, rfl⟩⟩; refine ⟨_, rfl, ?_⟩))
    go_meet
    case rel => exact ⟨_, (0), (false), (false), (by first | rfl | (simp; done) | (simp [*]; done)), (by first | rfl | (simp; done) | (simp [*]; done)), (by first | rfl | (simp; done) | (simp [*]; done)), H', ⟨by first | omega | exact Nat.le_refl _⟩, ⟨by (with_reducible repeat (first | refine Fn_ ?_ _ | refine Fd_ ?_ | refine Fa_ ?_ _)); exact BK216.out⟩, ⟨by repeat (first | (with_reducible first | exact HB.out | apply Ba_ | apply Bw_ | apply Bd_ | refine below_set ?_ GE216.out) | exact HB.out)⟩⟩
  ·rw [if_neg c4] at H
   have c4b0 : (a0_0 == 1) = false := beq_eq_false_iff_ne.mpr c4
   have c4b1 : (a0_0 != 1) = true := bne_iff_ne.mpr c4
   (first | rw [c4b0] | (simp only [i64_w, i32_w]; rw [c4b0]) | skip)
   by_cases c9 : a0_0 = 2
   ·rw [if_pos c9] at H
    have c9b0 : (a0_0 == 2) = true := beq_iff_eq.mpr c9
    have c9b1 : (a0_0 != 2) = false := bne_eq_false_iff_eq.mpr c9
    clear c9
    replace H := Option.bind_eq_some_iff.mp H
    obtain ⟨t218, A100, H⟩ := H
    replace H : (if t218 = true then (spec_l8Valid.j1 k 0 false (a0_1 == 0) a0_0 a0_1 a0_2 a0_3 a0_4 l0_5 l0_6) else (spec_l8Valid.j1 k 0 false false a0_0 a0_1 a0_2 a0_3 a0_4 l0_5 l0_6)) = some r := H
    have A10 := Aside0.mk A100
    clear A100
    by_cases c11 : t218 = true
    ·subst c11
     have H1 : (spec_l8Valid.j1 k 0 false (a0_1 == 0) a0_0 a0_1 a0_2 a0_3 a0_4 l0_5 l0_6) = some r := by rw [if_pos rfl] at H; exact H
     clear H
     have H := H1
     clear H1
     have H' := Aside0.mk H
     clear H
     have hcz12_0 : w3.cell? ⟨gb216, 0, none⟩ = some (.int .i64 a0_0) := (blk_cell BK216.out 0).trans rfl
     have hcz12_1 : w3.cell? ⟨gb216, 1, none⟩ = some (.int .i64 a0_1) := (blk_cell BK216.out 1).trans rfl
     have hcz12_2 : w3.cell? ⟨gb216, 2, none⟩ = some (.string a0_2) := (blk_cell BK216.out 2).trans rfl
     have hcz12_3 : w3.cell? ⟨gb216, 3, none⟩ = some (.bool a0_3) := (blk_cell BK216.out 3).trans rfl
     have hcz12_4 : w3.cell? ⟨gb216, 4, none⟩ = some (.int .i64 a0_4) := (blk_cell BK216.out 4).trans rfl
     have hcz12_5 : w3.cell? ⟨gb216, 5, none⟩ = some (.slice A0_5 l0_5.length c0_5) := (blk_cell BK216.out 5).trans rfl
     have hcz12_6 : w3.cell? ⟨gb216, 6, none⟩ = some (.slice A0_6 l0_6.length c0_6) := (blk_cell BK216.out 6).trans rfl
     have hfz12_0 := blk_frozen BK216.out 0
     have hfz12_1 := blk_frozen BK216.out 1
     have hfz12_2 := blk_frozen BK216.out 2
     have hfz12_3 := blk_frozen BK216.out 3
     have hfz12_4 := blk_frozen BK216.out 4
     have hfz12_5 := blk_frozen BK216.out 5
     have hfz12_6 := blk_frozen BK216.out 6
     go_wp2_with (first | ((with_reducible refine gate_callee (f := 46) rfl ?_); refine goesL_ (some 25) rfl rfl Try.func46 (by kernel_rfl) rfl #[.string a0_2] rfl (by (try simp only [List.map_toArray, List.map_cons, List.map_nil]); first | done | rfl | (simp only [List.length_drop, List.length_take]; rfl)) ?_; (with_reducible refine (spec_IsText.calls k a0_2 true _ A10.out).mono ?_); rintro e w' ⟨rfl, ⟨nd, rfl⟩⟩; refine ⟨_, rfl, ?_⟩))
     go_meet
     case rel => exact ⟨_, (0), (false), ((a0_1 == 0)), (by first | rfl | (simp; done) | (simp [*]; done)), (by first | rfl | (simp; done) | (simp [*]; done)), (by first | rfl | (simp; done) | (simp [*]; done)), H', ⟨by first | omega | exact Nat.le_refl _⟩, ⟨by (with_reducible repeat (first | refine Fn_ ?_ _ | refine Fd_ ?_ | refine Fa_ ?_ _)); exact BK216.out⟩, ⟨by repeat (first | (with_reducible first | exact HB.out | apply Ba_ | apply Bw_ | apply Bd_ | refine below_set ?_ GE216.out) | exact HB.out)⟩⟩
    ·replace c11 := Bool.eq_false_iff.mpr c11
     subst c11
     have H1 : (spec_l8Valid.j1 k 0 false false a0_0 a0_1 a0_2 a0_3 a0_4 l0_5 l0_6) = some r := by rw [if_neg (show ¬ (false = true) by decide)] at H; exact H
     clear H
     have H := H1
     clear H1
     have H' := Aside0.mk H
     clear H
     have hcz13_0 : w3.cell? ⟨gb216, 0, none⟩ = some (.int .i64 a0_0) := (blk_cell BK216.out 0).trans rfl
     have hcz13_1 : w3.cell? ⟨gb216, 1, none⟩ = some (.int .i64 a0_1) := (blk_cell BK216.out 1).trans rfl
     have hcz13_2 : w3.cell? ⟨gb216, 2, none⟩ = some (.string a0_2) := (blk_cell BK216.out 2).trans rfl
     have hcz13_3 : w3.cell? ⟨gb216, 3, none⟩ = some (.bool a0_3) := (blk_cell BK216.out 3).trans rfl
     have hcz13_4 : w3.cell? ⟨gb216, 4, none⟩ = some (.int .i64 a0_4) := (blk_cell BK216.out 4).trans rfl
     have hcz13_5 : w3.cell? ⟨gb216, 5, none⟩ = some (.slice A0_5 l0_5.length c0_5) := (blk_cell BK216.out 5).trans rfl
     have hcz13_6 : w3.cell? ⟨gb216, 6, none⟩ = some (.slice A0_6 l0_6.length c0_6) := (blk_cell BK216.out 6).trans rfl
     have hfz13_0 := blk_frozen BK216.out 0
     have hfz13_1 := blk_frozen BK216.out 1
     have hfz13_2 := blk_frozen BK216.out 2
     have hfz13_3 := blk_frozen BK216.out 3
     have hfz13_4 := blk_frozen BK216.out 4
     have hfz13_5 := blk_frozen BK216.out 5
     have hfz13_6 := blk_frozen BK216.out 6
     go_wp2_with (first | ((with_reducible refine gate_callee (f := 46) rfl ?_); refine goesL_ (some 25) rfl rfl Try.func46 (by kernel_rfl) rfl #[.string a0_2] rfl (by (try simp only [List.map_toArray, List.map_cons, List.map_nil]); first | done | rfl | (simp only [List.length_drop, List.length_take]; rfl)) ?_; (with_reducible refine (spec_IsText.calls k a0_2 false _ A10.out).mono ?_); rintro e w' ⟨rfl, ⟨nd, rfl⟩⟩; refine ⟨_, rfl, ?_⟩))
     go_meet
     case rel => exact ⟨_, (0), (false), (false), (by first | rfl | (simp; done) | (simp [*]; done)), (by first | rfl | (simp; done) | (simp [*]; done)), (by first | rfl | (simp; done) | (simp [*]; done)), H', ⟨by first | omega | exact Nat.le_refl _⟩, ⟨by (with_reducible repeat (first | refine Fn_ ?_ _ | refine Fd_ ?_ | refine Fa_ ?_ _)); exact BK216.out⟩, ⟨by repeat (first | (with_reducible first | exact HB.out | apply Ba_ | apply Bw_ | apply Bd_ | refine below_set ?_ GE216.out) | exact HB.out)⟩⟩
   ·rw [if_neg c9] at H
    have c9b0 : (a0_0 == 2) = false := beq_eq_false_iff_ne.mpr c9
    have c9b1 : (a0_0 != 2) = true := bne_iff_ne.mpr c9
    have HC14 := Aside0.mk H
    clear H
    have hcz15_0 : w3.cell? ⟨gb216, 0, none⟩ = some (.int .i64 a0_0) := (blk_cell BK216.out 0).trans rfl
    have hcz15_1 : w3.cell? ⟨gb216, 1, none⟩ = some (.int .i64 a0_1) := (blk_cell BK216.out 1).trans rfl
    have hcz15_2 : w3.cell? ⟨gb216, 2, none⟩ = some (.string a0_2) := (blk_cell BK216.out 2).trans rfl
    have hcz15_3 : w3.cell? ⟨gb216, 3, none⟩ = some (.bool a0_3) := (blk_cell BK216.out 3).trans rfl
    have hcz15_4 : w3.cell? ⟨gb216, 4, none⟩ = some (.int .i64 a0_4) := (blk_cell BK216.out 4).trans rfl
    have hcz15_5 : w3.cell? ⟨gb216, 5, none⟩ = some (.slice A0_5 l0_5.length c0_5) := (blk_cell BK216.out 5).trans rfl
    have hcz15_6 : w3.cell? ⟨gb216, 6, none⟩ = some (.slice A0_6 l0_6.length c0_6) := (blk_cell BK216.out 6).trans rfl
    have hfz15_0 := blk_frozen BK216.out 0
    have hfz15_1 := blk_frozen BK216.out 1
    have hfz15_2 := blk_frozen BK216.out 2
    have hfz15_3 := blk_frozen BK216.out 3
    have hfz15_4 := blk_frozen BK216.out 4
    have hfz15_5 := blk_frozen BK216.out 5
    have hfz15_6 := blk_frozen BK216.out 6
    go_upto_region 9 with (fail)
    go_cut [31] (fun v31 wc => ∃ (kq : Nat) (x31_13 : Bool), v31 = .bool x31_13 ∧ Aside0 (spec_l8Valid.j0 kq 0 false x31_13 a0_0 a0_1 a0_2 a0_3 a0_4 l0_5 l0_6 = some r) ∧ Aside0 (kq ≤ k) ∧ Aside0 (wc.heap[gb216]? = some (.cells #[.int .i64 a0_0, .int .i64 a0_1, .string a0_2, .bool a0_3, .int .i64 a0_4, (.slice A0_5 l0_5.length c0_5), (.slice A0_6 l0_6.length c0_6)] 54 (0, 0))) ∧ Aside0 (Below w.heap.size w wc))
    case first =>
     have H := HC14.out
     clear HC14
     by_cases c16 : a0_0 = 3
     ·rw [if_pos c16] at H
      have c16b0 : (a0_0 == 3) = true := beq_iff_eq.mpr c16
      have c16b1 : (a0_0 != 3) = false := bne_eq_false_iff_eq.mpr c16
      clear c16
      (first | rw [c16b0] | (simp only [i64_w, i32_w]; rw [c16b0]) | skip)
      have H' := Aside0.mk H
      clear H
      have hcz17_0 : w3.cell? ⟨gb216, 0, none⟩ = some (.int .i64 a0_0) := (blk_cell BK216.out 0).trans rfl
      have hcz17_1 : w3.cell? ⟨gb216, 1, none⟩ = some (.int .i64 a0_1) := (blk_cell BK216.out 1).trans rfl
      have hcz17_2 : w3.cell? ⟨gb216, 2, none⟩ = some (.string a0_2) := (blk_cell BK216.out 2).trans rfl
      have hcz17_3 : w3.cell? ⟨gb216, 3, none⟩ = some (.bool a0_3) := (blk_cell BK216.out 3).trans rfl
      have hcz17_4 : w3.cell? ⟨gb216, 4, none⟩ = some (.int .i64 a0_4) := (blk_cell BK216.out 4).trans rfl
      have hcz17_5 : w3.cell? ⟨gb216, 5, none⟩ = some (.slice A0_5 l0_5.length c0_5) := (blk_cell BK216.out 5).trans rfl
      have hcz17_6 : w3.cell? ⟨gb216, 6, none⟩ = some (.slice A0_6 l0_6.length c0_6) := (blk_cell BK216.out 6).trans rfl
      have hfz17_0 := blk_frozen BK216.out 0
      have hfz17_1 := blk_frozen BK216.out 1
      have hfz17_2 := blk_frozen BK216.out 2
      have hfz17_3 := blk_frozen BK216.out 3
      have hfz17_4 := blk_frozen BK216.out 4
      have hfz17_5 := blk_frozen BK216.out 5
      have hfz17_6 := blk_frozen BK216.out 6
      go_wp2
      go_meet
      case rel => exact ⟨_, (true), (by first | rfl | (simp; done) | (simp [*]; done)), H', ⟨by first | omega | exact Nat.le_refl _⟩, ⟨by (with_reducible repeat (first | refine Fn_ ?_ _ | refine Fd_ ?_ | refine Fa_ ?_ _)); exact BK216.out⟩, ⟨by repeat (first | (with_reducible first | exact HB.out | apply Ba_ | apply Bw_ | apply Bd_ | refine below_set ?_ GE216.out) | exact HB.out)⟩⟩
     ·rw [if_neg c16] at H
      have c16b0 : (a0_0 == 3) = false := beq_eq_false_iff_ne.mpr c16
      have c16b1 : (a0_0 != 3) = true := bne_iff_ne.mpr c16
      (first | rw [c16b0] | (simp only [i64_w, i32_w]; rw [c16b0]) | skip)
      have H' := Aside0.mk H
      clear H
      have hcz18_0 : w3.cell? ⟨gb216, 0, none⟩ = some (.int .i64 a0_0) := (blk_cell BK216.out 0).trans rfl
      have hcz18_1 : w3.cell? ⟨gb216, 1, none⟩ = some (.int .i64 a0_1) := (blk_cell BK216.out 1).trans rfl
      have hcz18_2 : w3.cell? ⟨gb216, 2, none⟩ = some (.string a0_2) := (blk_cell BK216.out 2).trans rfl
      have hcz18_3 : w3.cell? ⟨gb216, 3, none⟩ = some (.bool a0_3) := (blk_cell BK216.out 3).trans rfl
      have hcz18_4 : w3.cell? ⟨gb216, 4, none⟩ = some (.int .i64 a0_4) := (blk_cell BK216.out 4).trans rfl
      have hcz18_5 : w3.cell? ⟨gb216, 5, none⟩ = some (.slice A0_5 l0_5.length c0_5) := (blk_cell BK216.out 5).trans rfl
      have hcz18_6 : w3.cell? ⟨gb216, 6, none⟩ = some (.slice A0_6 l0_6.length c0_6) := (blk_cell BK216.out 6).trans rfl
      have hfz18_0 := blk_frozen BK216.out 0
      have hfz18_1 := blk_frozen BK216.out 1
      have hfz18_2 := blk_frozen BK216.out 2
      have hfz18_3 := blk_frozen BK216.out 3
      have hfz18_4 := blk_frozen BK216.out 4
      have hfz18_5 := blk_frozen BK216.out 5
      have hfz18_6 := blk_frozen BK216.out 6
      go_wp2
      go_meet
      case rel => exact ⟨_, ((a0_0 == 4)), (by first | rfl | (simp; done) | (simp [*]; done)), H', ⟨by first | omega | exact Nat.le_refl _⟩, ⟨by (with_reducible repeat (first | refine Fn_ ?_ _ | refine Fd_ ?_ | refine Fa_ ?_ _)); exact BK216.out⟩, ⟨by repeat (first | (with_reducible first | exact HB.out | apply Ba_ | apply Bw_ | apply Bd_ | refine below_set ?_ GE216.out) | exact HB.out)⟩⟩
    case rest =>
     clear HC14
     try clear c1
     try clear p2
     try clear c4
     try clear c4b0
     try clear c4b1
     try clear c6
     try clear c7
     try clear c9
     try clear c9b0
     try clear c9b1
     try clear c11
     try clear c16
     try clear c16b0
     try clear c16b1
     try clear hcz12_0
     try clear hcz12_1
     try clear hcz12_2
     try clear hcz12_3
     try clear hcz12_4
     try clear hcz12_5
     try clear hcz12_6
     try clear hcz13_0
     try clear hcz13_1
     try clear hcz13_2
     try clear hcz13_3
     try clear hcz13_4
     try clear hcz13_5
     try clear hcz13_6
     try clear hcz15_0
     try clear hcz15_1
     try clear hcz15_2
     try clear hcz15_3
     try clear hcz15_4
     try clear hcz15_5
     try clear hcz15_6
     try clear hcz17_0
     try clear hcz17_1
     try clear hcz17_2
     try clear hcz17_3
     try clear hcz17_4
     try clear hcz17_5
     try clear hcz17_6
     try clear hcz18_0
     try clear hcz18_1
     try clear hcz18_2
     try clear hcz18_3
     try clear hcz18_4
     try clear hcz18_5
     try clear hcz18_6
     try clear hcz7_0
     try clear hcz7_1
     try clear hcz7_2
     try clear hcz7_3
     try clear hcz7_4
     try clear hcz7_5
     try clear hcz7_6
     try clear hcz8_0
     try clear hcz8_1
     try clear hcz8_2
     try clear hcz8_3
     try clear hcz8_4
     try clear hcz8_5
     try clear hcz8_6
     try clear hfz12_0
     try clear hfz12_1
     try clear hfz12_2
     try clear hfz12_3
     try clear hfz12_4
     try clear hfz12_5
     try clear hfz12_6
     try clear hfz13_0
     try clear hfz13_1
     try clear hfz13_2
     try clear hfz13_3
     try clear hfz13_4
     try clear hfz13_5
     try clear hfz13_6
     try clear hfz15_0
     try clear hfz15_1
     try clear hfz15_2
     try clear hfz15_3
     try clear hfz15_4
     try clear hfz15_5
     try clear hfz15_6
     try clear hfz17_0
     try clear hfz17_1
     try clear hfz17_2
     try clear hfz17_3
     try clear hfz17_4
     try clear hfz17_5
     try clear hfz17_6
     try clear hfz18_0
     try clear hfz18_1
     try clear hfz18_2
     try clear hfz18_3
     try clear hfz18_4
     try clear hfz18_5
     try clear hfz18_6
     try clear hfz7_0
     try clear hfz7_1
     try clear hfz7_2
     try clear hfz7_3
     try clear hfz7_4
     try clear hfz7_5
     try clear hfz7_6
     try clear hfz8_0
     try clear hfz8_1
     try clear hfz8_2
     try clear hfz8_3
     try clear hfz8_4
     try clear hfz8_5
     try clear hfz8_6
     obtain ⟨kq, x31_13, rfl, HA, HJ13, BK216, HB⟩ := hcut
     cases kq with
     | zero => exact absurd HA.out (by simp [spec_l8Valid.j0])
     | succ kj13 =>
      have H := HA.out
      clear HA
      simp only [spec_l8Valid.j0] at H
      by_cases c19 : x31_13 = true
      ·subst c19
       have H1 : ((spec_IsPath.f kj13 a0_3 a0_4 l0_5).bind fun t219 => (if t219 = true then (if a0_1 = 0 then (spec_l8Valid.j1 kj13 0 true (a0_2.toList == ([] : List UInt8)) a0_0 a0_1 a0_2 a0_3 a0_4 l0_5 l0_6) else (spec_l8Valid.j1 kj13 0 true false a0_0 a0_1 a0_2 a0_3 a0_4 l0_5 l0_6)) else (spec_l8Valid.j1 kj13 0 true false a0_0 a0_1 a0_2 a0_3 a0_4 l0_5 l0_6))) = some r := by rw [if_pos rfl] at H; exact H
       clear H
       have H := H1
       clear H1
       replace H := Option.bind_eq_some_iff.mp H
       obtain ⟨t219, A200, H⟩ := H
       replace H : (if t219 = true then (if a0_1 = 0 then (spec_l8Valid.j1 kj13 0 true (a0_2.toList == ([] : List UInt8)) a0_0 a0_1 a0_2 a0_3 a0_4 l0_5 l0_6) else (spec_l8Valid.j1 kj13 0 true false a0_0 a0_1 a0_2 a0_3 a0_4 l0_5 l0_6)) else (spec_l8Valid.j1 kj13 0 true false a0_0 a0_1 a0_2 a0_3 a0_4 l0_5 l0_6)) = some r := H
       have A20 := Aside0.mk A200
       clear A200
       by_cases c21 : t219 = true
       ·subst c21
        have H1 : (if a0_1 = 0 then (spec_l8Valid.j1 kj13 0 true (a0_2.toList == ([] : List UInt8)) a0_0 a0_1 a0_2 a0_3 a0_4 l0_5 l0_6) else (spec_l8Valid.j1 kj13 0 true false a0_0 a0_1 a0_2 a0_3 a0_4 l0_5 l0_6)) = some r := by rw [if_pos rfl] at H; exact H
        clear H
        have H := H1
        clear H1
        by_cases c22 : a0_1 = 0
        ·rw [if_pos c22] at H
         have c22b0 : (a0_1 == 0) = true := beq_iff_eq.mpr c22
         have c22b1 : (a0_1 != 0) = false := bne_eq_false_iff_eq.mpr c22
         clear c22
         have H' := Aside0.mk H
         clear H
         have hcz23_0 : wc.cell? ⟨gb216, 0, none⟩ = some (.int .i64 a0_0) := (blk_cell BK216.out 0).trans rfl
         have hcz23_1 : wc.cell? ⟨gb216, 1, none⟩ = some (.int .i64 a0_1) := (blk_cell BK216.out 1).trans rfl
         have hcz23_2 : wc.cell? ⟨gb216, 2, none⟩ = some (.string a0_2) := (blk_cell BK216.out 2).trans rfl
         have hcz23_3 : wc.cell? ⟨gb216, 3, none⟩ = some (.bool a0_3) := (blk_cell BK216.out 3).trans rfl
         have hcz23_4 : wc.cell? ⟨gb216, 4, none⟩ = some (.int .i64 a0_4) := (blk_cell BK216.out 4).trans rfl
         have hcz23_5 : wc.cell? ⟨gb216, 5, none⟩ = some (.slice A0_5 l0_5.length c0_5) := (blk_cell BK216.out 5).trans rfl
         have hcz23_6 : wc.cell? ⟨gb216, 6, none⟩ = some (.slice A0_6 l0_6.length c0_6) := (blk_cell BK216.out 6).trans rfl
         have hfz23_0 := blk_frozen BK216.out 0
         have hfz23_1 := blk_frozen BK216.out 1
         have hfz23_2 := blk_frozen BK216.out 2
         have hfz23_3 := blk_frozen BK216.out 3
         have hfz23_4 := blk_frozen BK216.out 4
         have hfz23_5 := blk_frozen BK216.out 5
         have hfz23_6 := blk_frozen BK216.out 6
         go_wp2_with (first | ((with_reducible refine gate_callee (f := 11) rfl ?_); refine goesL_ (some 42) rfl rfl Try.func11 (by kernel_rfl) rfl #[.agg #[.bool a0_3, .int .i64 a0_4, .slice A0_5 l0_5.length c0_5]] rfl (by (try simp only [List.map_toArray, List.map_cons, List.map_nil]); first | done | rfl | (simp only [List.length_drop, List.length_take]; rfl)) ?_; (with_reducible refine (spec_IsPath.calls kj13 a0_3 a0_4 _ _ l0_5 true _ ?side1 ?side2 A20.out).mono ?_); (case side1 => repeat (first | exact (Kd.C_below HR0_5.out HB.out) | (with_reducible refine Ca_ ?_ _) | (with_reducible refine Cn_ ?_ _) | (with_reducible refine Cd_ ?_))); (case side2 => exact HC0_5.out); rintro e w24 ⟨rfl, hb⟩; refine ⟨_, rfl, ?_⟩; have n0_ := Aside0.mk (blk_below (g := gb216) (o := .cells #[.int .i64 a0_0, .int .i64 a0_1, .string a0_2, .bool a0_3, .int .i64 a0_4, .slice A0_5 l0_5.length c0_5, .slice A0_6 l0_6.length c0_6] 54 (0, 0)) (by (with_reducible repeat (first | refine Fn_ ?_ _ | refine Fd_ ?_ | refine Fa_ ?_ _)); exact BK216.out) hb); have n1_ := Aside0.mk (below_step (by repeat (first | (with_reducible first | exact HB.out | apply Ba_ | apply Bw_ | apply Bd_ | refine below_set ?_ GE216.out) | exact HB.out)) hb); clear BK216; clear HB; have BK216 := n0_; have HB := n1_; clear n0_ n1_; (try clear hb); (try clear hb2); (try clear hk); (try clear hi); have hcz25_0 : w24.cell? ⟨gb216, 0, none⟩ = some (.int .i64 a0_0) := (blk_cell BK216.out 0).trans rfl; have hcz25_1 : w24.cell? ⟨gb216, 1, none⟩ = some (.int .i64 a0_1) := (blk_cell BK216.out 1).trans rfl; have hcz25_2 : w24.cell? ⟨gb216, 2, none⟩ = some (.string a0_2) := (blk_cell BK216.out 2).trans rfl; have hcz25_3 : w24.cell? ⟨gb216, 3, none⟩ = some (.bool a0_3) := (blk_cell BK216.out 3).trans rfl; have hcz25_4 : w24.cell? ⟨gb216, 4, none⟩ = some (.int .i64 a0_4) := (blk_cell BK216.out 4).trans rfl; have hcz25_5 : w24.cell? ⟨gb216, 5, none⟩ = some (.slice A0_5 l0_5.length c0_5) := (blk_cell BK216.out 5).trans rfl; have hcz25_6 : w24.cell? ⟨gb216, 6, none⟩ = some (.slice A0_6 l0_6.length c0_6) := (blk_cell BK216.out 6).trans rfl; have hfz25_0 := blk_frozen BK216.out 0; have hfz25_1 := blk_frozen BK216.out 1; have hfz25_2 := blk_frozen BK216.out 2; have hfz25_3 := blk_frozen BK216.out 3; have hfz25_4 := blk_frozen BK216.out 4; have hfz25_5 := blk_frozen BK216.out 5; have hfz25_6 := blk_frozen BK216.out 6))
         go_meet
         case rel => exact ⟨_, (0), (true), ((a0_2.toList == ([] : List UInt8))), (by first | rfl | (simp; done) | (simp [*]; done)), (by first | rfl | (simp; done) | (simp [*]; done)), (by first | rfl | (simp; done) | (simp [*]; done)), H', ⟨by have := HJ13.out; first | omega | exact Nat.le_refl _⟩, ⟨by (with_reducible repeat (first | refine Fn_ ?_ _ | refine Fd_ ?_ | refine Fa_ ?_ _)); exact BK216.out⟩, ⟨by repeat (first | (with_reducible first | exact HB.out | apply Ba_ | apply Bw_ | apply Bd_ | refine below_set ?_ GE216.out) | exact HB.out)⟩⟩
        ·rw [if_neg c22] at H
         have c22b0 : (a0_1 == 0) = false := beq_eq_false_iff_ne.mpr c22
         have c22b1 : (a0_1 != 0) = true := bne_iff_ne.mpr c22
         have H' := Aside0.mk H
         clear H
         have hcz26_0 : wc.cell? ⟨gb216, 0, none⟩ = some (.int .i64 a0_0) := (blk_cell BK216.out 0).trans rfl
         have hcz26_1 : wc.cell? ⟨gb216, 1, none⟩ = some (.int .i64 a0_1) := (blk_cell BK216.out 1).trans rfl
         have hcz26_2 : wc.cell? ⟨gb216, 2, none⟩ = some (.string a0_2) := (blk_cell BK216.out 2).trans rfl
         have hcz26_3 : wc.cell? ⟨gb216, 3, none⟩ = some (.bool a0_3) := (blk_cell BK216.out 3).trans rfl
         have hcz26_4 : wc.cell? ⟨gb216, 4, none⟩ = some (.int .i64 a0_4) := (blk_cell BK216.out 4).trans rfl
         have hcz26_5 : wc.cell? ⟨gb216, 5, none⟩ = some (.slice A0_5 l0_5.length c0_5) := (blk_cell BK216.out 5).trans rfl
         have hcz26_6 : wc.cell? ⟨gb216, 6, none⟩ = some (.slice A0_6 l0_6.length c0_6) := (blk_cell BK216.out 6).trans rfl
         have hfz26_0 := blk_frozen BK216.out 0
         have hfz26_1 := blk_frozen BK216.out 1
         have hfz26_2 := blk_frozen BK216.out 2
         have hfz26_3 := blk_frozen BK216.out 3
         have hfz26_4 := blk_frozen BK216.out 4
         have hfz26_5 := blk_frozen BK216.out 5
         have hfz26_6 := blk_frozen BK216.out 6
         go_wp2_with (first | ((with_reducible refine gate_callee (f := 11) rfl ?_); refine goesL_ (some 42) rfl rfl Try.func11 (by kernel_rfl) rfl #[.agg #[.bool a0_3, .int .i64 a0_4, .slice A0_5 l0_5.length c0_5]] rfl (by (try simp only [List.map_toArray, List.map_cons, List.map_nil]); first | done | rfl | (simp only [List.length_drop, List.length_take]; rfl)) ?_; (with_reducible refine (spec_IsPath.calls kj13 a0_3 a0_4 _ _ l0_5 true _ ?side1 ?side2 A20.out).mono ?_); (case side1 => repeat (first | exact (Kd.C_below HR0_5.out HB.out) | (with_reducible refine Ca_ ?_ _) | (with_reducible refine Cn_ ?_ _) | (with_reducible refine Cd_ ?_))); (case side2 => exact HC0_5.out); rintro e w27 ⟨rfl, hb⟩; refine ⟨_, rfl, ?_⟩; have n0_ := Aside0.mk (blk_below (g := gb216) (o := .cells #[.int .i64 a0_0, .int .i64 a0_1, .string a0_2, .bool a0_3, .int .i64 a0_4, .slice A0_5 l0_5.length c0_5, .slice A0_6 l0_6.length c0_6] 54 (0, 0)) (by (with_reducible repeat (first | refine Fn_ ?_ _ | refine Fd_ ?_ | refine Fa_ ?_ _)); exact BK216.out) hb); have n1_ := Aside0.mk (below_step (by repeat (first | (with_reducible first | exact HB.out | apply Ba_ | apply Bw_ | apply Bd_ | refine below_set ?_ GE216.out) | exact HB.out)) hb); clear BK216; clear HB; have BK216 := n0_; have HB := n1_; clear n0_ n1_; (try clear hb); (try clear hb2); (try clear hk); (try clear hi); have hcz28_0 : w27.cell? ⟨gb216, 0, none⟩ = some (.int .i64 a0_0) := (blk_cell BK216.out 0).trans rfl; have hcz28_1 : w27.cell? ⟨gb216, 1, none⟩ = some (.int .i64 a0_1) := (blk_cell BK216.out 1).trans rfl; have hcz28_2 : w27.cell? ⟨gb216, 2, none⟩ = some (.string a0_2) := (blk_cell BK216.out 2).trans rfl; have hcz28_3 : w27.cell? ⟨gb216, 3, none⟩ = some (.bool a0_3) := (blk_cell BK216.out 3).trans rfl; have hcz28_4 : w27.cell? ⟨gb216, 4, none⟩ = some (.int .i64 a0_4) := (blk_cell BK216.out 4).trans rfl; have hcz28_5 : w27.cell? ⟨gb216, 5, none⟩ = some (.slice A0_5 l0_5.length c0_5) := (blk_cell BK216.out 5).trans rfl; have hcz28_6 : w27.cell? ⟨gb216, 6, none⟩ = some (.slice A0_6 l0_6.length c0_6) := (blk_cell BK216.out 6).trans rfl; have hfz28_0 := blk_frozen BK216.out 0; have hfz28_1 := blk_frozen BK216.out 1; have hfz28_2 := blk_frozen BK216.out 2; have hfz28_3 := blk_frozen BK216.out 3; have hfz28_4 := blk_frozen BK216.out 4; have hfz28_5 := blk_frozen BK216.out 5; have hfz28_6 := blk_frozen BK216.out 6))
         go_meet
         case rel => exact ⟨_, (0), (true), (false), (by first | rfl | (simp; done) | (simp [*]; done)), (by first | rfl | (simp; done) | (simp [*]; done)), (by first | rfl | (simp; done) | (simp [*]; done)), H', ⟨by have := HJ13.out; first | omega | exact Nat.le_refl _⟩, ⟨by (with_reducible repeat (first | refine Fn_ ?_ _ | refine Fd_ ?_ | refine Fa_ ?_ _)); exact BK216.out⟩, ⟨by repeat (first | (with_reducible first | exact HB.out | apply Ba_ | apply Bw_ | apply Bd_ | refine below_set ?_ GE216.out) | exact HB.out)⟩⟩
       ·replace c21 := Bool.eq_false_iff.mpr c21
        subst c21
        have H1 : (spec_l8Valid.j1 kj13 0 true false a0_0 a0_1 a0_2 a0_3 a0_4 l0_5 l0_6) = some r := by rw [if_neg (show ¬ (false = true) by decide)] at H; exact H
        clear H
        have H := H1
        clear H1
        have H' := Aside0.mk H
        clear H
        have hcz29_0 : wc.cell? ⟨gb216, 0, none⟩ = some (.int .i64 a0_0) := (blk_cell BK216.out 0).trans rfl
        have hcz29_1 : wc.cell? ⟨gb216, 1, none⟩ = some (.int .i64 a0_1) := (blk_cell BK216.out 1).trans rfl
        have hcz29_2 : wc.cell? ⟨gb216, 2, none⟩ = some (.string a0_2) := (blk_cell BK216.out 2).trans rfl
        have hcz29_3 : wc.cell? ⟨gb216, 3, none⟩ = some (.bool a0_3) := (blk_cell BK216.out 3).trans rfl
        have hcz29_4 : wc.cell? ⟨gb216, 4, none⟩ = some (.int .i64 a0_4) := (blk_cell BK216.out 4).trans rfl
        have hcz29_5 : wc.cell? ⟨gb216, 5, none⟩ = some (.slice A0_5 l0_5.length c0_5) := (blk_cell BK216.out 5).trans rfl
        have hcz29_6 : wc.cell? ⟨gb216, 6, none⟩ = some (.slice A0_6 l0_6.length c0_6) := (blk_cell BK216.out 6).trans rfl
        have hfz29_0 := blk_frozen BK216.out 0
        have hfz29_1 := blk_frozen BK216.out 1
        have hfz29_2 := blk_frozen BK216.out 2
        have hfz29_3 := blk_frozen BK216.out 3
        have hfz29_4 := blk_frozen BK216.out 4
        have hfz29_5 := blk_frozen BK216.out 5
        have hfz29_6 := blk_frozen BK216.out 6
        go_wp2_with (first | ((with_reducible refine gate_callee (f := 11) rfl ?_); refine goesL_ (some 42) rfl rfl Try.func11 (by kernel_rfl) rfl #[.agg #[.bool a0_3, .int .i64 a0_4, .slice A0_5 l0_5.length c0_5]] rfl (by (try simp only [List.map_toArray, List.map_cons, List.map_nil]); first | done | rfl | (simp only [List.length_drop, List.length_take]; rfl)) ?_; (with_reducible refine (spec_IsPath.calls kj13 a0_3 a0_4 _ _ l0_5 false _ ?side1 ?side2 A20.out).mono ?_); (case side1 => repeat (first | exact (Kd.C_below HR0_5.out HB.out) | (with_reducible refine Ca_ ?_ _) | (with_reducible refine Cn_ ?_ _) | (with_reducible refine Cd_ ?_))); (case side2 => exact HC0_5.out); rintro e w30 ⟨rfl, hb⟩; refine ⟨_, rfl, ?_⟩; have n0_ := Aside0.mk (blk_below (g := gb216) (o := .cells #[.int .i64 a0_0, .int .i64 a0_1, .string a0_2, .bool a0_3, .int .i64 a0_4, .slice A0_5 l0_5.length c0_5, .slice A0_6 l0_6.length c0_6] 54 (0, 0)) (by (with_reducible repeat (first | refine Fn_ ?_ _ | refine Fd_ ?_ | refine Fa_ ?_ _)); exact BK216.out) hb); have n1_ := Aside0.mk (below_step (by repeat (first | (with_reducible first | exact HB.out | apply Ba_ | apply Bw_ | apply Bd_ | refine below_set ?_ GE216.out) | exact HB.out)) hb); clear BK216; clear HB; have BK216 := n0_; have HB := n1_; clear n0_ n1_; (try clear hb); (try clear hb2); (try clear hk); (try clear hi)))
        go_meet
        case rel => exact ⟨_, (0), (true), (false), (by first | rfl | (simp; done) | (simp [*]; done)), (by first | rfl | (simp; done) | (simp [*]; done)), (by first | rfl | (simp; done) | (simp [*]; done)), H', ⟨by have := HJ13.out; first | omega | exact Nat.le_refl _⟩, ⟨by (with_reducible repeat (first | refine Fn_ ?_ _ | refine Fd_ ?_ | refine Fa_ ?_ _)); exact BK216.out⟩, ⟨by repeat (first | (with_reducible first | exact HB.out | apply Ba_ | apply Bw_ | apply Bd_ | refine below_set ?_ GE216.out) | exact HB.out)⟩⟩
      ·replace c19 := Bool.eq_false_iff.mpr c19
       subst c19
       have H1 : ((spec_l1In.f a0_0 5 15).bind fun t220 => (if t220 = true then (if a0_0 = 5 then (if a0_1 = 0 then (spec_l8Valid.j1 kj13 1 false (a0_2.toList == ([] : List UInt8)) a0_0 a0_1 a0_2 a0_3 a0_4 l0_5 l0_6) else (spec_l8Valid.j1 kj13 1 false false a0_0 a0_1 a0_2 a0_3 a0_4 l0_5 l0_6)) else (if a0_1 = 0 then (spec_l8Valid.j1 kj13 2 false (a0_2.toList == ([] : List UInt8)) a0_0 a0_1 a0_2 a0_3 a0_4 l0_5 l0_6) else (spec_l8Valid.j1 kj13 2 false false a0_0 a0_1 a0_2 a0_3 a0_4 l0_5 l0_6))) else (some false))) = some r := by rw [if_neg (show ¬ (false = true) by decide)] at H; exact H
       clear H
       have H := H1
       clear H1
       replace H := Option.bind_eq_some_iff.mp H
       obtain ⟨t220, A310, H⟩ := H
       replace H : (if t220 = true then (if a0_0 = 5 then (if a0_1 = 0 then (spec_l8Valid.j1 kj13 1 false (a0_2.toList == ([] : List UInt8)) a0_0 a0_1 a0_2 a0_3 a0_4 l0_5 l0_6) else (spec_l8Valid.j1 kj13 1 false false a0_0 a0_1 a0_2 a0_3 a0_4 l0_5 l0_6)) else (if a0_1 = 0 then (spec_l8Valid.j1 kj13 2 false (a0_2.toList == ([] : List UInt8)) a0_0 a0_1 a0_2 a0_3 a0_4 l0_5 l0_6) else (spec_l8Valid.j1 kj13 2 false false a0_0 a0_1 a0_2 a0_3 a0_4 l0_5 l0_6))) else (some false)) = some r := H
       have A31 := Aside0.mk A310
       clear A310
       by_cases c32 : t220 = true
       ·subst c32
        have H1 : (if a0_0 = 5 then (if a0_1 = 0 then (spec_l8Valid.j1 kj13 1 false (a0_2.toList == ([] : List UInt8)) a0_0 a0_1 a0_2 a0_3 a0_4 l0_5 l0_6) else (spec_l8Valid.j1 kj13 1 false false a0_0 a0_1 a0_2 a0_3 a0_4 l0_5 l0_6)) else (if a0_1 = 0 then (spec_l8Valid.j1 kj13 2 false (a0_2.toList == ([] : List UInt8)) a0_0 a0_1 a0_2 a0_3 a0_4 l0_5 l0_6) else (spec_l8Valid.j1 kj13 2 false false a0_0 a0_1 a0_2 a0_3 a0_4 l0_5 l0_6))) = some r := by rw [if_pos rfl] at H; exact H
        clear H
        have H := H1
        clear H1
        by_cases c33 : a0_0 = 5
        ·rw [if_pos c33] at H
         have c33b0 : (a0_0 == 5) = true := beq_iff_eq.mpr c33
         have c33b1 : (a0_0 != 5) = false := bne_eq_false_iff_eq.mpr c33
         clear c33
         by_cases c34 : a0_1 = 0
         ·rw [if_pos c34] at H
          have c34b0 : (a0_1 == 0) = true := beq_iff_eq.mpr c34
          have c34b1 : (a0_1 != 0) = false := bne_eq_false_iff_eq.mpr c34
          clear c34
          have H' := Aside0.mk H
          clear H
          have hcz35_0 : wc.cell? ⟨gb216, 0, none⟩ = some (.int .i64 a0_0) := (blk_cell BK216.out 0).trans rfl
          have hcz35_1 : wc.cell? ⟨gb216, 1, none⟩ = some (.int .i64 a0_1) := (blk_cell BK216.out 1).trans rfl
          have hcz35_2 : wc.cell? ⟨gb216, 2, none⟩ = some (.string a0_2) := (blk_cell BK216.out 2).trans rfl
          have hcz35_3 : wc.cell? ⟨gb216, 3, none⟩ = some (.bool a0_3) := (blk_cell BK216.out 3).trans rfl
          have hcz35_4 : wc.cell? ⟨gb216, 4, none⟩ = some (.int .i64 a0_4) := (blk_cell BK216.out 4).trans rfl
          have hcz35_5 : wc.cell? ⟨gb216, 5, none⟩ = some (.slice A0_5 l0_5.length c0_5) := (blk_cell BK216.out 5).trans rfl
          have hcz35_6 : wc.cell? ⟨gb216, 6, none⟩ = some (.slice A0_6 l0_6.length c0_6) := (blk_cell BK216.out 6).trans rfl
          have hfz35_0 := blk_frozen BK216.out 0
          have hfz35_1 := blk_frozen BK216.out 1
          have hfz35_2 := blk_frozen BK216.out 2
          have hfz35_3 := blk_frozen BK216.out 3
          have hfz35_4 := blk_frozen BK216.out 4
          have hfz35_5 := blk_frozen BK216.out 5
          have hfz35_6 := blk_frozen BK216.out 6
          go_wp2_with (first | ((with_reducible refine gate_callee (f := 47) rfl ?_); refine goesL_ (some 56) rfl rfl Try.func47 (by kernel_rfl) rfl #[.int .i64 a0_0, .int .i64 5, .int .i64 15] rfl (by (try simp only [List.map_toArray, List.map_cons, List.map_nil]); first | done | rfl | (simp only [List.length_drop, List.length_take]; rfl)) ?_; (with_reducible refine (spec_l1In.calls a0_0 5 15 true _ A31.out).mono ?_); rintro e w' ⟨rfl, ⟨nd, rfl⟩⟩; refine ⟨_, rfl, ?_⟩))
          go_meet
          case rel => exact ⟨_, (1), (false), ((a0_2.toList == ([] : List UInt8))), (by first | rfl | (simp; done) | (simp [*]; done)), (by first | rfl | (simp; done) | (simp [*]; done)), (by first | rfl | (simp; done) | (simp [*]; done)), H', ⟨by have := HJ13.out; first | omega | exact Nat.le_refl _⟩, ⟨by (with_reducible repeat (first | refine Fn_ ?_ _ | refine Fd_ ?_ | refine Fa_ ?_ _)); exact BK216.out⟩, ⟨by repeat (first | (with_reducible first | exact HB.out | apply Ba_ | apply Bw_ | apply Bd_ | refine below_set ?_ GE216.out) | exact HB.out)⟩⟩
         ·rw [if_neg c34] at H
          have c34b0 : (a0_1 == 0) = false := beq_eq_false_iff_ne.mpr c34
          have c34b1 : (a0_1 != 0) = true := bne_iff_ne.mpr c34
          have H' := Aside0.mk H
          clear H
          have hcz36_0 : wc.cell? ⟨gb216, 0, none⟩ = some (.int .i64 a0_0) := (blk_cell BK216.out 0).trans rfl
          have hcz36_1 : wc.cell? ⟨gb216, 1, none⟩ = some (.int .i64 a0_1) := (blk_cell BK216.out 1).trans rfl
          have hcz36_2 : wc.cell? ⟨gb216, 2, none⟩ = some (.string a0_2) := (blk_cell BK216.out 2).trans rfl
          have hcz36_3 : wc.cell? ⟨gb216, 3, none⟩ = some (.bool a0_3) := (blk_cell BK216.out 3).trans rfl
          have hcz36_4 : wc.cell? ⟨gb216, 4, none⟩ = some (.int .i64 a0_4) := (blk_cell BK216.out 4).trans rfl
          have hcz36_5 : wc.cell? ⟨gb216, 5, none⟩ = some (.slice A0_5 l0_5.length c0_5) := (blk_cell BK216.out 5).trans rfl
          have hcz36_6 : wc.cell? ⟨gb216, 6, none⟩ = some (.slice A0_6 l0_6.length c0_6) := (blk_cell BK216.out 6).trans rfl
          have hfz36_0 := blk_frozen BK216.out 0
          have hfz36_1 := blk_frozen BK216.out 1
          have hfz36_2 := blk_frozen BK216.out 2
          have hfz36_3 := blk_frozen BK216.out 3
          have hfz36_4 := blk_frozen BK216.out 4
          have hfz36_5 := blk_frozen BK216.out 5
          have hfz36_6 := blk_frozen BK216.out 6
          go_wp2_with (first | ((with_reducible refine gate_callee (f := 47) rfl ?_); refine goesL_ (some 56) rfl rfl Try.func47 (by kernel_rfl) rfl #[.int .i64 a0_0, .int .i64 5, .int .i64 15] rfl (by (try simp only [List.map_toArray, List.map_cons, List.map_nil]); first | done | rfl | (simp only [List.length_drop, List.length_take]; rfl)) ?_; (with_reducible refine (spec_l1In.calls a0_0 5 15 true _ A31.out).mono ?_); rintro e w' ⟨rfl, ⟨nd, rfl⟩⟩; refine ⟨_, rfl, ?_⟩))
          go_meet
          case rel => exact ⟨_, (1), (false), (false), (by first | rfl | (simp; done) | (simp [*]; done)), (by first | rfl | (simp; done) | (simp [*]; done)), (by first | rfl | (simp; done) | (simp [*]; done)), H', ⟨by have := HJ13.out; first | omega | exact Nat.le_refl _⟩, ⟨by (with_reducible repeat (first | refine Fn_ ?_ _ | refine Fd_ ?_ | refine Fa_ ?_ _)); exact BK216.out⟩, ⟨by repeat (first | (with_reducible first | exact HB.out | apply Ba_ | apply Bw_ | apply Bd_ | refine below_set ?_ GE216.out) | exact HB.out)⟩⟩
        ·rw [if_neg c33] at H
         have c33b0 : (a0_0 == 5) = false := beq_eq_false_iff_ne.mpr c33
         have c33b1 : (a0_0 != 5) = true := bne_iff_ne.mpr c33
         by_cases c37 : a0_1 = 0
         ·rw [if_pos c37] at H
          have c37b0 : (a0_1 == 0) = true := beq_iff_eq.mpr c37
          have c37b1 : (a0_1 != 0) = false := bne_eq_false_iff_eq.mpr c37
          clear c37
          have H' := Aside0.mk H
          clear H
          have hcz38_0 : wc.cell? ⟨gb216, 0, none⟩ = some (.int .i64 a0_0) := (blk_cell BK216.out 0).trans rfl
          have hcz38_1 : wc.cell? ⟨gb216, 1, none⟩ = some (.int .i64 a0_1) := (blk_cell BK216.out 1).trans rfl
          have hcz38_2 : wc.cell? ⟨gb216, 2, none⟩ = some (.string a0_2) := (blk_cell BK216.out 2).trans rfl
          have hcz38_3 : wc.cell? ⟨gb216, 3, none⟩ = some (.bool a0_3) := (blk_cell BK216.out 3).trans rfl
          have hcz38_4 : wc.cell? ⟨gb216, 4, none⟩ = some (.int .i64 a0_4) := (blk_cell BK216.out 4).trans rfl
          have hcz38_5 : wc.cell? ⟨gb216, 5, none⟩ = some (.slice A0_5 l0_5.length c0_5) := (blk_cell BK216.out 5).trans rfl
          have hcz38_6 : wc.cell? ⟨gb216, 6, none⟩ = some (.slice A0_6 l0_6.length c0_6) := (blk_cell BK216.out 6).trans rfl
          have hfz38_0 := blk_frozen BK216.out 0
          have hfz38_1 := blk_frozen BK216.out 1
          have hfz38_2 := blk_frozen BK216.out 2
          have hfz38_3 := blk_frozen BK216.out 3
          have hfz38_4 := blk_frozen BK216.out 4
          have hfz38_5 := blk_frozen BK216.out 5
          have hfz38_6 := blk_frozen BK216.out 6
          go_wp2_with (first | ((with_reducible refine gate_callee (f := 47) rfl ?_); refine goesL_ (some 56) rfl rfl Try.func47 (by kernel_rfl) rfl #[.int .i64 a0_0, .int .i64 5, .int .i64 15] rfl (by (try simp only [List.map_toArray, List.map_cons, List.map_nil]); first | done | rfl | (simp only [List.length_drop, List.length_take]; rfl)) ?_; (with_reducible refine (spec_l1In.calls a0_0 5 15 true _ A31.out).mono ?_); rintro e w' ⟨rfl, ⟨nd, rfl⟩⟩; refine ⟨_, rfl, ?_⟩))
          go_meet
          case rel => exact ⟨_, (2), (false), ((a0_2.toList == ([] : List UInt8))), (by first | rfl | (simp; done) | (simp [*]; done)), (by first | rfl | (simp; done) | (simp [*]; done)), (by first | rfl | (simp; done) | (simp [*]; done)), H', ⟨by have := HJ13.out; first | omega | exact Nat.le_refl _⟩, ⟨by (with_reducible repeat (first | refine Fn_ ?_ _ | refine Fd_ ?_ | refine Fa_ ?_ _)); exact BK216.out⟩, ⟨by repeat (first | (with_reducible first | exact HB.out | apply Ba_ | apply Bw_ | apply Bd_ | refine below_set ?_ GE216.out) | exact HB.out)⟩⟩
         ·rw [if_neg c37] at H
          have c37b0 : (a0_1 == 0) = false := beq_eq_false_iff_ne.mpr c37
          have c37b1 : (a0_1 != 0) = true := bne_iff_ne.mpr c37
          have H' := Aside0.mk H
          clear H
          have hcz39_0 : wc.cell? ⟨gb216, 0, none⟩ = some (.int .i64 a0_0) := (blk_cell BK216.out 0).trans rfl
          have hcz39_1 : wc.cell? ⟨gb216, 1, none⟩ = some (.int .i64 a0_1) := (blk_cell BK216.out 1).trans rfl
          have hcz39_2 : wc.cell? ⟨gb216, 2, none⟩ = some (.string a0_2) := (blk_cell BK216.out 2).trans rfl
          have hcz39_3 : wc.cell? ⟨gb216, 3, none⟩ = some (.bool a0_3) := (blk_cell BK216.out 3).trans rfl
          have hcz39_4 : wc.cell? ⟨gb216, 4, none⟩ = some (.int .i64 a0_4) := (blk_cell BK216.out 4).trans rfl
          have hcz39_5 : wc.cell? ⟨gb216, 5, none⟩ = some (.slice A0_5 l0_5.length c0_5) := (blk_cell BK216.out 5).trans rfl
          have hcz39_6 : wc.cell? ⟨gb216, 6, none⟩ = some (.slice A0_6 l0_6.length c0_6) := (blk_cell BK216.out 6).trans rfl
          have hfz39_0 := blk_frozen BK216.out 0
          have hfz39_1 := blk_frozen BK216.out 1
          have hfz39_2 := blk_frozen BK216.out 2
          have hfz39_3 := blk_frozen BK216.out 3
          have hfz39_4 := blk_frozen BK216.out 4
          have hfz39_5 := blk_frozen BK216.out 5
          have hfz39_6 := blk_frozen BK216.out 6
          go_wp2_with (first | ((with_reducible refine gate_callee (f := 47) rfl ?_); refine goesL_ (some 56) rfl rfl Try.func47 (by kernel_rfl) rfl #[.int .i64 a0_0, .int .i64 5, .int .i64 15] rfl (by (try simp only [List.map_toArray, List.map_cons, List.map_nil]); first | done | rfl | (simp only [List.length_drop, List.length_take]; rfl)) ?_; (with_reducible refine (spec_l1In.calls a0_0 5 15 true _ A31.out).mono ?_); rintro e w' ⟨rfl, ⟨nd, rfl⟩⟩; refine ⟨_, rfl, ?_⟩))
          go_meet
          case rel => exact ⟨_, (2), (false), (false), (by first | rfl | (simp; done) | (simp [*]; done)), (by first | rfl | (simp; done) | (simp [*]; done)), (by first | rfl | (simp; done) | (simp [*]; done)), H', ⟨by have := HJ13.out; first | omega | exact Nat.le_refl _⟩, ⟨by (with_reducible repeat (first | refine Fn_ ?_ _ | refine Fd_ ?_ | refine Fa_ ?_ _)); exact BK216.out⟩, ⟨by repeat (first | (with_reducible first | exact HB.out | apply Ba_ | apply Bw_ | apply Bd_ | refine below_set ?_ GE216.out) | exact HB.out)⟩⟩
       ·replace c32 := Bool.eq_false_iff.mpr c32
        subst c32
        have H1 : (some false) = some r := by rw [if_neg (show ¬ (false = true) by decide)] at H; exact H
        clear H
        have H := H1
        clear H1
        obtain rfl := Option.some.inj H
        have hcz40_0 : wc.cell? ⟨gb216, 0, none⟩ = some (.int .i64 a0_0) := (blk_cell BK216.out 0).trans rfl
        have hcz40_1 : wc.cell? ⟨gb216, 1, none⟩ = some (.int .i64 a0_1) := (blk_cell BK216.out 1).trans rfl
        have hcz40_2 : wc.cell? ⟨gb216, 2, none⟩ = some (.string a0_2) := (blk_cell BK216.out 2).trans rfl
        have hcz40_3 : wc.cell? ⟨gb216, 3, none⟩ = some (.bool a0_3) := (blk_cell BK216.out 3).trans rfl
        have hcz40_4 : wc.cell? ⟨gb216, 4, none⟩ = some (.int .i64 a0_4) := (blk_cell BK216.out 4).trans rfl
        have hcz40_5 : wc.cell? ⟨gb216, 5, none⟩ = some (.slice A0_5 l0_5.length c0_5) := (blk_cell BK216.out 5).trans rfl
        have hcz40_6 : wc.cell? ⟨gb216, 6, none⟩ = some (.slice A0_6 l0_6.length c0_6) := (blk_cell BK216.out 6).trans rfl
        have hfz40_0 := blk_frozen BK216.out 0
        have hfz40_1 := blk_frozen BK216.out 1
        have hfz40_2 := blk_frozen BK216.out 2
        have hfz40_3 := blk_frozen BK216.out 3
        have hfz40_4 := blk_frozen BK216.out 4
        have hfz40_5 := blk_frozen BK216.out 5
        have hfz40_6 := blk_frozen BK216.out 6
        go_wp2_with (first | ((with_reducible refine gate_callee (f := 47) rfl ?_); refine goesL_ (some 56) rfl rfl Try.func47 (by kernel_rfl) rfl #[.int .i64 a0_0, .int .i64 5, .int .i64 15] rfl (by (try simp only [List.map_toArray, List.map_cons, List.map_nil]); first | done | rfl | (simp only [List.length_drop, List.length_take]; rfl)) ?_; (with_reducible refine (spec_l1In.calls a0_0 5 15 false _ A31.out).mono ?_); rintro e w' ⟨rfl, ⟨nd, rfl⟩⟩; refine ⟨_, rfl, ?_⟩))
        go_ret
        exact ⟨by first | rfl | (simp [errW_none, errW_some] <;> rfl) | (simp [*, errW_none, errW_some] <;> rfl) | (simp [isEmpty_ne_]; done) | (simp [*, isEmpty_ne_]; done), by repeat (first | (with_reducible first | exact HB.out | apply Ba_ | apply Bw_ | apply Bd_ | refine below_set ?_ GE216.out) | exact HB.out)⟩
 case rest =>
  clear HC2
  try clear c1
  try clear c2
  try clear p2
  try clear c3
  try clear c4
  try clear c4b0
  try clear c4b1
  try clear c6
  try clear c7
  try clear c9
  try clear c9b0
  try clear c9b1
  try clear c11
  try clear c16
  try clear c16b0
  try clear c16b1
  try clear c19
  try clear c21
  try clear c22
  try clear c22b0
  try clear c22b1
  try clear c32
  try clear c33
  try clear c33b0
  try clear c33b1
  try clear c34
  try clear c34b0
  try clear c34b1
  try clear c37
  try clear c37b0
  try clear c37b1
  try clear hcz12_0
  try clear hcz12_1
  try clear hcz12_2
  try clear hcz12_3
  try clear hcz12_4
  try clear hcz12_5
  try clear hcz12_6
  try clear hcz13_0
  try clear hcz13_1
  try clear hcz13_2
  try clear hcz13_3
  try clear hcz13_4
  try clear hcz13_5
  try clear hcz13_6
  try clear hcz15_0
  try clear hcz15_1
  try clear hcz15_2
  try clear hcz15_3
  try clear hcz15_4
  try clear hcz15_5
  try clear hcz15_6
  try clear hcz17_0
  try clear hcz17_1
  try clear hcz17_2
  try clear hcz17_3
  try clear hcz17_4
  try clear hcz17_5
  try clear hcz17_6
  try clear hcz18_0
  try clear hcz18_1
  try clear hcz18_2
  try clear hcz18_3
  try clear hcz18_4
  try clear hcz18_5
  try clear hcz18_6
  try clear hcz23_0
  try clear hcz23_1
  try clear hcz23_2
  try clear hcz23_3
  try clear hcz23_4
  try clear hcz23_5
  try clear hcz23_6
  try clear hcz25_0
  try clear hcz25_1
  try clear hcz25_2
  try clear hcz25_3
  try clear hcz25_4
  try clear hcz25_5
  try clear hcz25_6
  try clear hcz26_0
  try clear hcz26_1
  try clear hcz26_2
  try clear hcz26_3
  try clear hcz26_4
  try clear hcz26_5
  try clear hcz26_6
  try clear hcz28_0
  try clear hcz28_1
  try clear hcz28_2
  try clear hcz28_3
  try clear hcz28_4
  try clear hcz28_5
  try clear hcz28_6
  try clear hcz29_0
  try clear hcz29_1
  try clear hcz29_2
  try clear hcz29_3
  try clear hcz29_4
  try clear hcz29_5
  try clear hcz29_6
  try clear hcz35_0
  try clear hcz35_1
  try clear hcz35_2
  try clear hcz35_3
  try clear hcz35_4
  try clear hcz35_5
  try clear hcz35_6
  try clear hcz36_0
  try clear hcz36_1
  try clear hcz36_2
  try clear hcz36_3
  try clear hcz36_4
  try clear hcz36_5
  try clear hcz36_6
  try clear hcz38_0
  try clear hcz38_1
  try clear hcz38_2
  try clear hcz38_3
  try clear hcz38_4
  try clear hcz38_5
  try clear hcz38_6
  try clear hcz39_0
  try clear hcz39_1
  try clear hcz39_2
  try clear hcz39_3
  try clear hcz39_4
  try clear hcz39_5
  try clear hcz39_6
  try clear hcz40_0
  try clear hcz40_1
  try clear hcz40_2
  try clear hcz40_3
  try clear hcz40_4
  try clear hcz40_5
  try clear hcz40_6
  try clear hcz7_0
  try clear hcz7_1
  try clear hcz7_2
  try clear hcz7_3
  try clear hcz7_4
  try clear hcz7_5
  try clear hcz7_6
  try clear hcz8_0
  try clear hcz8_1
  try clear hcz8_2
  try clear hcz8_3
  try clear hcz8_4
  try clear hcz8_5
  try clear hcz8_6
  try clear hfz12_0
  try clear hfz12_1
  try clear hfz12_2
  try clear hfz12_3
  try clear hfz12_4
  try clear hfz12_5
  try clear hfz12_6
  try clear hfz13_0
  try clear hfz13_1
  try clear hfz13_2
  try clear hfz13_3
  try clear hfz13_4
  try clear hfz13_5
  try clear hfz13_6
  try clear hfz15_0
  try clear hfz15_1
  try clear hfz15_2
  try clear hfz15_3
  try clear hfz15_4
  try clear hfz15_5
  try clear hfz15_6
  try clear hfz17_0
  try clear hfz17_1
  try clear hfz17_2
  try clear hfz17_3
  try clear hfz17_4
  try clear hfz17_5
  try clear hfz17_6
  try clear hfz18_0
  try clear hfz18_1
  try clear hfz18_2
  try clear hfz18_3
  try clear hfz18_4
  try clear hfz18_5
  try clear hfz18_6
  try clear hfz23_0
  try clear hfz23_1
  try clear hfz23_2
  try clear hfz23_3
  try clear hfz23_4
  try clear hfz23_5
  try clear hfz23_6
  try clear hfz25_0
  try clear hfz25_1
  try clear hfz25_2
  try clear hfz25_3
  try clear hfz25_4
  try clear hfz25_5
  try clear hfz25_6
  try clear hfz26_0
  try clear hfz26_1
  try clear hfz26_2
  try clear hfz26_3
  try clear hfz26_4
  try clear hfz26_5
  try clear hfz26_6
  try clear hfz28_0
  try clear hfz28_1
  try clear hfz28_2
  try clear hfz28_3
  try clear hfz28_4
  try clear hfz28_5
  try clear hfz28_6
  try clear hfz29_0
  try clear hfz29_1
  try clear hfz29_2
  try clear hfz29_3
  try clear hfz29_4
  try clear hfz29_5
  try clear hfz29_6
  try clear hfz35_0
  try clear hfz35_1
  try clear hfz35_2
  try clear hfz35_3
  try clear hfz35_4
  try clear hfz35_5
  try clear hfz35_6
  try clear hfz36_0
  try clear hfz36_1
  try clear hfz36_2
  try clear hfz36_3
  try clear hfz36_4
  try clear hfz36_5
  try clear hfz36_6
  try clear hfz38_0
  try clear hfz38_1
  try clear hfz38_2
  try clear hfz38_3
  try clear hfz38_4
  try clear hfz38_5
  try clear hfz38_6
  try clear hfz39_0
  try clear hfz39_1
  try clear hfz39_2
  try clear hfz39_3
  try clear hfz39_4
  try clear hfz39_5
  try clear hfz39_6
  try clear hfz40_0
  try clear hfz40_1
  try clear hfz40_2
  try clear hfz40_3
  try clear hfz40_4
  try clear hfz40_5
  try clear hfz40_6
  try clear hfz7_0
  try clear hfz7_1
  try clear hfz7_2
  try clear hfz7_3
  try clear hfz7_4
  try clear hfz7_5
  try clear hfz7_6
  try clear hfz8_0
  try clear hfz8_1
  try clear hfz8_2
  try clear hfz8_3
  try clear hfz8_4
  try clear hfz8_5
  try clear hfz8_6
  try clear p2
  obtain ⟨kq, x3_1, x4_1, x5_1, rfl, rfl, rfl, HA, HJ1, BK216, HB⟩ := hcut
  cases kq with
  | zero => exact absurd HA.out (by simp [spec_l8Valid.j1])
  | succ kj1 =>
   have H := HA.out
   clear HA
   simp only [spec_l8Valid.j1] at H
   have HC41 := Aside0.mk H
   clear H
   go_upto_region 17 with (fail)
   go_cut [86] (fun v86 wc => ∃ (kq : Nat) (x86_40 : Bool), v86 = .bool x86_40 ∧ Aside0 (spec_l8Valid.j2 kq x3_1 x86_40 a0_0 a0_1 a0_2 a0_3 a0_4 l0_5 l0_6 = some r) ∧ Aside0 (kq ≤ kj1) ∧ Aside0 (wc.heap[gb216]? = some (.cells #[.int .i64 a0_0, .int .i64 a0_1, .string a0_2, .bool a0_3, .int .i64 a0_4, (.slice A0_5 l0_5.length c0_5), (.slice A0_6 l0_6.length c0_6)] 54 (0, 0))) ∧ Aside0 (Below w.heap.size w wc))
   case first =>
    have H := HC41.out
    clear HC41
    by_cases c42 : x5_1 = true
    ·subst c42
     have H1 : (if (l0_6.length : Int) = x3_1 then (if x4_1 = true then (spec_l8Valid.j2 kj1 x3_1 false a0_0 a0_1 a0_2 a0_3 a0_4 l0_5 l0_6) else ((spec_l8Plain.f a0_3 a0_4 l0_5).bind fun t221 => (spec_l8Valid.j2 kj1 x3_1 (!t221) a0_0 a0_1 a0_2 a0_3 a0_4 l0_5 l0_6))) else (spec_l8Valid.j2 kj1 x3_1 true a0_0 a0_1 a0_2 a0_3 a0_4 l0_5 l0_6)) = some r := by rw [if_pos rfl] at H; exact H
     clear H
     have H := H1
     clear H1
     by_cases c43 : (l0_6.length : Int) = x3_1
     ·rw [if_pos c43] at H
      have c43b0 : ((l0_6.length : Int) == x3_1) = true := beq_iff_eq.mpr c43
      have c43b1 : ((l0_6.length : Int) != x3_1) = false := bne_eq_false_iff_eq.mpr c43
      clear c43
      (first | rw [c43b0] | (simp only [i64_w, i32_w]; rw [c43b0]) | skip)
      by_cases c44 : x4_1 = true
      ·subst c44
       have H1 : (spec_l8Valid.j2 kj1 x3_1 false a0_0 a0_1 a0_2 a0_3 a0_4 l0_5 l0_6) = some r := by rw [if_pos rfl] at H; exact H
       clear H
       have H := H1
       clear H1
       have H' := Aside0.mk H
       clear H
       have hcz45_0 : wc.cell? ⟨gb216, 0, none⟩ = some (.int .i64 a0_0) := (blk_cell BK216.out 0).trans rfl
       have hcz45_1 : wc.cell? ⟨gb216, 1, none⟩ = some (.int .i64 a0_1) := (blk_cell BK216.out 1).trans rfl
       have hcz45_2 : wc.cell? ⟨gb216, 2, none⟩ = some (.string a0_2) := (blk_cell BK216.out 2).trans rfl
       have hcz45_3 : wc.cell? ⟨gb216, 3, none⟩ = some (.bool a0_3) := (blk_cell BK216.out 3).trans rfl
       have hcz45_4 : wc.cell? ⟨gb216, 4, none⟩ = some (.int .i64 a0_4) := (blk_cell BK216.out 4).trans rfl
       have hcz45_5 : wc.cell? ⟨gb216, 5, none⟩ = some (.slice A0_5 l0_5.length c0_5) := (blk_cell BK216.out 5).trans rfl
       have hcz45_6 : wc.cell? ⟨gb216, 6, none⟩ = some (.slice A0_6 l0_6.length c0_6) := (blk_cell BK216.out 6).trans rfl
       have hfz45_0 := blk_frozen BK216.out 0
       have hfz45_1 := blk_frozen BK216.out 1
       have hfz45_2 := blk_frozen BK216.out 2
       have hfz45_3 := blk_frozen BK216.out 3
       have hfz45_4 := blk_frozen BK216.out 4
       have hfz45_5 := blk_frozen BK216.out 5
       have hfz45_6 := blk_frozen BK216.out 6
       go_wp2
       go_meet
       case rel => exact ⟨_, (false), (by first | rfl | (simp; done) | (simp [*]; done)), H', ⟨by have := HJ1.out; first | omega | exact Nat.le_refl _⟩, ⟨by (with_reducible repeat (first | refine Fn_ ?_ _ | refine Fd_ ?_ | refine Fa_ ?_ _)); exact BK216.out⟩, ⟨by repeat (first | (with_reducible first | exact HB.out | apply Ba_ | apply Bw_ | apply Bd_ | refine below_set ?_ GE216.out) | exact HB.out)⟩⟩
      ·replace c44 := Bool.eq_false_iff.mpr c44
       subst c44
       have H1 : ((spec_l8Plain.f a0_3 a0_4 l0_5).bind fun t221 => (spec_l8Valid.j2 kj1 x3_1 (!t221) a0_0 a0_1 a0_2 a0_3 a0_4 l0_5 l0_6)) = some r := by rw [if_neg (show ¬ (false = true) by decide)] at H; exact H
       clear H
       have H := H1
       clear H1
       replace H := Option.bind_eq_some_iff.mp H
       obtain ⟨t221, A460, H⟩ := H
       replace H : (spec_l8Valid.j2 kj1 x3_1 (!t221) a0_0 a0_1 a0_2 a0_3 a0_4 l0_5 l0_6) = some r := H
       have A46 := Aside0.mk A460
       clear A460
       have H' := Aside0.mk H
       clear H
       have hcz47_0 : wc.cell? ⟨gb216, 0, none⟩ = some (.int .i64 a0_0) := (blk_cell BK216.out 0).trans rfl
       have hcz47_1 : wc.cell? ⟨gb216, 1, none⟩ = some (.int .i64 a0_1) := (blk_cell BK216.out 1).trans rfl
       have hcz47_2 : wc.cell? ⟨gb216, 2, none⟩ = some (.string a0_2) := (blk_cell BK216.out 2).trans rfl
       have hcz47_3 : wc.cell? ⟨gb216, 3, none⟩ = some (.bool a0_3) := (blk_cell BK216.out 3).trans rfl
       have hcz47_4 : wc.cell? ⟨gb216, 4, none⟩ = some (.int .i64 a0_4) := (blk_cell BK216.out 4).trans rfl
       have hcz47_5 : wc.cell? ⟨gb216, 5, none⟩ = some (.slice A0_5 l0_5.length c0_5) := (blk_cell BK216.out 5).trans rfl
       have hcz47_6 : wc.cell? ⟨gb216, 6, none⟩ = some (.slice A0_6 l0_6.length c0_6) := (blk_cell BK216.out 6).trans rfl
       have hfz47_0 := blk_frozen BK216.out 0
       have hfz47_1 := blk_frozen BK216.out 1
       have hfz47_2 := blk_frozen BK216.out 2
       have hfz47_3 := blk_frozen BK216.out 3
       have hfz47_4 := blk_frozen BK216.out 4
       have hfz47_5 := blk_frozen BK216.out 5
       have hfz47_6 := blk_frozen BK216.out 6
       go_wp2_with (first | (go_at_call 103; (with_reducible refine (spec_l8Plain.calls a0_3 a0_4 _ _ l0_5 t221 _ ?side1 ?side2 A46.out).mono ?_); (case side1 => repeat (first | exact (Kd.C_below HR0_5.out HB.out) | (with_reducible refine Ca_ ?_ _) | (with_reducible refine Cn_ ?_ _) | (with_reducible refine Cd_ ?_))); (case side2 => exact HC0_5.out); rintro e w48 ⟨rfl, hb⟩; have n0_ := Aside0.mk (blk_below (g := gb216) (o := .cells #[.int .i64 a0_0, .int .i64 a0_1, .string a0_2, .bool a0_3, .int .i64 a0_4, .slice A0_5 l0_5.length c0_5, .slice A0_6 l0_6.length c0_6] 54 (0, 0)) (by (with_reducible repeat (first | refine Fn_ ?_ _ | refine Fd_ ?_ | refine Fa_ ?_ _)); exact BK216.out) hb); have n1_ := Aside0.mk (below_step (by repeat (first | (with_reducible first | exact HB.out | apply Ba_ | apply Bw_ | apply Bd_ | refine below_set ?_ GE216.out) | exact HB.out)) hb); clear BK216; clear HB; have BK216 := n0_; have HB := n1_; clear n0_ n1_; (try clear hb); (try clear hb2); (try clear hk); (try clear hi)))
       go_meet
       case rel => exact ⟨_, (!t221), (by first | rfl | (simp; done) | (simp [*]; done)), H', ⟨by have := HJ1.out; first | omega | exact Nat.le_refl _⟩, ⟨by (with_reducible repeat (first | refine Fn_ ?_ _ | refine Fd_ ?_ | refine Fa_ ?_ _)); exact BK216.out⟩, ⟨by repeat (first | (with_reducible first | exact HB.out | apply Ba_ | apply Bw_ | apply Bd_ | refine below_set ?_ GE216.out) | exact HB.out)⟩⟩
     ·rw [if_neg c43] at H
      have c43b0 : ((l0_6.length : Int) == x3_1) = false := beq_eq_false_iff_ne.mpr c43
      have c43b1 : ((l0_6.length : Int) != x3_1) = true := bne_iff_ne.mpr c43
      (first | rw [c43b0] | (simp only [i64_w, i32_w]; rw [c43b0]) | skip)
      have H' := Aside0.mk H
      clear H
      have hcz49_0 : wc.cell? ⟨gb216, 0, none⟩ = some (.int .i64 a0_0) := (blk_cell BK216.out 0).trans rfl
      have hcz49_1 : wc.cell? ⟨gb216, 1, none⟩ = some (.int .i64 a0_1) := (blk_cell BK216.out 1).trans rfl
      have hcz49_2 : wc.cell? ⟨gb216, 2, none⟩ = some (.string a0_2) := (blk_cell BK216.out 2).trans rfl
      have hcz49_3 : wc.cell? ⟨gb216, 3, none⟩ = some (.bool a0_3) := (blk_cell BK216.out 3).trans rfl
      have hcz49_4 : wc.cell? ⟨gb216, 4, none⟩ = some (.int .i64 a0_4) := (blk_cell BK216.out 4).trans rfl
      have hcz49_5 : wc.cell? ⟨gb216, 5, none⟩ = some (.slice A0_5 l0_5.length c0_5) := (blk_cell BK216.out 5).trans rfl
      have hcz49_6 : wc.cell? ⟨gb216, 6, none⟩ = some (.slice A0_6 l0_6.length c0_6) := (blk_cell BK216.out 6).trans rfl
      have hfz49_0 := blk_frozen BK216.out 0
      have hfz49_1 := blk_frozen BK216.out 1
      have hfz49_2 := blk_frozen BK216.out 2
      have hfz49_3 := blk_frozen BK216.out 3
      have hfz49_4 := blk_frozen BK216.out 4
      have hfz49_5 := blk_frozen BK216.out 5
      have hfz49_6 := blk_frozen BK216.out 6
      go_wp2
      go_meet
      case rel => exact ⟨_, (true), (by first | rfl | (simp; done) | (simp [*]; done)), H', ⟨by have := HJ1.out; first | omega | exact Nat.le_refl _⟩, ⟨by (with_reducible repeat (first | refine Fn_ ?_ _ | refine Fd_ ?_ | refine Fa_ ?_ _)); exact BK216.out⟩, ⟨by repeat (first | (with_reducible first | exact HB.out | apply Ba_ | apply Bw_ | apply Bd_ | refine below_set ?_ GE216.out) | exact HB.out)⟩⟩
    ·replace c42 := Bool.eq_false_iff.mpr c42
     subst c42
     have H1 : (spec_l8Valid.j2 kj1 x3_1 true a0_0 a0_1 a0_2 a0_3 a0_4 l0_5 l0_6) = some r := by rw [if_neg (show ¬ (false = true) by decide)] at H; exact H
     clear H
     have H := H1
     clear H1
     have H' := Aside0.mk H
     clear H
     go_wp2
     go_meet
     case rel => exact ⟨_, (true), (by first | rfl | (simp; done) | (simp [*]; done)), H', ⟨by have := HJ1.out; first | omega | exact Nat.le_refl _⟩, ⟨by (with_reducible repeat (first | refine Fn_ ?_ _ | refine Fd_ ?_ | refine Fa_ ?_ _)); exact BK216.out⟩, ⟨by repeat (first | (with_reducible first | exact HB.out | apply Ba_ | apply Bw_ | apply Bd_ | refine below_set ?_ GE216.out) | exact HB.out)⟩⟩
   case rest =>
    clear HC41
    try clear c1
    try clear c2
    try clear p2
    try clear c3
    try clear c4
    try clear c4b0
    try clear c4b1
    try clear c6
    try clear c7
    try clear c9
    try clear c9b0
    try clear c9b1
    try clear c11
    try clear c16
    try clear c16b0
    try clear c16b1
    try clear c19
    try clear c21
    try clear c22
    try clear c22b0
    try clear c22b1
    try clear c32
    try clear c33
    try clear c33b0
    try clear c33b1
    try clear c34
    try clear c34b0
    try clear c34b1
    try clear c37
    try clear c37b0
    try clear c37b1
    try clear c42
    try clear c43
    try clear c43b0
    try clear c43b1
    try clear c44
    try clear c47
    try clear hcz12_0
    try clear hcz12_1
    try clear hcz12_2
    try clear hcz12_3
    try clear hcz12_4
    try clear hcz12_5
    try clear hcz12_6
    try clear hcz13_0
    try clear hcz13_1
    try clear hcz13_2
    try clear hcz13_3
    try clear hcz13_4
    try clear hcz13_5
    try clear hcz13_6
    try clear hcz15_0
    try clear hcz15_1
    try clear hcz15_2
    try clear hcz15_3
    try clear hcz15_4
    try clear hcz15_5
    try clear hcz15_6
    try clear hcz17_0
    try clear hcz17_1
    try clear hcz17_2
    try clear hcz17_3
    try clear hcz17_4
    try clear hcz17_5
    try clear hcz17_6
    try clear hcz18_0
    try clear hcz18_1
    try clear hcz18_2
    try clear hcz18_3
    try clear hcz18_4
    try clear hcz18_5
    try clear hcz18_6
    try clear hcz23_0
    try clear hcz23_1
    try clear hcz23_2
    try clear hcz23_3
    try clear hcz23_4
    try clear hcz23_5
    try clear hcz23_6
    try clear hcz25_0
    try clear hcz25_1
    try clear hcz25_2
    try clear hcz25_3
    try clear hcz25_4
    try clear hcz25_5
    try clear hcz25_6
    try clear hcz26_0
    try clear hcz26_1
    try clear hcz26_2
    try clear hcz26_3
    try clear hcz26_4
    try clear hcz26_5
    try clear hcz26_6
    try clear hcz28_0
    try clear hcz28_1
    try clear hcz28_2
    try clear hcz28_3
    try clear hcz28_4
    try clear hcz28_5
    try clear hcz28_6
    try clear hcz29_0
    try clear hcz29_1
    try clear hcz29_2
    try clear hcz29_3
    try clear hcz29_4
    try clear hcz29_5
    try clear hcz29_6
    try clear hcz35_0
    try clear hcz35_1
    try clear hcz35_2
    try clear hcz35_3
    try clear hcz35_4
    try clear hcz35_5
    try clear hcz35_6
    try clear hcz36_0
    try clear hcz36_1
    try clear hcz36_2
    try clear hcz36_3
    try clear hcz36_4
    try clear hcz36_5
    try clear hcz36_6
    try clear hcz38_0
    try clear hcz38_1
    try clear hcz38_2
    try clear hcz38_3
    try clear hcz38_4
    try clear hcz38_5
    try clear hcz38_6
    try clear hcz39_0
    try clear hcz39_1
    try clear hcz39_2
    try clear hcz39_3
    try clear hcz39_4
    try clear hcz39_5
    try clear hcz39_6
    try clear hcz40_0
    try clear hcz40_1
    try clear hcz40_2
    try clear hcz40_3
    try clear hcz40_4
    try clear hcz40_5
    try clear hcz40_6
    try clear hcz45_0
    try clear hcz45_1
    try clear hcz45_2
    try clear hcz45_3
    try clear hcz45_4
    try clear hcz45_5
    try clear hcz45_6
    try clear hcz47_0
    try clear hcz47_1
    try clear hcz47_2
    try clear hcz47_3
    try clear hcz47_4
    try clear hcz47_5
    try clear hcz47_6
    try clear hcz49_0
    try clear hcz49_1
    try clear hcz49_2
    try clear hcz49_3
    try clear hcz49_4
    try clear hcz49_5
    try clear hcz49_6
    try clear hcz7_0
    try clear hcz7_1
    try clear hcz7_2
    try clear hcz7_3
    try clear hcz7_4
    try clear hcz7_5
    try clear hcz7_6
    try clear hcz8_0
    try clear hcz8_1
    try clear hcz8_2
    try clear hcz8_3
    try clear hcz8_4
    try clear hcz8_5
    try clear hcz8_6
    try clear hfz12_0
    try clear hfz12_1
    try clear hfz12_2
    try clear hfz12_3
    try clear hfz12_4
    try clear hfz12_5
    try clear hfz12_6
    try clear hfz13_0
    try clear hfz13_1
    try clear hfz13_2
    try clear hfz13_3
    try clear hfz13_4
    try clear hfz13_5
    try clear hfz13_6
    try clear hfz15_0
    try clear hfz15_1
    try clear hfz15_2
    try clear hfz15_3
    try clear hfz15_4
    try clear hfz15_5
    try clear hfz15_6
    try clear hfz17_0
    try clear hfz17_1
    try clear hfz17_2
    try clear hfz17_3
    try clear hfz17_4
    try clear hfz17_5
    try clear hfz17_6
    try clear hfz18_0
    try clear hfz18_1
    try clear hfz18_2
    try clear hfz18_3
    try clear hfz18_4
    try clear hfz18_5
    try clear hfz18_6
    try clear hfz23_0
    try clear hfz23_1
    try clear hfz23_2
    try clear hfz23_3
    try clear hfz23_4
    try clear hfz23_5
    try clear hfz23_6
    try clear hfz25_0
    try clear hfz25_1
    try clear hfz25_2
    try clear hfz25_3
    try clear hfz25_4
    try clear hfz25_5
    try clear hfz25_6
    try clear hfz26_0
    try clear hfz26_1
    try clear hfz26_2
    try clear hfz26_3
    try clear hfz26_4
    try clear hfz26_5
    try clear hfz26_6
    try clear hfz28_0
    try clear hfz28_1
    try clear hfz28_2
    try clear hfz28_3
    try clear hfz28_4
    try clear hfz28_5
    try clear hfz28_6
    try clear hfz29_0
    try clear hfz29_1
    try clear hfz29_2
    try clear hfz29_3
    try clear hfz29_4
    try clear hfz29_5
    try clear hfz29_6
    try clear hfz35_0
    try clear hfz35_1
    try clear hfz35_2
    try clear hfz35_3
    try clear hfz35_4
    try clear hfz35_5
    try clear hfz35_6
    try clear hfz36_0
    try clear hfz36_1
    try clear hfz36_2
    try clear hfz36_3
    try clear hfz36_4
    try clear hfz36_5
    try clear hfz36_6
    try clear hfz38_0
    try clear hfz38_1
    try clear hfz38_2
    try clear hfz38_3
    try clear hfz38_4
    try clear hfz38_5
    try clear hfz38_6
    try clear hfz39_0
    try clear hfz39_1
    try clear hfz39_2
    try clear hfz39_3
    try clear hfz39_4
    try clear hfz39_5
    try clear hfz39_6
    try clear hfz40_0
    try clear hfz40_1
    try clear hfz40_2
    try clear hfz40_3
    try clear hfz40_4
    try clear hfz40_5
    try clear hfz40_6
    try clear hfz45_0
    try clear hfz45_1
    try clear hfz45_2
    try clear hfz45_3
    try clear hfz45_4
    try clear hfz45_5
    try clear hfz45_6
    try clear hfz47_0
    try clear hfz47_1
    try clear hfz47_2
    try clear hfz47_3
    try clear hfz47_4
    try clear hfz47_5
    try clear hfz47_6
    try clear hfz49_0
    try clear hfz49_1
    try clear hfz49_2
    try clear hfz49_3
    try clear hfz49_4
    try clear hfz49_5
    try clear hfz49_6
    try clear hfz7_0
    try clear hfz7_1
    try clear hfz7_2
    try clear hfz7_3
    try clear hfz7_4
    try clear hfz7_5
    try clear hfz7_6
    try clear hfz8_0
    try clear hfz8_1
    try clear hfz8_2
    try clear hfz8_3
    try clear hfz8_4
    try clear hfz8_5
    try clear hfz8_6
    try clear p2
    obtain ⟨kq, x86_40, rfl, HA, HJ40, BK216, HB⟩ := hcut
    cases kq with
    | zero => exact absurd HA.out (by simp [spec_l8Valid.j2])
    | succ kj40 =>
     have H := HA.out
     clear HA
     simp only [spec_l8Valid.j2] at H
     by_cases c50 : x86_40 = true
     ·subst c50
      have H1 : (some false) = some r := by rw [if_pos rfl] at H; exact H
      clear H
      have H := H1
      clear H1
      obtain rfl := Option.some.inj H
      go_wp2
      go_ret
      exact ⟨by first | rfl | (simp [errW_none, errW_some] <;> rfl) | (simp [*, errW_none, errW_some] <;> rfl) | (simp [isEmpty_ne_]; done) | (simp [*, isEmpty_ne_]; done), by repeat (first | (with_reducible first | exact HB.out | apply Ba_ | apply Bw_ | apply Bd_ | refine below_set ?_ GE216.out) | exact HB.out)⟩
     ·replace c50 := Bool.eq_false_iff.mpr c50
      subst c50
      have H1 : (spec_l8Valid.l0 kj40 x3_1 0 a0_0 a0_1 a0_2 a0_3 a0_4 l0_5 l0_6) = some r := by rw [if_neg (show ¬ (false = true) by decide)] at H; exact H
      clear H
      have H := H1
      clear H1
      have H' := Aside0.mk H
      clear H
      go_wp2
      go_loopg [6] kj40 (fun kq v6 w' => ∃ (x6_3 : Int), v6 = .int .i64 x6_3 ∧ Aside0 (spec_l8Valid.l0 kq x3_1 x6_3 a0_0 a0_1 a0_2 a0_3 a0_4 l0_5 l0_6 = some r) ∧ Aside0 (kq ≤ kj40) ∧ Aside0 (w'.heap[gb216]? = some (.cells #[.int .i64 a0_0, .int .i64 a0_1, .string a0_2, .bool a0_3, .int .i64 a0_4, (.slice A0_5 l0_5.length c0_5), (.slice A0_6 l0_6.length c0_6)] 54 (0, 0))) ∧ Aside0 (Below w.heap.size w w'))
      case atStart => exact ⟨(0), (by first | rfl | (simp; done) | (simp [*]; done)), H', ⟨Nat.le_refl _⟩, ⟨by (with_reducible repeat (first | refine Fn_ ?_ _ | refine Fd_ ?_ | refine Fa_ ?_ _)); exact BK216.out⟩, ⟨by repeat (first | (with_reducible first | exact HB.out | apply Ba_ | apply Bw_ | apply Bd_ | refine below_set ?_ GE216.out) | exact HB.out)⟩⟩
      case round =>
       clear H'
       try clear c1
       try clear c2
       try clear p2
       try clear c3
       try clear c4
       try clear c4b0
       try clear c4b1
       try clear c5
       try clear c6
       try clear c7
       try clear c9
       try clear c9b0
       try clear c9b1
       try clear c11
       try clear c16
       try clear c16b0
       try clear c16b1
       try clear c19
       try clear c21
       try clear c22
       try clear c22b0
       try clear c22b1
       try clear c32
       try clear c33
       try clear c33b0
       try clear c33b1
       try clear c34
       try clear c34b0
       try clear c34b1
       try clear c37
       try clear c37b0
       try clear c37b1
       try clear c42
       try clear c43
       try clear c43b0
       try clear c43b1
       try clear c44
       try clear c47
       try clear c50
       try clear hcz12_0
       try clear hcz12_1
       try clear hcz12_2
       try clear hcz12_3
       try clear hcz12_4
       try clear hcz12_5
       try clear hcz12_6
       try clear hcz13_0
       try clear hcz13_1
       try clear hcz13_2
       try clear hcz13_3
       try clear hcz13_4
       try clear hcz13_5
       try clear hcz13_6
       try clear hcz15_0
       try clear hcz15_1
       try clear hcz15_2
       try clear hcz15_3
       try clear hcz15_4
       try clear hcz15_5
       try clear hcz15_6
       try clear hcz17_0
       try clear hcz17_1
       try clear hcz17_2
       try clear hcz17_3
       try clear hcz17_4
       try clear hcz17_5
       try clear hcz17_6
       try clear hcz18_0
       try clear hcz18_1
       try clear hcz18_2
       try clear hcz18_3
       try clear hcz18_4
       try clear hcz18_5
       try clear hcz18_6
       try clear hcz23_0
       try clear hcz23_1
       try clear hcz23_2
       try clear hcz23_3
       try clear hcz23_4
       try clear hcz23_5
       try clear hcz23_6
       try clear hcz25_0
       try clear hcz25_1
       try clear hcz25_2
       try clear hcz25_3
       try clear hcz25_4
       try clear hcz25_5
       try clear hcz25_6
       try clear hcz26_0
       try clear hcz26_1
       try clear hcz26_2
       try clear hcz26_3
       try clear hcz26_4
       try clear hcz26_5
       try clear hcz26_6
       try clear hcz28_0
       try clear hcz28_1
       try clear hcz28_2
       try clear hcz28_3
       try clear hcz28_4
       try clear hcz28_5
       try clear hcz28_6
       try clear hcz29_0
       try clear hcz29_1
       try clear hcz29_2
       try clear hcz29_3
       try clear hcz29_4
       try clear hcz29_5
       try clear hcz29_6
       try clear hcz35_0
       try clear hcz35_1
       try clear hcz35_2
       try clear hcz35_3
       try clear hcz35_4
       try clear hcz35_5
       try clear hcz35_6
       try clear hcz36_0
       try clear hcz36_1
       try clear hcz36_2
       try clear hcz36_3
       try clear hcz36_4
       try clear hcz36_5
       try clear hcz36_6
       try clear hcz38_0
       try clear hcz38_1
       try clear hcz38_2
       try clear hcz38_3
       try clear hcz38_4
       try clear hcz38_5
       try clear hcz38_6
       try clear hcz39_0
       try clear hcz39_1
       try clear hcz39_2
       try clear hcz39_3
       try clear hcz39_4
       try clear hcz39_5
       try clear hcz39_6
       try clear hcz40_0
       try clear hcz40_1
       try clear hcz40_2
       try clear hcz40_3
       try clear hcz40_4
       try clear hcz40_5
       try clear hcz40_6
       try clear hcz45_0
       try clear hcz45_1
       try clear hcz45_2
       try clear hcz45_3
       try clear hcz45_4
       try clear hcz45_5
       try clear hcz45_6
       try clear hcz47_0
       try clear hcz47_1
       try clear hcz47_2
       try clear hcz47_3
       try clear hcz47_4
       try clear hcz47_5
       try clear hcz47_6
       try clear hcz49_0
       try clear hcz49_1
       try clear hcz49_2
       try clear hcz49_3
       try clear hcz49_4
       try clear hcz49_5
       try clear hcz49_6
       try clear hcz7_0
       try clear hcz7_1
       try clear hcz7_2
       try clear hcz7_3
       try clear hcz7_4
       try clear hcz7_5
       try clear hcz7_6
       try clear hcz8_0
       try clear hcz8_1
       try clear hcz8_2
       try clear hcz8_3
       try clear hcz8_4
       try clear hcz8_5
       try clear hcz8_6
       try clear hfz12_0
       try clear hfz12_1
       try clear hfz12_2
       try clear hfz12_3
       try clear hfz12_4
       try clear hfz12_5
       try clear hfz12_6
       try clear hfz13_0
       try clear hfz13_1
       try clear hfz13_2
       try clear hfz13_3
       try clear hfz13_4
       try clear hfz13_5
       try clear hfz13_6
       try clear hfz15_0
       try clear hfz15_1
       try clear hfz15_2
       try clear hfz15_3
       try clear hfz15_4
       try clear hfz15_5
       try clear hfz15_6
       try clear hfz17_0
       try clear hfz17_1
       try clear hfz17_2
       try clear hfz17_3
       try clear hfz17_4
       try clear hfz17_5
       try clear hfz17_6
       try clear hfz18_0
       try clear hfz18_1
       try clear hfz18_2
       try clear hfz18_3
       try clear hfz18_4
       try clear hfz18_5
       try clear hfz18_6
       try clear hfz23_0
       try clear hfz23_1
       try clear hfz23_2
       try clear hfz23_3
       try clear hfz23_4
       try clear hfz23_5
       try clear hfz23_6
       try clear hfz25_0
       try clear hfz25_1
       try clear hfz25_2
       try clear hfz25_3
       try clear hfz25_4
       try clear hfz25_5
       try clear hfz25_6
       try clear hfz26_0
       try clear hfz26_1
       try clear hfz26_2
       try clear hfz26_3
       try clear hfz26_4
       try clear hfz26_5
       try clear hfz26_6
       try clear hfz28_0
       try clear hfz28_1
       try clear hfz28_2
       try clear hfz28_3
       try clear hfz28_4
       try clear hfz28_5
       try clear hfz28_6
       try clear hfz29_0
       try clear hfz29_1
       try clear hfz29_2
       try clear hfz29_3
       try clear hfz29_4
       try clear hfz29_5
       try clear hfz29_6
       try clear hfz35_0
       try clear hfz35_1
       try clear hfz35_2
       try clear hfz35_3
       try clear hfz35_4
       try clear hfz35_5
       try clear hfz35_6
       try clear hfz36_0
       try clear hfz36_1
       try clear hfz36_2
       try clear hfz36_3
       try clear hfz36_4
       try clear hfz36_5
       try clear hfz36_6
       try clear hfz38_0
       try clear hfz38_1
       try clear hfz38_2
       try clear hfz38_3
       try clear hfz38_4
       try clear hfz38_5
       try clear hfz38_6
       try clear hfz39_0
       try clear hfz39_1
       try clear hfz39_2
       try clear hfz39_3
       try clear hfz39_4
       try clear hfz39_5
       try clear hfz39_6
       try clear hfz40_0
       try clear hfz40_1
       try clear hfz40_2
       try clear hfz40_3
       try clear hfz40_4
       try clear hfz40_5
       try clear hfz40_6
       try clear hfz45_0
       try clear hfz45_1
       try clear hfz45_2
       try clear hfz45_3
       try clear hfz45_4
       try clear hfz45_5
       try clear hfz45_6
       try clear hfz47_0
       try clear hfz47_1
       try clear hfz47_2
       try clear hfz47_3
       try clear hfz47_4
       try clear hfz47_5
       try clear hfz47_6
       try clear hfz49_0
       try clear hfz49_1
       try clear hfz49_2
       try clear hfz49_3
       try clear hfz49_4
       try clear hfz49_5
       try clear hfz49_6
       try clear hfz7_0
       try clear hfz7_1
       try clear hfz7_2
       try clear hfz7_3
       try clear hfz7_4
       try clear hfz7_5
       try clear hfz7_6
       try clear hfz8_0
       try clear hfz8_1
       try clear hfz8_2
       try clear hfz8_3
       try clear hfz8_4
       try clear hfz8_5
       try clear hfz8_6
       try clear p2
       obtain ⟨x6_3, rfl, HA, HK3, BK216, HB⟩ := hrel
       cases gk with
       | zero => exact absurd HA.out (by simp [spec_l8Valid.l0])
       | succ k3 =>
        have H := HA.out
        clear HA
        simp only [spec_l8Valid.l0] at H
        by_cases c51 : x6_3 < x3_1
        ·rw [if_pos c51] at H
         have c51b0 : decide (x6_3 < x3_1) = true := decide_eq_true c51
         clear c51
         by_cases c52 : 0 ≤ x6_3
         ·rw [if_pos c52] at H
          have c52b0 : decide (0 ≤ x6_3) = true := decide_eq_true c52
          clear c52
          by_cases c53 : x6_3 < (l0_6.length : Int)
          ·rw [if_pos c53] at H
           have c53b0 : decide (x6_3 < (l0_6.length : Int)) = true := decide_eq_true c53
           clear c53
           replace H := Option.bind_eq_some_iff.mp H
           obtain ⟨t223, A540, H⟩ := H
           replace H : (if t223 = true then (spec_l8Valid.l0 k3 x3_1 (wrap64 (x6_3 + 1)) a0_0 a0_1 a0_2 a0_3 a0_4 l0_5 l0_6) else (some false)) = some r := H
           have A54 := Aside0.mk A540
           clear A540
           by_cases c55 : t223 = true
           ·subst c55
            have H1 : (spec_l8Valid.l0 k3 x3_1 (wrap64 (x6_3 + 1)) a0_0 a0_1 a0_2 a0_3 a0_4 l0_5 l0_6) = some r := by rw [if_pos rfl] at H; exact H
            clear H
            have H := H1
            clear H1
            have H' := Aside0.mk H
            clear H
            have hcz56_0 : wr.cell? ⟨gb216, 0, none⟩ = some (.int .i64 a0_0) := (blk_cell BK216.out 0).trans rfl
            have hcz56_1 : wr.cell? ⟨gb216, 1, none⟩ = some (.int .i64 a0_1) := (blk_cell BK216.out 1).trans rfl
            have hcz56_2 : wr.cell? ⟨gb216, 2, none⟩ = some (.string a0_2) := (blk_cell BK216.out 2).trans rfl
            have hcz56_3 : wr.cell? ⟨gb216, 3, none⟩ = some (.bool a0_3) := (blk_cell BK216.out 3).trans rfl
            have hcz56_4 : wr.cell? ⟨gb216, 4, none⟩ = some (.int .i64 a0_4) := (blk_cell BK216.out 4).trans rfl
            have hcz56_5 : wr.cell? ⟨gb216, 5, none⟩ = some (.slice A0_5 l0_5.length c0_5) := (blk_cell BK216.out 5).trans rfl
            have hcz56_6 : wr.cell? ⟨gb216, 6, none⟩ = some (.slice A0_6 l0_6.length c0_6) := (blk_cell BK216.out 6).trans rfl
            have hfz56_0 := blk_frozen BK216.out 0
            have hfz56_1 := blk_frozen BK216.out 1
            have hfz56_2 := blk_frozen BK216.out 2
            have hfz56_3 := blk_frozen BK216.out 3
            have hfz56_4 := blk_frozen BK216.out 4
            have hfz56_5 := blk_frozen BK216.out 5
            have hfz56_6 := blk_frozen BK216.out 6
            have p222 : 0 ≤ (x6_3 : Int) := od_
            have q222 : x6_3 < (l0_6.length : Int) := od_
            obtain ⟨ad222, A222_5, c222_5, A222_6, c222_6, e222, hx222_0, hx222_1, hx222_2, hx222_3, hx222_4, hx222_5, hx222_6, hl222_5, hi222_5, hl222_6, hi222_6⟩ := at_T54 HR0_6.out x6_3 p222 q222
            cases e222
            replace hx222_0 := (HB.out.cell (World.block_lt_of_cell? w _ hx222_0)).trans hx222_0
            replace hx222_1 := (HB.out.cell (World.block_lt_of_cell? w _ hx222_1)).trans hx222_1
            replace hx222_2 := (HB.out.cell (World.block_lt_of_cell? w _ hx222_2)).trans hx222_2
            replace hx222_3 := (HB.out.cell (World.block_lt_of_cell? w _ hx222_3)).trans hx222_3
            replace hx222_4 := (HB.out.cell (World.block_lt_of_cell? w _ hx222_4)).trans hx222_4
            replace hx222_5 := (HB.out.cell (World.block_lt_of_cell? w _ hx222_5)).trans hx222_5
            replace hx222_6 := (HB.out.cell (World.block_lt_of_cell? w _ hx222_6)).trans hx222_6
            have HR222_5 := Aside0.mk hi222_5
            have HC222_5 := Aside0.mk hl222_5
            clear hi222_5 hl222_5
            have HR222_6 := Aside0.mk hi222_6
            have HC222_6 := Aside0.mk hl222_6
            clear hi222_6 hl222_6
            replace p222 := eq_true p222
            replace q222 := eq_true q222
            go_wp2_with (first | ((with_reducible refine gate_callee (f := 75) rfl ?_); refine goesL_ (some 97) rfl rfl Try.func75 (by kernel_rfl) rfl #[.agg #[.int .i64 ((rd_T54 l0_6 x6_3).f0), .int .i64 ((rd_T54 l0_6 x6_3).f1), .string ((rd_T54 l0_6 x6_3).f2), .bool ((rd_T54 l0_6 x6_3).f3.f0), .int .i64 ((rd_T54 l0_6 x6_3).f3.f1), .slice A222_5 ((rd_T54 l0_6 x6_3).f3.f2).length c222_5, .slice A222_6 ((rd_T54 l0_6 x6_3).f4).length c222_6]] rfl (by (try simp only [List.map_toArray, List.map_cons, List.map_nil]); first | done | rfl | (simp only [List.length_drop, List.length_take]; rfl)) ?_; (with_reducible refine (ih k3 (by have := HJ1.out; have := HJ40.out; have := HK3.out; omega) ((rd_T54 l0_6 x6_3).f0) ((rd_T54 l0_6 x6_3).f1) ((rd_T54 l0_6 x6_3).f2) ((rd_T54 l0_6 x6_3).f3.f0) ((rd_T54 l0_6 x6_3).f3.f1) _ _ ((rd_T54 l0_6 x6_3).f3.f2) _ _ ((rd_T54 l0_6 x6_3).f4) true _ ?side1 ?side2 ?side3 ?side4 A54.out).mono ?_); (case side1 => repeat (first | exact (Kd.C_below HR222_5.out HB.out) | (with_reducible refine Ca_ ?_ _) | (with_reducible refine Cn_ ?_ _) | (with_reducible refine Cd_ ?_))); (case side2 => exact HC222_5.out); (case side3 => repeat (first | exact (Kd.C_below HR222_6.out HB.out) | (with_reducible refine Ca_ ?_ _) | (with_reducible refine Cn_ ?_ _) | (with_reducible refine Cd_ ?_))); (case side4 => exact HC222_6.out); rintro e w57 ⟨rfl, hb⟩; refine ⟨_, rfl, ?_⟩; have n0_ := Aside0.mk (blk_below (g := gb216) (o := .cells #[.int .i64 a0_0, .int .i64 a0_1, .string a0_2, .bool a0_3, .int .i64 a0_4, .slice A0_5 l0_5.length c0_5, .slice (some ad222) l0_6.length c0_6] 54 (0, 0)) (by (with_reducible repeat (first | refine Fn_ ?_ _ | refine Fd_ ?_ | refine Fa_ ?_ _)); exact BK216.out) hb); have n1_ := Aside0.mk (below_step (by repeat (first | (with_reducible first | exact HB.out | apply Ba_ | apply Bw_ | apply Bd_ | refine below_set ?_ GE216.out) | exact HB.out)) hb); clear BK216; clear HB; have BK216 := n0_; have HB := n1_; clear n0_ n1_; (try clear hb); (try clear hb2); (try clear hk); (try clear hi)))
            go_roundg k3
            case measure => have := HJ1.out; have := HJ40.out; have := HK3.out; omega
            case rel => exact ⟨(wrap64 (x6_3 + 1)), (by first | rfl | (simp; done) | (simp [*]; done)), H', ⟨by have := HJ1.out; have := HJ40.out; have := HK3.out; omega⟩, ⟨by (with_reducible repeat (first | refine Fn_ ?_ _ | refine Fd_ ?_ | refine Fa_ ?_ _)); exact BK216.out⟩, ⟨by repeat (first | (with_reducible first | exact HB.out | apply Ba_ | apply Bw_ | apply Bd_ | refine below_set ?_ GE216.out) | exact HB.out)⟩⟩
           ·replace c55 := Bool.eq_false_iff.mpr c55
            subst c55
            have H1 : (some false) = some r := by rw [if_neg (show ¬ (false = true) by decide)] at H; exact H
            clear H
            have H := H1
            clear H1
            obtain rfl := Option.some.inj H
            have hcz58_0 : wr.cell? ⟨gb216, 0, none⟩ = some (.int .i64 a0_0) := (blk_cell BK216.out 0).trans rfl
            have hcz58_1 : wr.cell? ⟨gb216, 1, none⟩ = some (.int .i64 a0_1) := (blk_cell BK216.out 1).trans rfl
            have hcz58_2 : wr.cell? ⟨gb216, 2, none⟩ = some (.string a0_2) := (blk_cell BK216.out 2).trans rfl
            have hcz58_3 : wr.cell? ⟨gb216, 3, none⟩ = some (.bool a0_3) := (blk_cell BK216.out 3).trans rfl
            have hcz58_4 : wr.cell? ⟨gb216, 4, none⟩ = some (.int .i64 a0_4) := (blk_cell BK216.out 4).trans rfl
            have hcz58_5 : wr.cell? ⟨gb216, 5, none⟩ = some (.slice A0_5 l0_5.length c0_5) := (blk_cell BK216.out 5).trans rfl
            have hcz58_6 : wr.cell? ⟨gb216, 6, none⟩ = some (.slice A0_6 l0_6.length c0_6) := (blk_cell BK216.out 6).trans rfl
            have hfz58_0 := blk_frozen BK216.out 0
            have hfz58_1 := blk_frozen BK216.out 1
            have hfz58_2 := blk_frozen BK216.out 2
            have hfz58_3 := blk_frozen BK216.out 3
            have hfz58_4 := blk_frozen BK216.out 4
            have hfz58_5 := blk_frozen BK216.out 5
            have hfz58_6 := blk_frozen BK216.out 6
            have p222 : 0 ≤ (x6_3 : Int) := od_
            have q222 : x6_3 < (l0_6.length : Int) := od_
            obtain ⟨ad222, A222_5, c222_5, A222_6, c222_6, e222, hx222_0, hx222_1, hx222_2, hx222_3, hx222_4, hx222_5, hx222_6, hl222_5, hi222_5, hl222_6, hi222_6⟩ := at_T54 HR0_6.out x6_3 p222 q222
            cases e222
            replace hx222_0 := (HB.out.cell (World.block_lt_of_cell? w _ hx222_0)).trans hx222_0
            replace hx222_1 := (HB.out.cell (World.block_lt_of_cell? w _ hx222_1)).trans hx222_1
            replace hx222_2 := (HB.out.cell (World.block_lt_of_cell? w _ hx222_2)).trans hx222_2
            replace hx222_3 := (HB.out.cell (World.block_lt_of_cell? w _ hx222_3)).trans hx222_3
            replace hx222_4 := (HB.out.cell (World.block_lt_of_cell? w _ hx222_4)).trans hx222_4
            replace hx222_5 := (HB.out.cell (World.block_lt_of_cell? w _ hx222_5)).trans hx222_5
            replace hx222_6 := (HB.out.cell (World.block_lt_of_cell? w _ hx222_6)).trans hx222_6
            have HR222_5 := Aside0.mk hi222_5
            have HC222_5 := Aside0.mk hl222_5
            clear hi222_5 hl222_5
            have HR222_6 := Aside0.mk hi222_6
            have HC222_6 := Aside0.mk hl222_6
            clear hi222_6 hl222_6
            replace p222 := eq_true p222
            replace q222 := eq_true q222
            go_wp2_with (first | ((with_reducible refine gate_callee (f := 75) rfl ?_); refine goesL_ (some 97) rfl rfl Try.func75 (by kernel_rfl) rfl #[.agg #[.int .i64 ((rd_T54 l0_6 x6_3).f0), .int .i64 ((rd_T54 l0_6 x6_3).f1), .string ((rd_T54 l0_6 x6_3).f2), .bool ((rd_T54 l0_6 x6_3).f3.f0), .int .i64 ((rd_T54 l0_6 x6_3).f3.f1), .slice A222_5 ((rd_T54 l0_6 x6_3).f3.f2).length c222_5, .slice A222_6 ((rd_T54 l0_6 x6_3).f4).length c222_6]] rfl (by (try simp only [List.map_toArray, List.map_cons, List.map_nil]); first | done | rfl | (simp only [List.length_drop, List.length_take]; rfl)) ?_; (with_reducible refine (ih k3 (by have := HJ1.out; have := HJ40.out; have := HK3.out; omega) ((rd_T54 l0_6 x6_3).f0) ((rd_T54 l0_6 x6_3).f1) ((rd_T54 l0_6 x6_3).f2) ((rd_T54 l0_6 x6_3).f3.f0) ((rd_T54 l0_6 x6_3).f3.f1) _ _ ((rd_T54 l0_6 x6_3).f3.f2) _ _ ((rd_T54 l0_6 x6_3).f4) false _ ?side1 ?side2 ?side3 ?side4 A54.out).mono ?_); (case side1 => repeat (first | exact (Kd.C_below HR222_5.out HB.out) | (with_reducible refine Ca_ ?_ _) | (with_reducible refine Cn_ ?_ _) | (with_reducible refine Cd_ ?_))); (case side2 => exact HC222_5.out); (case side3 => repeat (first | exact (Kd.C_below HR222_6.out HB.out) | (with_reducible refine Ca_ ?_ _) | (with_reducible refine Cn_ ?_ _) | (with_reducible refine Cd_ ?_))); (case side4 => exact HC222_6.out); rintro e w59 ⟨rfl, hb⟩; refine ⟨_, rfl, ?_⟩; have n0_ := Aside0.mk (blk_below (g := gb216) (o := .cells #[.int .i64 a0_0, .int .i64 a0_1, .string a0_2, .bool a0_3, .int .i64 a0_4, .slice A0_5 l0_5.length c0_5, .slice (some ad222) l0_6.length c0_6] 54 (0, 0)) (by (with_reducible repeat (first | refine Fn_ ?_ _ | refine Fd_ ?_ | refine Fa_ ?_ _)); exact BK216.out) hb); have n1_ := Aside0.mk (below_step (by repeat (first | (with_reducible first | exact HB.out | apply Ba_ | apply Bw_ | apply Bd_ | refine below_set ?_ GE216.out) | exact HB.out)) hb); clear BK216; clear HB; have BK216 := n0_; have HB := n1_; clear n0_ n1_; (try clear hb); (try clear hb2); (try clear hk); (try clear hi)))
            go_ret
            exact ⟨by first | rfl | (simp [errW_none, errW_some] <;> rfl) | (simp [*, errW_none, errW_some] <;> rfl) | (simp [isEmpty_ne_]; done) | (simp [*, isEmpty_ne_]; done), by repeat (first | (with_reducible first | exact HB.out | apply Ba_ | apply Bw_ | apply Bd_ | refine below_set ?_ GE216.out) | exact HB.out)⟩
          ·rw [if_neg c53] at H
           exact absurd H (by simp)
         ·rw [if_neg c52] at H
          exact absurd H (by simp)
        ·rw [if_neg c51] at H
         have c51b0 : decide (x6_3 < x3_1) = false := decide_eq_false c51
         clear c51
         by_cases c60 : a0_0 = 3
         ·rw [if_pos c60] at H
          have c60b0 : (a0_0 == 3) = true := beq_iff_eq.mpr c60
          have c60b1 : (a0_0 != 3) = false := bne_eq_false_iff_eq.mpr c60
          clear c60
          replace H := Option.bind_eq_some_iff.mp H
          obtain ⟨t224, A610, H⟩ := H
          replace H : (some t224) = some r := H
          have A61 := Aside0.mk A610
          clear A610
          obtain rfl := Option.some.inj H
          have hcz62_0 : wr.cell? ⟨gb216, 0, none⟩ = some (.int .i64 a0_0) := (blk_cell BK216.out 0).trans rfl
          have hcz62_1 : wr.cell? ⟨gb216, 1, none⟩ = some (.int .i64 a0_1) := (blk_cell BK216.out 1).trans rfl
          have hcz62_2 : wr.cell? ⟨gb216, 2, none⟩ = some (.string a0_2) := (blk_cell BK216.out 2).trans rfl
          have hcz62_3 : wr.cell? ⟨gb216, 3, none⟩ = some (.bool a0_3) := (blk_cell BK216.out 3).trans rfl
          have hcz62_4 : wr.cell? ⟨gb216, 4, none⟩ = some (.int .i64 a0_4) := (blk_cell BK216.out 4).trans rfl
          have hcz62_5 : wr.cell? ⟨gb216, 5, none⟩ = some (.slice A0_5 l0_5.length c0_5) := (blk_cell BK216.out 5).trans rfl
          have hcz62_6 : wr.cell? ⟨gb216, 6, none⟩ = some (.slice A0_6 l0_6.length c0_6) := (blk_cell BK216.out 6).trans rfl
          have hfz62_0 := blk_frozen BK216.out 0
          have hfz62_1 := blk_frozen BK216.out 1
          have hfz62_2 := blk_frozen BK216.out 2
          have hfz62_3 := blk_frozen BK216.out 3
          have hfz62_4 := blk_frozen BK216.out 4
          have hfz62_5 := blk_frozen BK216.out 5
          have hfz62_6 := blk_frozen BK216.out 6
          go_wp2_with (first | (go_at_call 104; (with_reducible refine (spec_l8Writable.calls a0_3 a0_4 _ _ l0_5 t224 _ ?side1 ?side2 A61.out).mono ?_); (case side1 => repeat (first | exact (Kd.C_below HR0_5.out HB.out) | (with_reducible refine Ca_ ?_ _) | (with_reducible refine Cn_ ?_ _) | (with_reducible refine Cd_ ?_))); (case side2 => exact HC0_5.out); rintro e w63 ⟨rfl, hb⟩; have n0_ := Aside0.mk (blk_below (g := gb216) (o := .cells #[.int .i64 a0_0, .int .i64 a0_1, .string a0_2, .bool a0_3, .int .i64 a0_4, .slice A0_5 l0_5.length c0_5, .slice A0_6 l0_6.length c0_6] 54 (0, 0)) (by (with_reducible repeat (first | refine Fn_ ?_ _ | refine Fd_ ?_ | refine Fa_ ?_ _)); exact BK216.out) hb); have n1_ := Aside0.mk (below_step (by repeat (first | (with_reducible first | exact HB.out | apply Ba_ | apply Bw_ | apply Bd_ | refine below_set ?_ GE216.out) | exact HB.out)) hb); clear BK216; clear HB; have BK216 := n0_; have HB := n1_; clear n0_ n1_; (try clear hb); (try clear hb2); (try clear hk); (try clear hi)))
          go_ret
          exact ⟨by first | rfl | (simp [errW_none, errW_some] <;> rfl) | (simp [*, errW_none, errW_some] <;> rfl) | (simp [isEmpty_ne_]; done) | (simp [*, isEmpty_ne_]; done), by repeat (first | (with_reducible first | exact HB.out | apply Ba_ | apply Bw_ | apply Bd_ | refine below_set ?_ GE216.out) | exact HB.out)⟩
         ·rw [if_neg c60] at H
          have c60b0 : (a0_0 == 3) = false := beq_eq_false_iff_ne.mpr c60
          have c60b1 : (a0_0 != 3) = true := bne_iff_ne.mpr c60
          obtain rfl := Option.some.inj H
          have hcz64_0 : wr.cell? ⟨gb216, 0, none⟩ = some (.int .i64 a0_0) := (blk_cell BK216.out 0).trans rfl
          have hcz64_1 : wr.cell? ⟨gb216, 1, none⟩ = some (.int .i64 a0_1) := (blk_cell BK216.out 1).trans rfl
          have hcz64_2 : wr.cell? ⟨gb216, 2, none⟩ = some (.string a0_2) := (blk_cell BK216.out 2).trans rfl
          have hcz64_3 : wr.cell? ⟨gb216, 3, none⟩ = some (.bool a0_3) := (blk_cell BK216.out 3).trans rfl
          have hcz64_4 : wr.cell? ⟨gb216, 4, none⟩ = some (.int .i64 a0_4) := (blk_cell BK216.out 4).trans rfl
          have hcz64_5 : wr.cell? ⟨gb216, 5, none⟩ = some (.slice A0_5 l0_5.length c0_5) := (blk_cell BK216.out 5).trans rfl
          have hcz64_6 : wr.cell? ⟨gb216, 6, none⟩ = some (.slice A0_6 l0_6.length c0_6) := (blk_cell BK216.out 6).trans rfl
          have hfz64_0 := blk_frozen BK216.out 0
          have hfz64_1 := blk_frozen BK216.out 1
          have hfz64_2 := blk_frozen BK216.out 2
          have hfz64_3 := blk_frozen BK216.out 3
          have hfz64_4 := blk_frozen BK216.out 4
          have hfz64_5 := blk_frozen BK216.out 5
          have hfz64_6 := blk_frozen BK216.out 6
          go_wp2
          go_ret
          exact ⟨by first | rfl | (simp [errW_none, errW_some] <;> rfl) | (simp [*, errW_none, errW_some] <;> rfl) | (simp [isEmpty_ne_]; done) | (simp [*, isEmpty_ne_]; done), by repeat (first | (with_reducible first | exact HB.out | apply Ba_ | apply Bw_ | apply Bd_ | refine below_set ?_ GE216.out) | exact HB.out)⟩

end Go.Proofs.Ytmkhoakhfdjplaa.PFnExactIsExpr
