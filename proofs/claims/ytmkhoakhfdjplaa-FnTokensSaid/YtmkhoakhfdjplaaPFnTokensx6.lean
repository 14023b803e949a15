-- Written by a program of this session (wip/mkx.py), which extends the kit's print.
import Derived.Test.YtmkhoakhfdjplaaPFnTokensx0
import Derived.Test.YtmkhoakhfdjplaaPFnTokensx3
import Derived.Test.YtmkhoakhfdjplaaPFnTokensx4
import Derived.Test.YtmkhoakhfdjplaaPFnTokensx5
namespace Go.Proofs.Ytmkhoakhfdjplaa.PFnTokens
open Go.RowKit Go.Proofs.YtmkhoakhfdjplaaW.PrintWords Go.Proofs.YtmkhoakhfdjplaaW.PrintLast Go.Proofs.YtmkhoakhfdjplaaW.PrintMore
attribute [local go_sem] max2_int min2_int max_two min_two max_three min_three max_four min_four   -- for this text's walks alone
set_option linter.unusedVariables false
set_option linter.unusedSimpArgs false

/-! ### spec_Lex: function 15 -/
mutual
def spec_Lex.l0 : Nat → ByteArray → List (S44) → Int → Option ((List (S44)) × Int)
 | 0, _, _, _ => none
 | k + 1, x0, x4, x5 => if x5 < (x0.size : Int) then (if 0 ≤ x5 then (if (bt x0 x5) = 32 then (spec_Lex.j1 k x0 x4 x5 x5 true) else (spec_Lex.j1 k x0 x4 x5 x5 ((bt x0 x5) == 10))) else (none)) else (some (x4, (-1)))
def spec_Lex.j1 : Nat → ByteArray → List (S44) → Int → Int → Bool → Option ((List (S44)) × Int)
 | 0, _, _, _, _, _ => none
 | k + 1, x0, x4, x5, x6, x33 => if x33 = true then (spec_Lex.l0 k x0 x4 (wrap64 (x5 + 1))) else (if 0 ≤ x5 then (if x5 < (x0.size : Int) then (if (bt x0 x5) = 35 then (spec_Lex.l1 k x0 x4 x5) else ((spec_l3Letter.f (bt x0 x5)).bind fun t160 => (if t160 = true then ((spec_l3Name.f k x0 x5).bind fun t161 => (if 0 ≤ x6 then (if x6 ≤ t161 then (if t161 ≤ (x0.size : Int) then (if x4.length < 4398046511104 then (spec_Lex.l0 k x0 (x4 ++ [(⟨1, x0.extract (x6 : Int).toNat (t161 : Int).toNat, x6⟩ : S44)]) t161) else (none)) else (none)) else (none)) else (none))) else ((spec_l3Digit.f (bt x0 x5)).bind fun t165 => (if t165 = true then (spec_Lex.l2 k x0 x4 x5 x6) else (if (bt x0 x5) = 34 then ((spec_l2End.f k x0 x5).bind fun t173 => (if t173 < 0 then (some ((([] : List (S44))), x6)) else (if 0 ≤ x6 then (if x6 ≤ t173 then (if t173 ≤ (x0.size : Int) then ((spec_UnquoteText.f k (x0.extract (x6 : Int).toNat (t173 : Int).toNat)).bind fun bt177 => (if x4.length < 4398046511104 then (spec_Lex.l0 k x0 (x4 ++ [(⟨3, bt177.1, x6⟩ : S44)]) t173) else (none))) else (none)) else (none)) else (none)))) else ((spec_l3Mark.f k x0 x5).bind fun t182 => (if t182.toList = ([] : List UInt8) then (some ((([] : List (S44))), x6)) else (if x4.length < 4398046511104 then (spec_Lex.l0 k x0 (x4 ++ [(⟨4, t182, x6⟩ : S44)]) (wrap64 (x5 + (t182.size : Int)))) else (none)))))))))) else (none)) else (none))
def spec_Lex.l1 : Nat → ByteArray → List (S44) → Int → Option ((List (S44)) × Int)
 | 0, _, _, _ => none
 | k + 1, x0, x4, x5 => if x5 < (x0.size : Int) then (if 0 ≤ x5 then (if (bt x0 x5) = 10 then (spec_Lex.l0 k x0 x4 x5) else (spec_Lex.l1 k x0 x4 (wrap64 (x5 + 1)))) else (none)) else (spec_Lex.l0 k x0 x4 x5)
def spec_Lex.l2 : Nat → ByteArray → List (S44) → Int → Int → Option ((List (S44)) × Int)
 | 0, _, _, _, _ => none
 | k + 1, x0, x4, x5, x6 => if x5 < (x0.size : Int) then (if 0 ≤ x5 then ((spec_l3Digit.f (bt x0 x5)).bind fun t166 => (if t166 = true then (spec_Lex.l2 k x0 x4 (wrap64 (x5 + 1)) x6) else (if 0 ≤ x6 then (if x6 ≤ x5 then (if x5 ≤ (x0.size : Int) then (if x4.length < 4398046511104 then (spec_Lex.l0 k x0 (x4 ++ [(⟨2, x0.extract (x6 : Int).toNat (x5 : Int).toNat, x6⟩ : S44)]) x5) else (none)) else (none)) else (none)) else (none)))) else (none)) else (if 0 ≤ x6 then (if x6 ≤ x5 then (if x5 ≤ (x0.size : Int) then (if x4.length < 4398046511104 then (spec_Lex.l0 k x0 (x4 ++ [(⟨2, x0.extract (x6 : Int).toNat (x5 : Int).toNat, x6⟩ : S44)]) x5) else (none)) else (none)) else (none)) else (none))
end
def spec_Lex.f (k : Nat) (a0 : ByteArray) : Option ((List (S44)) × Int) := spec_Lex.l0 k a0 (([] : List (S44))) 0
theorem spec_Lex.mono_l : ∀ k, (∀ y0 y1 y2, LeO (spec_Lex.l0 k y0 y1 y2) (spec_Lex.l0 (k + 1) y0 y1 y2)) ∧ (∀ y0 y1 y2 y3 y4, LeO (spec_Lex.j1 k y0 y1 y2 y3 y4) (spec_Lex.j1 (k + 1) y0 y1 y2 y3 y4)) ∧ (∀ y0 y1 y2, LeO (spec_Lex.l1 k y0 y1 y2) (spec_Lex.l1 (k + 1) y0 y1 y2)) ∧ (∀ y0 y1 y2 y3, LeO (spec_Lex.l2 k y0 y1 y2 y3) (spec_Lex.l2 (k + 1) y0 y1 y2 y3))
 | 0 => ⟨fun _ _ _ r h => by simp [spec_Lex.l0] at h, fun _ _ _ _ _ r h => by simp [spec_Lex.j1] at h, fun _ _ _ r h => by simp [spec_Lex.l1] at h, fun _ _ _ _ r h => by simp [spec_Lex.l2] at h⟩
 | k + 1 => by
  obtain ⟨ih0, ih1, ih2, ih3⟩ := spec_Lex.mono_l k
  refine ⟨?_, ?_, ?_, ?_⟩
  ·intro y0 y1 y2
   unfold spec_Lex.l0
   repeat' first
   | (with_reducible exact ih0 _ _ _)
   | (with_reducible exact ih1 _ _ _ _ _)
   | (with_reducible exact ih2 _ _ _)
   | (with_reducible exact ih3 _ _ _ _)
   | (with_reducible exact spec_UnquoteText.mono _ _)
   | (with_reducible exact spec_l2End.mono _ _ _)
   | (with_reducible exact spec_l3Mark.mono _ _ _)
   | (with_reducible exact spec_l3Name.mono _ _ _)
   | (with_reducible exact LeO.refl _)
   | (with_reducible exact LeO.none _)
   | (with_reducible refine LeO.ite ?_ ?_)
   | (with_reducible refine LeO.bind ?_ (fun _ => ?_))
   | exact ih0 _ _ _
   | exact ih1 _ _ _ _ _
   | exact ih2 _ _ _
   | exact ih3 _ _ _ _
   | exact spec_UnquoteText.mono _ _
   | exact spec_l2End.mono _ _ _
   | exact spec_l3Mark.mono _ _ _
   | exact spec_l3Name.mono _ _ _
   | exact LeO.none _
   | refine LeO.ite ?_ ?_
   | refine LeO.bind ?_ (fun _ => ?_)
  ·intro y0 y1 y2 y3 y4
   unfold spec_Lex.j1
   repeat' first
   | (with_reducible exact ih0 _ _ _)
   | (with_reducible exact ih1 _ _ _ _ _)
   | (with_reducible exact ih2 _ _ _)
   | (with_reducible exact ih3 _ _ _ _)
   | (with_reducible exact spec_UnquoteText.mono _ _)
   | (with_reducible exact spec_l2End.mono _ _ _)
   | (with_reducible exact spec_l3Mark.mono _ _ _)
   | (with_reducible exact spec_l3Name.mono _ _ _)
   | (with_reducible exact LeO.refl _)
   | (with_reducible exact LeO.none _)
   | (with_reducible refine LeO.ite ?_ ?_)
   | (with_reducible refine LeO.bind ?_ (fun _ => ?_))
   | exact ih0 _ _ _
   | exact ih1 _ _ _ _ _
   | exact ih2 _ _ _
   | exact ih3 _ _ _ _
   | exact spec_UnquoteText.mono _ _
   | exact spec_l2End.mono _ _ _
   | exact spec_l3Mark.mono _ _ _
   | exact spec_l3Name.mono _ _ _
   | exact LeO.none _
   | refine LeO.ite ?_ ?_
   | refine LeO.bind ?_ (fun _ => ?_)
  ·intro y0 y1 y2
   unfold spec_Lex.l1
   repeat' first
   | (with_reducible exact ih0 _ _ _)
   | (with_reducible exact ih1 _ _ _ _ _)
   | (with_reducible exact ih2 _ _ _)
   | (with_reducible exact ih3 _ _ _ _)
   | (with_reducible exact spec_UnquoteText.mono _ _)
   | (with_reducible exact spec_l2End.mono _ _ _)
   | (with_reducible exact spec_l3Mark.mono _ _ _)
   | (with_reducible exact spec_l3Name.mono _ _ _)
   | (with_reducible exact LeO.refl _)
   | (with_reducible exact LeO.none _)
   | (with_reducible refine LeO.ite ?_ ?_)
   | (with_reducible refine LeO.bind ?_ (fun _ => ?_))
   | exact ih0 _ _ _
   | exact ih1 _ _ _ _ _
   | exact ih2 _ _ _
   | exact ih3 _ _ _ _
   | exact spec_UnquoteText.mono _ _
   | exact spec_l2End.mono _ _ _
   | exact spec_l3Mark.mono _ _ _
   | exact spec_l3Name.mono _ _ _
   | exact LeO.none _
   | refine LeO.ite ?_ ?_
   | refine LeO.bind ?_ (fun _ => ?_)
  ·intro y0 y1 y2 y3
   unfold spec_Lex.l2
   repeat' first
   | (with_reducible exact ih0 _ _ _)
   | (with_reducible exact ih1 _ _ _ _ _)
   | (with_reducible exact ih2 _ _ _)
   | (with_reducible exact ih3 _ _ _ _)
   | (with_reducible exact spec_UnquoteText.mono _ _)
   | (with_reducible exact spec_l2End.mono _ _ _)
   | (with_reducible exact spec_l3Mark.mono _ _ _)
   | (with_reducible exact spec_l3Name.mono _ _ _)
   | (with_reducible exact LeO.refl _)
   | (with_reducible exact LeO.none _)
   | (with_reducible refine LeO.ite ?_ ?_)
   | (with_reducible refine LeO.bind ?_ (fun _ => ?_))
   | exact ih0 _ _ _
   | exact ih1 _ _ _ _ _
   | exact ih2 _ _ _
   | exact ih3 _ _ _ _
   | exact spec_UnquoteText.mono _ _
   | exact spec_l2End.mono _ _ _
   | exact spec_l3Mark.mono _ _ _
   | exact spec_l3Name.mono _ _ _
   | exact LeO.none _
   | refine LeO.ite ?_ ?_
   | refine LeO.bind ?_ (fun _ => ?_)
theorem spec_Lex.mono : ∀ a0 k, LeO (spec_Lex.f k a0) (spec_Lex.f (k + 1) a0) := by
 intro a0 k
 obtain ⟨ih0, ih1, ih2, ih3⟩ := spec_Lex.mono_l k
 unfold spec_Lex.f
 repeat' first
   | (with_reducible exact ih0 _ _ _)
   | (with_reducible exact ih1 _ _ _ _ _)
   | (with_reducible exact ih2 _ _ _)
   | (with_reducible exact ih3 _ _ _ _)
   | (with_reducible exact spec_UnquoteText.mono _ _)
   | (with_reducible exact spec_l2End.mono _ _ _)
   | (with_reducible exact spec_l3Mark.mono _ _ _)
   | (with_reducible exact spec_l3Name.mono _ _ _)
   | (with_reducible exact LeO.refl _)
   | (with_reducible exact LeO.none _)
   | (with_reducible refine LeO.ite ?_ ?_)
   | (with_reducible refine LeO.bind ?_ (fun _ => ?_))
   | exact ih0 _ _ _
   | exact ih1 _ _ _ _ _
   | exact ih2 _ _ _
   | exact ih3 _ _ _ _
   | exact spec_UnquoteText.mono _ _
   | exact spec_l2End.mono _ _ _
   | exact spec_l3Mark.mono _ _ _
   | exact spec_l3Name.mono _ _ _
   | exact LeO.none _
   | refine LeO.ite ?_ ?_
   | refine LeO.bind ?_ (fun _ => ?_)
set_option maxHeartbeats 8000000 in
set_option maxRecDepth 100000 in
theorem spec_Lex.calls (k : Nat) (a0 : ByteArray) (r1 : List (S44)) (r2 : Int) (w : World) (h : spec_Lex.f k a0 = some (r1, r2)) :
  Calls Try.prog 15 #[.string a0] w fun e w' => ∃ v0_ : Value, e = .returned (.tuple #[v0_, .int .i64 r2]) ∧ Kd.R k44 44 w' w.heap.size (fun _ => True) v0_ r1 ∧ Below w.heap.size w w' := by
 have hu44 := Try.underlying44
 have HB := Aside0.mk (Below.refl w.heap.size w)
 have H : (spec_Lex.l0 k a0 (([] : List (S44))) 0) = some (r1, r2) := h
 clear h
 obtain ⟨y157, hy157⟩ : ∃ y_ : List (S44), y_ = (([] : List (S44))) := ⟨_, rfl⟩
 replace H : (spec_Lex.l0 k a0 y157 0) = some (r1, r2) := by first | (rw [hy157]; with_reducible exact H) | (have H2_ := (Option.bind_some _ _).symm.trans H; rw [hy157]; with_reducible exact H2_) | (have H2_ := (Option.bind_some _ _).symm.trans H; with_reducible exact H2_) | with_reducible exact H | (rw [hy157]; exact H) | exact H
 have Ny157 := Aside0.mk hy157
 clear hy157
 have H' := Aside0.mk H
 clear H
 go_enter Try.func15, Try.ntmps15
 go_wp2_with (first | ((with_reducible refine gate_dst (N := 10) rfl ?_); refine Kd.R_lit k44 _ 44 ?hg (N := 10) ?hd (xs := ([] : List (S44))) (inner := []) (ok := fun _ => True) (okp := fun _ => True) ?hr ?hp (fun _ hk => hk) trivial (Below.refl _ _) (Nat.le_refl _) (by simp) ?_; (case hd => rfl); (case hg => rfl); (case hr => first | (go_simp; done) | (go_simp; rfl)); (case hp => exact (Reps.none _ _)); intro v158 w2 ho3 hb hg_ hnew_; clear hg_ hnew_; (first | rw [← Ny157.out] at ho3 | (simp only [Int.reduceToNat] at ho3; rw [← Ny157.out] at ho3)); have n0_ := Aside0.mk (Kd.R_lower ho3 (below_size (by repeat (first | (with_reducible first | exact HB.out | apply Ba_ | apply Bw_ | apply Bd_) | exact HB.out)))); have n1_ := Aside0.mk (below_step (by repeat (first | (with_reducible first | exact HB.out | apply Ba_ | apply Bw_ | apply Bd_) | exact HB.out)) hb); clear HB; have HO159 := n0_; have HB := n1_; clear n0_ n1_; clear hb ho3))
 go_loopg [4, 5] k (fun kq v4 v5 w' => ∃ (x4_1 : List (S44)) (x5_1 : Int), v5 = .int .i64 x5_1 ∧ Aside0 (spec_Lex.l0 kq a0 x4_1 x5_1 = some (r1, r2)) ∧ Aside0 (kq ≤ k) ∧ Aside0 (Kd.R k44 44 w' w.heap.size (fun _ => True) v4 x4_1) ∧ Aside0 (Below w.heap.size w w'))
 case atStart => exact ⟨(y157), (0), (by first | rfl | (simp; done) | (simp [*]; done)), H', ⟨Nat.le_refl _⟩, ⟨by (with_reducible repeat (first | apply Ra_ | apply Rn_ | apply Rd_)); exact HO159.out⟩, ⟨by repeat (first | (with_reducible first | exact HB.out | apply Ba_ | apply Bw_ | apply Bd_) | exact HB.out)⟩⟩
 case round =>
  clear H'
  try clear c1
  try clear p2
  obtain ⟨x4_1, x5_1, rfl, HA, HK1, HO_4, HB⟩ := hrel
  cases gk with
  | zero => exact absurd HA.out (by simp [spec_Lex.l0])
  | succ k1 =>
   have H := HA.out
   clear HA
   simp only [spec_Lex.l0] at H
   by_cases c4 : x5_1 < (a0.size : Int)
   ·rw [if_pos c4] at H
    have c4b0 : decide (x5_1 < (a0.size : Int)) = true := decide_eq_true c4
    clear c4
    have HC5 := Aside0.mk H
    clear H
    go_upto_region 10 with (fail)
    go_cut [33] (fun v33 wc => ∃ (kq : Nat) (x33_4 : Bool), v33 = .bool x33_4 ∧ Aside0 (spec_Lex.j1 kq a0 x4_1 x5_1 x5_1 x33_4 = some (r1, r2)) ∧ Aside0 (kq ≤ k1) ∧ Aside0 (Kd.R k44 44 wc w.heap.size (fun _ => True) u4 x4_1) ∧ Aside0 (Below w.heap.size w wc))
    case first =>
     have H := HC5.out
     clear HC5
     by_cases c6 : 0 ≤ x5_1
     ·rw [if_pos c6] at H
      have c6b0 : decide (0 ≤ x5_1) = true := decide_eq_true c6
      clear c6
      (first | rw [c6b0] | (simp only [i64_w, i32_w]; rw [c6b0]) | skip)
      by_cases c8 : (bt a0 x5_1) = 32
      ·rw [if_pos c8] at H
       have c8b0 : ((bt a0 x5_1) == 32) = true := beq_iff_eq.mpr c8
       have c8b1 : ((bt a0 x5_1) != 32) = false := bne_eq_false_iff_eq.mpr c8
       clear c8
       have H' := Aside0.mk H
       clear H
       have p7 : 0 ≤ (x5_1 : Int) := od_
       have q7 : x5_1 < (a0.size : Int) := od_
       have hx7 := bt_at a0 x5_1
       replace p7 := eq_true p7
       replace q7 := eq_true q7
       go_wp2
       go_meet
       case rel => exact ⟨_, (true), (by first | rfl | (simp; done) | (simp [*]; done)), H', ⟨by have := HK1.out; first | omega | exact Nat.le_refl _⟩, ⟨by (with_reducible repeat (first | apply Ra_ | apply Rn_ | apply Rd_)); exact HO_4.out⟩, ⟨by repeat (first | (with_reducible first | exact HB.out | apply Ba_ | apply Bw_ | apply Bd_) | exact HB.out)⟩⟩
      ·rw [if_neg c8] at H
       have c8b0 : ((bt a0 x5_1) == 32) = false := beq_eq_false_iff_ne.mpr c8
       have c8b1 : ((bt a0 x5_1) != 32) = true := bne_iff_ne.mpr c8
       have H' := Aside0.mk H
       clear H
       have p7 : 0 ≤ (x5_1 : Int) := od_
       have q7 : x5_1 < (a0.size : Int) := od_
       have hx7 := bt_at a0 x5_1
       replace p7 := eq_true p7
       replace q7 := eq_true q7
       have p9 : 0 ≤ (x5_1 : Int) := od_
       have q9 : x5_1 < (a0.size : Int) := od_
       have hx9 := bt_at a0 x5_1
       replace p9 := eq_true p9
       replace q9 := eq_true q9
       go_wp2
       go_meet
       case rel => exact ⟨_, (((bt a0 x5_1) == 10)), (by first | rfl | (simp; done) | (simp [*]; done)), H', ⟨by have := HK1.out; first | omega | exact Nat.le_refl _⟩, ⟨by (with_reducible repeat (first | apply Ra_ | apply Rn_ | apply Rd_)); exact HO_4.out⟩, ⟨by repeat (first | (with_reducible first | exact HB.out | apply Ba_ | apply Bw_ | apply Bd_) | exact HB.out)⟩⟩
     ·rw [if_neg c6] at H
      exact absurd H (by simp)
    case rest =>
     clear HC5
     try clear c1
     try clear p2
     try clear c4
     try clear c4b0
     try clear c6
     try clear c6b0
     try clear p7
     try clear q7
     try clear hx7
     try clear c8
     try clear c8b0
     try clear c8b1
     try clear p9
     try clear q9
     try clear hx9
     try clear p2
     try clear p7
     try clear p9
     try clear q7
     try clear q9
     obtain ⟨kq, x33_4, rfl, HA, HJ4, HO_4, HB⟩ := hcut
     cases kq with
     | zero => exact absurd HA.out (by simp [spec_Lex.j1])
     | succ kj4 =>
      have H := HA.out
      clear HA
      simp only [spec_Lex.j1] at H
      by_cases c10 : x33_4 = true
      ·subst c10
       have H1 : (spec_Lex.l0 kj4 a0 x4_1 (wrap64 (x5_1 + 1))) = some (r1, r2) := by rw [if_pos rfl] at H; exact H
       clear H
       have H := H1
       clear H1
       have H' := Aside0.mk H
       clear H
       go_wp2
       go_roundg kj4
       case measure => have := HK1.out; have := HJ4.out; omega
       case rel => exact ⟨(x4_1), (wrap64 (x5_1 + 1)), (by first | rfl | (simp; done) | (simp [*]; done)), H', ⟨by have := HK1.out; have := HJ4.out; omega⟩, ⟨by (with_reducible repeat (first | apply Ra_ | apply Rn_ | apply Rd_)); exact HO_4.out⟩, ⟨by repeat (first | (with_reducible first | exact HB.out | apply Ba_ | apply Bw_ | apply Bd_) | exact HB.out)⟩⟩
      ·replace c10 := Bool.eq_false_iff.mpr c10
       subst c10
       have H1 : (if 0 ≤ x5_1 then (if x5_1 < (a0.size : Int) then (if (bt a0 x5_1) = 35 then (spec_Lex.l1 kj4 a0 x4_1 x5_1) else ((spec_l3Letter.f (bt a0 x5_1)).bind fun t160 => (if t160 = true then ((spec_l3Name.f kj4 a0 x5_1).bind fun t161 => (if 0 ≤ x5_1 then (if x5_1 ≤ t161 then (if t161 ≤ (a0.size : Int) then (if x4_1.length < 4398046511104 then (spec_Lex.l0 kj4 a0 (x4_1 ++ [(⟨1, a0.extract (x5_1 : Int).toNat (t161 : Int).toNat, x5_1⟩ : S44)]) t161) else (none)) else (none)) else (none)) else (none))) else ((spec_l3Digit.f (bt a0 x5_1)).bind fun t165 => (if t165 = true then (spec_Lex.l2 kj4 a0 x4_1 x5_1 x5_1) else (if (bt a0 x5_1) = 34 then ((spec_l2End.f kj4 a0 x5_1).bind fun t173 => (if t173 < 0 then (some ((([] : List (S44))), x5_1)) else (if 0 ≤ x5_1 then (if x5_1 ≤ t173 then (if t173 ≤ (a0.size : Int) then ((spec_UnquoteText.f kj4 (a0.extract (x5_1 : Int).toNat (t173 : Int).toNat)).bind fun bt177 => (if x4_1.length < 4398046511104 then (spec_Lex.l0 kj4 a0 (x4_1 ++ [(⟨3, bt177.1, x5_1⟩ : S44)]) t173) else (none))) else (none)) else (none)) else (none)))) else ((spec_l3Mark.f kj4 a0 x5_1).bind fun t182 => (if t182.toList = ([] : List UInt8) then (some ((([] : List (S44))), x5_1)) else (if x4_1.length < 4398046511104 then (spec_Lex.l0 kj4 a0 (x4_1 ++ [(⟨4, t182, x5_1⟩ : S44)]) (wrap64 (x5_1 + (t182.size : Int)))) else (none)))))))))) else (none)) else (none)) = some (r1, r2) := by rw [if_neg (show ¬ (false = true) by decide)] at H; exact H
       clear H
       have H := H1
       clear H1
       by_cases c11 : 0 ≤ x5_1
       ·rw [if_pos c11] at H
        have c11b0 : decide (0 ≤ x5_1) = true := decide_eq_true c11
        clear c11
        by_cases c12 : x5_1 < (a0.size : Int)
        ·rw [if_pos c12] at H
         have c12b0 : decide (x5_1 < (a0.size : Int)) = true := decide_eq_true c12
         clear c12
         by_cases c14 : (bt a0 x5_1) = 35
         ·rw [if_pos c14] at H
          have c14b0 : ((bt a0 x5_1) == 35) = true := beq_iff_eq.mpr c14
          have c14b1 : ((bt a0 x5_1) != 35) = false := bne_eq_false_iff_eq.mpr c14
          clear c14
          have H' := Aside0.mk H
          clear H
          have p13 : 0 ≤ (x5_1 : Int) := od_
          have q13 : x5_1 < (a0.size : Int) := od_
          have hx13 := bt_at a0 x5_1
          replace p13 := eq_true p13
          replace q13 := eq_true q13
          go_wp2
          go_loopg [5] kj4 (fun kq v5 w' => ∃ (x5_3 : Int), v5 = .int .i64 x5_3 ∧ Aside0 (spec_Lex.l1 kq a0 x4_1 x5_3 = some (r1, r2)) ∧ Aside0 (kq ≤ kj4) ∧ Aside0 (Kd.R k44 44 w' w.heap.size (fun _ => True) u4 x4_1) ∧ Aside0 (Below w.heap.size w w'))
          case atStart => exact ⟨(x5_1), (by first | rfl | (simp; done) | (simp [*]; done)), H', ⟨Nat.le_refl _⟩, ⟨by (with_reducible repeat (first | apply Ra_ | apply Rn_ | apply Rd_)); exact HO_4.out⟩, ⟨by repeat (first | (with_reducible first | exact HB.out | apply Ba_ | apply Bw_ | apply Bd_) | exact HB.out)⟩⟩
          case round =>
           clear H'
           try clear c1
           try clear p1
           try clear q1
           try clear hx1
           try clear p2
           try clear c4
           try clear c4b0
           try clear c6
           try clear c6b0
           try clear p6
           try clear p7
           try clear q7
           try clear hx7
           try clear c8
           try clear c8b0
           try clear c8b1
           try clear p9
           try clear q9
           try clear hx9
           try clear c10
           try clear c11
           try clear c11b0
           try clear c12
           try clear c12b0
           try clear p13
           try clear q13
           try clear hx13
           try clear c14
           try clear c14b0
           try clear c14b1
           try clear p13
           try clear p2
           try clear p7
           try clear p9
           try clear q13
           try clear q7
           try clear q9
           obtain ⟨x5_3, rfl, HA, HK3, HO_4, HB⟩ := hrel
           cases gk with
           | zero => exact absurd HA.out (by simp [spec_Lex.l1])
           | succ k3 =>
            have H := HA.out
            clear HA
            simp only [spec_Lex.l1] at H
            by_cases c15 : x5_3 < (a0.size : Int)
            ·rw [if_pos c15] at H
             have c15b0 : decide (x5_3 < (a0.size : Int)) = true := decide_eq_true c15
             clear c15
             by_cases c16 : 0 ≤ x5_3
             ·rw [if_pos c16] at H
              have c16b0 : decide (0 ≤ x5_3) = true := decide_eq_true c16
              clear c16
              by_cases c18 : (bt a0 x5_3) = 10
              ·rw [if_pos c18] at H
               have c18b0 : ((bt a0 x5_3) == 10) = true := beq_iff_eq.mpr c18
               have c18b1 : ((bt a0 x5_3) != 10) = false := bne_eq_false_iff_eq.mpr c18
               clear c18
               have H' := Aside0.mk H
               clear H
               have p17 : 0 ≤ (x5_3 : Int) := od_
               have q17 : x5_3 < (a0.size : Int) := od_
               have hx17 := bt_at a0 x5_3
               replace p17 := eq_true p17
               replace q17 := eq_true q17
               go_wp2
               go_roundg k3
               case measure => have := HK1.out; have := HJ4.out; have := HK3.out; omega
               case rel => exact ⟨(x4_1), (x5_3), (by first | rfl | (simp; done) | (simp [*]; done)), H', ⟨by have := HK1.out; have := HJ4.out; have := HK3.out; omega⟩, ⟨by (with_reducible repeat (first | apply Ra_ | apply Rn_ | apply Rd_)); exact HO_4.out⟩, ⟨by repeat (first | (with_reducible first | exact HB.out | apply Ba_ | apply Bw_ | apply Bd_) | exact HB.out)⟩⟩
              ·rw [if_neg c18] at H
               have c18b0 : ((bt a0 x5_3) == 10) = false := beq_eq_false_iff_ne.mpr c18
               have c18b1 : ((bt a0 x5_3) != 10) = true := bne_iff_ne.mpr c18
               have H' := Aside0.mk H
               clear H
               have p17 : 0 ≤ (x5_3 : Int) := od_
               have q17 : x5_3 < (a0.size : Int) := od_
               have hx17 := bt_at a0 x5_3
               replace p17 := eq_true p17
               replace q17 := eq_true q17
               go_wp2
               go_roundg k3
               case measure => have := HK1.out; have := HJ4.out; have := HK3.out; omega
               case rel => exact ⟨(wrap64 (x5_3 + 1)), (by first | rfl | (simp; done) | (simp [*]; done)), H', ⟨by have := HK1.out; have := HJ4.out; have := HK3.out; omega⟩, ⟨by (with_reducible repeat (first | apply Ra_ | apply Rn_ | apply Rd_)); exact HO_4.out⟩, ⟨by repeat (first | (with_reducible first | exact HB.out | apply Ba_ | apply Bw_ | apply Bd_) | exact HB.out)⟩⟩
             ·rw [if_neg c16] at H
              exact absurd H (by simp)
            ·rw [if_neg c15] at H
             have c15b0 : decide (x5_3 < (a0.size : Int)) = false := decide_eq_false c15
             clear c15
             have H' := Aside0.mk H
             clear H
             go_wp2
             go_roundg k3
             case measure => have := HK1.out; have := HJ4.out; have := HK3.out; omega
             case rel => exact ⟨(x4_1), (x5_3), (by first | rfl | (simp; done) | (simp [*]; done)), H', ⟨by have := HK1.out; have := HJ4.out; have := HK3.out; omega⟩, ⟨by (with_reducible repeat (first | apply Ra_ | apply Rn_ | apply Rd_)); exact HO_4.out⟩, ⟨by repeat (first | (with_reducible first | exact HB.out | apply Ba_ | apply Bw_ | apply Bd_) | exact HB.out)⟩⟩
         ·rw [if_neg c14] at H
          have c14b0 : ((bt a0 x5_1) == 35) = false := beq_eq_false_iff_ne.mpr c14
          have c14b1 : ((bt a0 x5_1) != 35) = true := bne_iff_ne.mpr c14
          replace H := Option.bind_eq_some_iff.mp H
          obtain ⟨t160, A200, H⟩ := H
          replace H : (if t160 = true then ((spec_l3Name.f kj4 a0 x5_1).bind fun t161 => (if 0 ≤ x5_1 then (if x5_1 ≤ t161 then (if t161 ≤ (a0.size : Int) then (if x4_1.length < 4398046511104 then (spec_Lex.l0 kj4 a0 (x4_1 ++ [(⟨1, a0.extract (x5_1 : Int).toNat (t161 : Int).toNat, x5_1⟩ : S44)]) t161) else (none)) else (none)) else (none)) else (none))) else ((spec_l3Digit.f (bt a0 x5_1)).bind fun t165 => (if t165 = true then (spec_Lex.l2 kj4 a0 x4_1 x5_1 x5_1) else (if (bt a0 x5_1) = 34 then ((spec_l2End.f kj4 a0 x5_1).bind fun t173 => (if t173 < 0 then (some ((([] : List (S44))), x5_1)) else (if 0 ≤ x5_1 then (if x5_1 ≤ t173 then (if t173 ≤ (a0.size : Int) then ((spec_UnquoteText.f kj4 (a0.extract (x5_1 : Int).toNat (t173 : Int).toNat)).bind fun bt177 => (if x4_1.length < 4398046511104 then (spec_Lex.l0 kj4 a0 (x4_1 ++ [(⟨3, bt177.1, x5_1⟩ : S44)]) t173) else (none))) else (none)) else (none)) else (none)))) else ((spec_l3Mark.f kj4 a0 x5_1).bind fun t182 => (if t182.toList = ([] : List UInt8) then (some ((([] : List (S44))), x5_1)) else (if x4_1.length < 4398046511104 then (spec_Lex.l0 kj4 a0 (x4_1 ++ [(⟨4, t182, x5_1⟩ : S44)]) (wrap64 (x5_1 + (t182.size : Int)))) else (none)))))))) = some (r1, r2) := H
          have A20 := Aside0.mk A200
          clear A200
          by_cases c21 : t160 = true
          ·subst c21
           have H1 : ((spec_l3Name.f kj4 a0 x5_1).bind fun t161 => (if 0 ≤ x5_1 then (if x5_1 ≤ t161 then (if t161 ≤ (a0.size : Int) then (if x4_1.length < 4398046511104 then (spec_Lex.l0 kj4 a0 (x4_1 ++ [(⟨1, a0.extract (x5_1 : Int).toNat (t161 : Int).toNat, x5_1⟩ : S44)]) t161) else (none)) else (none)) else (none)) else (none))) = some (r1, r2) := by rw [if_pos rfl] at H; exact H
           clear H
           have H := H1
           clear H1
           replace H := Option.bind_eq_some_iff.mp H
           obtain ⟨t161, A220, H⟩ := H
           replace H : (if 0 ≤ x5_1 then (if x5_1 ≤ t161 then (if t161 ≤ (a0.size : Int) then (if x4_1.length < 4398046511104 then (spec_Lex.l0 kj4 a0 (x4_1 ++ [(⟨1, a0.extract (x5_1 : Int).toNat (t161 : Int).toNat, x5_1⟩ : S44)]) t161) else (none)) else (none)) else (none)) else (none)) = some (r1, r2) := H
           have A22 := Aside0.mk A220
           clear A220
           by_cases c23 : 0 ≤ x5_1
           ·rw [if_pos c23] at H
            have c23b0 := eq_true c23
            have c23b1 : decide (0 ≤ x5_1) = true := decide_eq_true c23
            clear c23
            by_cases c24 : x5_1 ≤ t161
            ·rw [if_pos c24] at H
             have c24b0 := eq_true c24
             have c24b1 : decide (x5_1 ≤ t161) = true := decide_eq_true c24
             clear c24
             by_cases c25 : t161 ≤ (a0.size : Int)
             ·rw [if_pos c25] at H
              have c25b0 := eq_true c25
              have c25b1 : decide (t161 ≤ (a0.size : Int)) = true := decide_eq_true c25
              clear c25
              by_cases c26 : x4_1.length < 4398046511104
              ·rw [if_pos c26] at H
               have LMc26 := Aside0.mk c26
               clear c26
               obtain ⟨y162, hy162⟩ : ∃ y_ : List (S44), y_ = (x4_1 ++ [(⟨1, a0.extract (x5_1 : Int).toNat (t161 : Int).toNat, x5_1⟩ : S44)]) := ⟨_, rfl⟩
               replace H : (spec_Lex.l0 kj4 a0 y162 t161) = some (r1, r2) := by first | (rw [hy162]; with_reducible exact H) | (have H2_ := (Option.bind_some _ _).symm.trans H; rw [hy162]; with_reducible exact H2_) | (have H2_ := (Option.bind_some _ _).symm.trans H; with_reducible exact H2_) | with_reducible exact H | (rw [hy162]; exact H) | exact H
               have Ny162 := Aside0.mk hy162
               clear hy162
               have H' := Aside0.mk H
               clear H
               have p13 : 0 ≤ (x5_1 : Int) := od_
               have q13 : x5_1 < (a0.size : Int) := od_
               have hx13 := bt_at a0 x5_1
               replace p13 := eq_true p13
               replace q13 := eq_true q13
               have p19 : 0 ≤ (x5_1 : Int) := od_
               have q19 : x5_1 < (a0.size : Int) := od_
               have hx19 := bt_at a0 x5_1
               replace p19 := eq_true p19
               replace q19 := eq_true q19
               go_wp2_with (first | ((with_reducible refine gate_callee (f := 51) rfl ?_); refine goesL_ (some 67) rfl rfl Try.func51 (by kernel_rfl) rfl #[.int .u8 (bt a0 x5_1)] rfl (by (try simp only [List.map_toArray, List.map_cons, List.map_nil]); first | done | rfl | (simp only [List.length_drop, List.length_take]; rfl)) ?_; (with_reducible refine (spec_l3Letter.calls (bt a0 x5_1) true _ A20.out).mono ?_); rintro e w' ⟨rfl, ⟨nd, rfl⟩⟩; refine ⟨_, rfl, ?_⟩) | ((with_reducible refine gate_callee (f := 52) rfl ?_); refine goesL_ (some 70) rfl rfl Try.func52 (by kernel_rfl) rfl #[.string a0, .int .i64 x5_1] rfl (by (try simp only [List.map_toArray, List.map_cons, List.map_nil]); first | done | rfl | (simp only [List.length_drop, List.length_take]; rfl)) ?_; (with_reducible refine (spec_l3Name.calls kj4 a0 x5_1 t161 _ A22.out).mono ?_); rintro e w' ⟨rfl, ⟨nd, rfl⟩⟩; refine ⟨_, rfl, ?_⟩) | ((with_reducible refine gate_builtin (b := .append) (xs := #[.tmp 71, .tmp 78]) rfl ?_); at_builtin; refine Kd.R_append k44 (w0 := w) w.heap.size rfl (.tmp 71) (.tmp 78) 33 44 (.agg #[(.int .i64 0), (.string ⟨#[]⟩), (.int .i64 0)]) 32 rfl Try.underlying33 info44 rfl (by decide) (by omega) u4 x4_1 (⟨1, a0.extract (x5_1 : Int).toNat (t161 : Int).toNat, x5_1⟩ : S44) [.int .i64 1, .string (a0.extract (x5_1 : Int).toNat (t161 : Int).toNat), .int .i64 x5_1] (fun _ => True) (fun _ => False) rfl rfl ?aP (fun _ hk => hk.elim) ?aF ?aO ?aB ?aS ?aL ?_; (case aP => exact k44_mkM _ _ _ (⟨1, a0.extract (x5_1 : Int).toNat (t161 : Int).toNat, x5_1⟩ : S44)); (case aB => exact (by repeat (first | (with_reducible first | exact HB.out | apply Ba_ | apply Bw_ | apply Bd_) | exact HB.out))); (case aF => exact (fun _ _ => trivial)); (case aO => exact (by (with_reducible repeat (first | apply Ra_ | apply Rn_ | apply Rd_)); exact HO_4.out)); (case aS => exact (below_size (by repeat (first | (with_reducible first | exact HB.out | apply Ba_ | apply Bw_ | apply Bd_) | exact HB.out)))); (case aL => have := LMc26.out; omega); intro v163 w27 ho hb hg hat; rw [← Ny162.out] at ho; have n0_ := Aside0.mk (hb); have n1_ := Aside0.mk (ho); clear HB; clear HO_4; have HB := n0_; have HO164 := n1_; clear n0_ n1_; clear ho hb hg hat))
               go_roundg kj4
               case measure => have := HK1.out; have := HJ4.out; omega
               case rel => exact ⟨(y162), (t161), (by first | rfl | (simp; done) | (simp [*]; done)), H', ⟨by have := HK1.out; have := HJ4.out; omega⟩, ⟨by (with_reducible repeat (first | apply Ra_ | apply Rn_ | apply Rd_)); exact HO164.out⟩, ⟨by repeat (first | (with_reducible first | exact HB.out | apply Ba_ | apply Bw_ | apply Bd_) | exact HB.out)⟩⟩
              ·rw [if_neg c26] at H
               exact absurd H (by simp)
             ·rw [if_neg c25] at H
              exact absurd H (by simp)
            ·rw [if_neg c24] at H
             exact absurd H (by simp)
           ·rw [if_neg c23] at H
            exact absurd H (by simp)
          ·replace c21 := Bool.eq_false_iff.mpr c21
           subst c21
           have H1 : ((spec_l3Digit.f (bt a0 x5_1)).bind fun t165 => (if t165 = true then (spec_Lex.l2 kj4 a0 x4_1 x5_1 x5_1) else (if (bt a0 x5_1) = 34 then ((spec_l2End.f kj4 a0 x5_1).bind fun t173 => (if t173 < 0 then (some ((([] : List (S44))), x5_1)) else (if 0 ≤ x5_1 then (if x5_1 ≤ t173 then (if t173 ≤ (a0.size : Int) then ((spec_UnquoteText.f kj4 (a0.extract (x5_1 : Int).toNat (t173 : Int).toNat)).bind fun bt177 => (if x4_1.length < 4398046511104 then (spec_Lex.l0 kj4 a0 (x4_1 ++ [(⟨3, bt177.1, x5_1⟩ : S44)]) t173) else (none))) else (none)) else (none)) else (none)))) else ((spec_l3Mark.f kj4 a0 x5_1).bind fun t182 => (if t182.toList = ([] : List UInt8) then (some ((([] : List (S44))), x5_1)) else (if x4_1.length < 4398046511104 then (spec_Lex.l0 kj4 a0 (x4_1 ++ [(⟨4, t182, x5_1⟩ : S44)]) (wrap64 (x5_1 + (t182.size : Int)))) else (none))))))) = some (r1, r2) := by rw [if_neg (show ¬ (false = true) by decide)] at H; exact H
           clear H
           have H := H1
           clear H1
           replace H := Option.bind_eq_some_iff.mp H
           obtain ⟨t165, A290, H⟩ := H
           replace H : (if t165 = true then (spec_Lex.l2 kj4 a0 x4_1 x5_1 x5_1) else (if (bt a0 x5_1) = 34 then ((spec_l2End.f kj4 a0 x5_1).bind fun t173 => (if t173 < 0 then (some ((([] : List (S44))), x5_1)) else (if 0 ≤ x5_1 then (if x5_1 ≤ t173 then (if t173 ≤ (a0.size : Int) then ((spec_UnquoteText.f kj4 (a0.extract (x5_1 : Int).toNat (t173 : Int).toNat)).bind fun bt177 => (if x4_1.length < 4398046511104 then (spec_Lex.l0 kj4 a0 (x4_1 ++ [(⟨3, bt177.1, x5_1⟩ : S44)]) t173) else (none))) else (none)) else (none)) else (none)))) else ((spec_l3Mark.f kj4 a0 x5_1).bind fun t182 => (if t182.toList = ([] : List UInt8) then (some ((([] : List (S44))), x5_1)) else (if x4_1.length < 4398046511104 then (spec_Lex.l0 kj4 a0 (x4_1 ++ [(⟨4, t182, x5_1⟩ : S44)]) (wrap64 (x5_1 + (t182.size : Int)))) else (none)))))) = some (r1, r2) := H
           have A29 := Aside0.mk A290
           clear A290
           by_cases c30 : t165 = true
           ·subst c30
            have H1 : (spec_Lex.l2 kj4 a0 x4_1 x5_1 x5_1) = some (r1, r2) := by rw [if_pos rfl] at H; exact H
            clear H
            have H := H1
            clear H1
            have H' := Aside0.mk H
            clear H
            have p13 : 0 ≤ (x5_1 : Int) := od_
            have q13 : x5_1 < (a0.size : Int) := od_
            have hx13 := bt_at a0 x5_1
            replace p13 := eq_true p13
            replace q13 := eq_true q13
            have p19 : 0 ≤ (x5_1 : Int) := od_
            have q19 : x5_1 < (a0.size : Int) := od_
            have hx19 := bt_at a0 x5_1
            replace p19 := eq_true p19
            replace q19 := eq_true q19
            go_wp2_with (first | ((with_reducible refine gate_callee (f := 51) rfl ?_); refine goesL_ (some 67) rfl rfl Try.func51 (by kernel_rfl) rfl #[.int .u8 (bt a0 x5_1)] rfl (by (try simp only [List.map_toArray, List.map_cons, List.map_nil]); first | done | rfl | (simp only [List.length_drop, List.length_take]; rfl)) ?_; (with_reducible refine (spec_l3Letter.calls (bt a0 x5_1) false _ A20.out).mono ?_); rintro e w' ⟨rfl, ⟨nd, rfl⟩⟩; refine ⟨_, rfl, ?_⟩; have p28 : 0 ≤ (x5_1 : Int) := od_; have q28 : x5_1 < (a0.size : Int) := od_; have hx28 := bt_at a0 x5_1; replace p28 := eq_true p28; replace q28 := eq_true q28) | ((with_reducible refine gate_callee (f := 53) rfl ?_); refine goesL_ (some 84) rfl rfl Try.func53 (by kernel_rfl) rfl #[.int .u8 (bt a0 x5_1)] rfl (by (try simp only [List.map_toArray, List.map_cons, List.map_nil]); first | done | rfl | (simp only [List.length_drop, List.length_take]; rfl)) ?_; (with_reducible refine (spec_l3Digit.calls (bt a0 x5_1) true _ A29.out).mono ?_); rintro e w' ⟨rfl, ⟨nd, rfl⟩⟩; refine ⟨_, rfl, ?_⟩))
            go_loopg [5] kj4 (fun kq v5 w' => ∃ (x5_3 : Int), v5 = .int .i64 x5_3 ∧ Aside0 (spec_Lex.l2 kq a0 x4_1 x5_3 x5_1 = some (r1, r2)) ∧ Aside0 (kq ≤ kj4) ∧ Aside0 (Kd.R k44 44 w' w.heap.size (fun _ => True) u4 x4_1) ∧ Aside0 (Below w.heap.size w w'))
            case atStart => exact ⟨(x5_1), (by first | rfl | (simp; done) | (simp [*]; done)), H', ⟨Nat.le_refl _⟩, ⟨by (with_reducible repeat (first | apply Ra_ | apply Rn_ | apply Rd_)); exact HO_4.out⟩, ⟨by repeat (first | (with_reducible first | exact HB.out | apply Ba_ | apply Bw_ | apply Bd_) | exact HB.out)⟩⟩
            case round =>
             clear H'
             try clear c1
             try clear p1
             try clear q1
             try clear hx1
             try clear c2
             try clear p2
             try clear q2
             try clear hx2
             try clear c3
             try clear c4
             try clear c4b0
             try clear c5
             try clear c6
             try clear c6b0
             try clear p6
             try clear p7
             try clear q7
             try clear hx7
             try clear c8
             try clear c8b0
             try clear c8b1
             try clear p9
             try clear q9
             try clear hx9
             try clear c10
             try clear c11
             try clear c11b0
             try clear c12
             try clear c12b0
             try clear p13
             try clear q13
             try clear hx13
             try clear c14
             try clear c14b0
             try clear c14b1
             try clear c15
             try clear c15b0
             try clear c16
             try clear c16b0
             try clear p17
             try clear q17
             try clear hx17
             try clear c18
             try clear c18b0
             try clear c18b1
             try clear p19
             try clear q19
             try clear hx19
             try clear c21
             try clear c23
             try clear c23b0
             try clear c23b1
             try clear c24
             try clear c24b0
             try clear c24b1
             try clear c25
             try clear c25b0
             try clear c25b1
             try clear c26
             try clear p28
             try clear q28
             try clear hx28
             try clear c30
             try clear p1
             try clear p13
             try clear p17
             try clear p19
             try clear p2
             try clear p28
             try clear p6
             try clear p7
             try clear p9
             try clear q1
             try clear q13
             try clear q17
             try clear q19
             try clear q28
             try clear q7
             try clear q9
             obtain ⟨x5_3, rfl, HA, HK3, HO_4, HB⟩ := hrel
             cases gk with
             | zero => exact absurd HA.out (by simp [spec_Lex.l2])
             | succ k3 =>
              have H := HA.out
              clear HA
              simp only [spec_Lex.l2] at H
              by_cases c31 : x5_3 < (a0.size : Int)
              ·rw [if_pos c31] at H
               have c31b0 : decide (x5_3 < (a0.size : Int)) = true := decide_eq_true c31
               clear c31
               by_cases c32 : 0 ≤ x5_3
               ·rw [if_pos c32] at H
                have c32b0 : decide (0 ≤ x5_3) = true := decide_eq_true c32
                clear c32
                replace H := Option.bind_eq_some_iff.mp H
                obtain ⟨t166, A340, H⟩ := H
                replace H : (if t166 = true then (spec_Lex.l2 k3 a0 x4_1 (wrap64 (x5_3 + 1)) x5_1) else (if 0 ≤ x5_1 then (if x5_1 ≤ x5_3 then (if x5_3 ≤ (a0.size : Int) then (if x4_1.length < 4398046511104 then (spec_Lex.l0 k3 a0 (x4_1 ++ [(⟨2, a0.extract (x5_1 : Int).toNat (x5_3 : Int).toNat, x5_1⟩ : S44)]) x5_3) else (none)) else (none)) else (none)) else (none))) = some (r1, r2) := H
                have A34 := Aside0.mk A340
                clear A340
                by_cases c35 : t166 = true
                ·subst c35
                 have H1 : (spec_Lex.l2 k3 a0 x4_1 (wrap64 (x5_3 + 1)) x5_1) = some (r1, r2) := by rw [if_pos rfl] at H; exact H
                 clear H
                 have H := H1
                 clear H1
                 have H' := Aside0.mk H
                 clear H
                 have p33 : 0 ≤ (x5_3 : Int) := od_
                 have q33 : x5_3 < (a0.size : Int) := od_
                 have hx33 := bt_at a0 x5_3
                 replace p33 := eq_true p33
                 replace q33 := eq_true q33
                 go_wp2_with (first | (go_at_call 53; (with_reducible refine (spec_l3Digit.calls (bt a0 x5_3) true _ A34.out).mono ?_); rintro e w' ⟨rfl, ⟨nd, rfl⟩⟩))
                 go_roundg k3
                 case measure => have := HK1.out; have := HJ4.out; have := HK3.out; omega
                 case rel => exact ⟨(wrap64 (x5_3 + 1)), (by first | rfl | (simp; done) | (simp [*]; done)), H', ⟨by have := HK1.out; have := HJ4.out; have := HK3.out; omega⟩, ⟨by (with_reducible repeat (first | apply Ra_ | apply Rn_ | apply Rd_)); exact HO_4.out⟩, ⟨by repeat (first | (with_reducible first | exact HB.out | apply Ba_ | apply Bw_ | apply Bd_) | exact HB.out)⟩⟩
                ·replace c35 := Bool.eq_false_iff.mpr c35
                 subst c35
                 have H1 : (if 0 ≤ x5_1 then (if x5_1 ≤ x5_3 then (if x5_3 ≤ (a0.size : Int) then (if x4_1.length < 4398046511104 then (spec_Lex.l0 k3 a0 (x4_1 ++ [(⟨2, a0.extract (x5_1 : Int).toNat (x5_3 : Int).toNat, x5_1⟩ : S44)]) x5_3) else (none)) else (none)) else (none)) else (none)) = some (r1, r2) := by rw [if_neg (show ¬ (false = true) by decide)] at H; exact H
                 clear H
                 have H := H1
                 clear H1
                 by_cases c36 : 0 ≤ x5_1
                 ·rw [if_pos c36] at H
                  have c36b0 := eq_true c36
                  have c36b1 : decide (0 ≤ x5_1) = true := decide_eq_true c36
                  clear c36
                  by_cases c37 : x5_1 ≤ x5_3
                  ·rw [if_pos c37] at H
                   have c37b0 := eq_true c37
                   have c37b1 : decide (x5_1 ≤ x5_3) = true := decide_eq_true c37
                   clear c37
                   by_cases c38 : x5_3 ≤ (a0.size : Int)
                   ·rw [if_pos c38] at H
                    have c38b0 := eq_true c38
                    have c38b1 : decide (x5_3 ≤ (a0.size : Int)) = true := decide_eq_true c38
                    clear c38
                    by_cases c39 : x4_1.length < 4398046511104
                    ·rw [if_pos c39] at H
                     have LMc39 := Aside0.mk c39
                     clear c39
                     obtain ⟨y167, hy167⟩ : ∃ y_ : List (S44), y_ = (x4_1 ++ [(⟨2, a0.extract (x5_1 : Int).toNat (x5_3 : Int).toNat, x5_1⟩ : S44)]) := ⟨_, rfl⟩
                     replace H : (spec_Lex.l0 k3 a0 y167 x5_3) = some (r1, r2) := by first | (rw [hy167]; with_reducible exact H) | (have H2_ := (Option.bind_some _ _).symm.trans H; rw [hy167]; with_reducible exact H2_) | (have H2_ := (Option.bind_some _ _).symm.trans H; with_reducible exact H2_) | with_reducible exact H | (rw [hy167]; exact H) | exact H
                     have Ny167 := Aside0.mk hy167
                     clear hy167
                     have H' := Aside0.mk H
                     clear H
                     have p33 : 0 ≤ (x5_3 : Int) := od_
                     have q33 : x5_3 < (a0.size : Int) := od_
                     have hx33 := bt_at a0 x5_3
                     replace p33 := eq_true p33
                     replace q33 := eq_true q33
                     go_wp2_with (first | (go_at_call 53; (with_reducible refine (spec_l3Digit.calls (bt a0 x5_3) false _ A34.out).mono ?_); rintro e w' ⟨rfl, ⟨nd, rfl⟩⟩) | ((with_reducible refine gate_builtin (b := .append) (xs := #[.tmp 97, .tmp 104]) rfl ?_); at_builtin; refine Kd.R_append k44 (w0 := w) w.heap.size rfl (.tmp 97) (.tmp 104) 33 44 (.agg #[(.int .i64 0), (.string ⟨#[]⟩), (.int .i64 0)]) 32 rfl Try.underlying33 info44 rfl (by decide) (by omega) u4 x4_1 (⟨2, a0.extract (x5_1 : Int).toNat (x5_3 : Int).toNat, x5_1⟩ : S44) [.int .i64 2, .string (a0.extract (x5_1 : Int).toNat (x5_3 : Int).toNat), .int .i64 x5_1] (fun _ => True) (fun _ => False) rfl rfl ?aP (fun _ hk => hk.elim) ?aF ?aO ?aB ?aS ?aL ?_; (case aP => exact k44_mkM _ _ _ (⟨2, a0.extract (x5_1 : Int).toNat (x5_3 : Int).toNat, x5_1⟩ : S44)); (case aB => exact (by repeat (first | (with_reducible first | exact HB.out | apply Ba_ | apply Bw_ | apply Bd_) | exact HB.out))); (case aF => exact (fun _ _ => trivial)); (case aO => exact (by (with_reducible repeat (first | apply Ra_ | apply Rn_ | apply Rd_)); exact HO_4.out)); (case aS => exact (below_size (by repeat (first | (with_reducible first | exact HB.out | apply Ba_ | apply Bw_ | apply Bd_) | exact HB.out)))); (case aL => have := LMc39.out; omega); intro v168 w40 ho hb hg hat; rw [← Ny167.out] at ho; have n0_ := Aside0.mk (hb); have n1_ := Aside0.mk (ho); clear HB; clear HO_4; have HB := n0_; have HO169 := n1_; clear n0_ n1_; clear ho hb hg hat))
                     go_roundg k3
                     case measure => have := HK1.out; have := HJ4.out; have := HK3.out; omega
                     case rel => exact ⟨(y167), (x5_3), (by first | rfl | (simp; done) | (simp [*]; done)), H', ⟨by have := HK1.out; have := HJ4.out; have := HK3.out; omega⟩, ⟨by (with_reducible repeat (first | apply Ra_ | apply Rn_ | apply Rd_)); exact HO169.out⟩, ⟨by repeat (first | (with_reducible first | exact HB.out | apply Ba_ | apply Bw_ | apply Bd_) | exact HB.out)⟩⟩
                    ·rw [if_neg c39] at H
                     exact absurd H (by simp)
                   ·rw [if_neg c38] at H
                    exact absurd H (by simp)
                  ·rw [if_neg c37] at H
                   exact absurd H (by simp)
                 ·rw [if_neg c36] at H
                  exact absurd H (by simp)
               ·rw [if_neg c32] at H
                exact absurd H (by simp)
              ·rw [if_neg c31] at H
               have c31b0 : decide (x5_3 < (a0.size : Int)) = false := decide_eq_false c31
               clear c31
               by_cases c41 : 0 ≤ x5_1
               ·rw [if_pos c41] at H
                have c41b0 := eq_true c41
                have c41b1 : decide (0 ≤ x5_1) = true := decide_eq_true c41
                clear c41
                by_cases c42 : x5_1 ≤ x5_3
                ·rw [if_pos c42] at H
                 have c42b0 := eq_true c42
                 have c42b1 : decide (x5_1 ≤ x5_3) = true := decide_eq_true c42
                 clear c42
                 by_cases c43 : x5_3 ≤ (a0.size : Int)
                 ·rw [if_pos c43] at H
                  have c43b0 := eq_true c43
                  have c43b1 : decide (x5_3 ≤ (a0.size : Int)) = true := decide_eq_true c43
                  clear c43
                  by_cases c44 : x4_1.length < 4398046511104
                  ·rw [if_pos c44] at H
                   have LMc44 := Aside0.mk c44
                   clear c44
                   obtain ⟨y170, hy170⟩ : ∃ y_ : List (S44), y_ = (x4_1 ++ [(⟨2, a0.extract (x5_1 : Int).toNat (x5_3 : Int).toNat, x5_1⟩ : S44)]) := ⟨_, rfl⟩
                   replace H : (spec_Lex.l0 k3 a0 y170 x5_3) = some (r1, r2) := by first | (rw [hy170]; with_reducible exact H) | (have H2_ := (Option.bind_some _ _).symm.trans H; rw [hy170]; with_reducible exact H2_) | (have H2_ := (Option.bind_some _ _).symm.trans H; with_reducible exact H2_) | with_reducible exact H | (rw [hy170]; exact H) | exact H
                   have Ny170 := Aside0.mk hy170
                   clear hy170
                   have H' := Aside0.mk H
                   clear H
                   go_wp2_with (first | ((with_reducible refine gate_builtin (b := .append) (xs := #[.tmp 97, .tmp 104]) rfl ?_); at_builtin; refine Kd.R_append k44 (w0 := w) w.heap.size rfl (.tmp 97) (.tmp 104) 33 44 (.agg #[(.int .i64 0), (.string ⟨#[]⟩), (.int .i64 0)]) 32 rfl Try.underlying33 info44 rfl (by decide) (by omega) u4 x4_1 (⟨2, a0.extract (x5_1 : Int).toNat (x5_3 : Int).toNat, x5_1⟩ : S44) [.int .i64 2, .string (a0.extract (x5_1 : Int).toNat (x5_3 : Int).toNat), .int .i64 x5_1] (fun _ => True) (fun _ => False) rfl rfl ?aP (fun _ hk => hk.elim) ?aF ?aO ?aB ?aS ?aL ?_; (case aP => exact k44_mkM _ _ _ (⟨2, a0.extract (x5_1 : Int).toNat (x5_3 : Int).toNat, x5_1⟩ : S44)); (case aB => exact (by repeat (first | (with_reducible first | exact HB.out | apply Ba_ | apply Bw_ | apply Bd_) | exact HB.out))); (case aF => exact (fun _ _ => trivial)); (case aO => exact (by (with_reducible repeat (first | apply Ra_ | apply Rn_ | apply Rd_)); exact HO_4.out)); (case aS => exact (below_size (by repeat (first | (with_reducible first | exact HB.out | apply Ba_ | apply Bw_ | apply Bd_) | exact HB.out)))); (case aL => have := LMc44.out; omega); intro v171 w45 ho hb hg hat; rw [← Ny170.out] at ho; have n0_ := Aside0.mk (hb); have n1_ := Aside0.mk (ho); clear HB; clear HO_4; have HB := n0_; have HO172 := n1_; clear n0_ n1_; clear ho hb hg hat))
                   go_roundg k3
                   case measure => have := HK1.out; have := HJ4.out; have := HK3.out; omega
                   case rel => exact ⟨(y170), (x5_3), (by first | rfl | (simp; done) | (simp [*]; done)), H', ⟨by have := HK1.out; have := HJ4.out; have := HK3.out; omega⟩, ⟨by (with_reducible repeat (first | apply Ra_ | apply Rn_ | apply Rd_)); exact HO172.out⟩, ⟨by repeat (first | (with_reducible first | exact HB.out | apply Ba_ | apply Bw_ | apply Bd_) | exact HB.out)⟩⟩
                  ·rw [if_neg c44] at H
                   exact absurd H (by simp)
                 ·rw [if_neg c43] at H
                  exact absurd H (by simp)
                ·rw [if_neg c42] at H
                 exact absurd H (by simp)
               ·rw [if_neg c41] at H
                exact absurd H (by simp)
           ·replace c30 := Bool.eq_false_iff.mpr c30
            subst c30
            have H1 : (if (bt a0 x5_1) = 34 then ((spec_l2End.f kj4 a0 x5_1).bind fun t173 => (if t173 < 0 then (some ((([] : List (S44))), x5_1)) else (if 0 ≤ x5_1 then (if x5_1 ≤ t173 then (if t173 ≤ (a0.size : Int) then ((spec_UnquoteText.f kj4 (a0.extract (x5_1 : Int).toNat (t173 : Int).toNat)).bind fun bt177 => (if x4_1.length < 4398046511104 then (spec_Lex.l0 kj4 a0 (x4_1 ++ [(⟨3, bt177.1, x5_1⟩ : S44)]) t173) else (none))) else (none)) else (none)) else (none)))) else ((spec_l3Mark.f kj4 a0 x5_1).bind fun t182 => (if t182.toList = ([] : List UInt8) then (some ((([] : List (S44))), x5_1)) else (if x4_1.length < 4398046511104 then (spec_Lex.l0 kj4 a0 (x4_1 ++ [(⟨4, t182, x5_1⟩ : S44)]) (wrap64 (x5_1 + (t182.size : Int)))) else (none))))) = some (r1, r2) := by rw [if_neg (show ¬ (false = true) by decide)] at H; exact H
            clear H
            have H := H1
            clear H1
            by_cases c47 : (bt a0 x5_1) = 34
            ·rw [if_pos c47] at H
             have c47b0 : ((bt a0 x5_1) == 34) = true := beq_iff_eq.mpr c47
             have c47b1 : ((bt a0 x5_1) != 34) = false := bne_eq_false_iff_eq.mpr c47
             clear c47
             replace H := Option.bind_eq_some_iff.mp H
             obtain ⟨t173, A480, H⟩ := H
             replace H : (if t173 < 0 then (some ((([] : List (S44))), x5_1)) else (if 0 ≤ x5_1 then (if x5_1 ≤ t173 then (if t173 ≤ (a0.size : Int) then ((spec_UnquoteText.f kj4 (a0.extract (x5_1 : Int).toNat (t173 : Int).toNat)).bind fun bt177 => (if x4_1.length < 4398046511104 then (spec_Lex.l0 kj4 a0 (x4_1 ++ [(⟨3, bt177.1, x5_1⟩ : S44)]) t173) else (none))) else (none)) else (none)) else (none))) = some (r1, r2) := H
             have A48 := Aside0.mk A480
             clear A480
             by_cases c49 : t173 < 0
             ·rw [if_pos c49] at H
              have c49b0 : decide (t173 < 0) = true := decide_eq_true c49
              clear c49
              obtain ⟨y174, hy174⟩ : ∃ y_ : List (S44), y_ = (([] : List (S44))) := ⟨_, rfl⟩
              replace H : (some (y174, x5_1)) = some (r1, r2) := by first | (rw [hy174]; with_reducible exact H) | (have H2_ := (Option.bind_some _ _).symm.trans H; rw [hy174]; with_reducible exact H2_) | (have H2_ := (Option.bind_some _ _).symm.trans H; with_reducible exact H2_) | with_reducible exact H | (rw [hy174]; exact H) | exact H
              have Ny174 := Aside0.mk hy174
              clear hy174
              simp only [Option.some.injEq, Prod.mk.injEq] at H
              obtain ⟨rfl, rfl⟩ := H
              have p13 : 0 ≤ (x5_1 : Int) := od_
              have q13 : x5_1 < (a0.size : Int) := od_
              have hx13 := bt_at a0 x5_1
              replace p13 := eq_true p13
              replace q13 := eq_true q13
              have p19 : 0 ≤ (x5_1 : Int) := od_
              have q19 : x5_1 < (a0.size : Int) := od_
              have hx19 := bt_at a0 x5_1
              replace p19 := eq_true p19
              replace q19 := eq_true q19
              go_wp2_with (first | ((with_reducible refine gate_callee (f := 51) rfl ?_); refine goesL_ (some 67) rfl rfl Try.func51 (by kernel_rfl) rfl #[.int .u8 (bt a0 x5_1)] rfl (by (try simp only [List.map_toArray, List.map_cons, List.map_nil]); first | done | rfl | (simp only [List.length_drop, List.length_take]; rfl)) ?_; (with_reducible refine (spec_l3Letter.calls (bt a0 x5_1) false _ A20.out).mono ?_); rintro e w' ⟨rfl, ⟨nd, rfl⟩⟩; refine ⟨_, rfl, ?_⟩; have p28 : 0 ≤ (x5_1 : Int) := od_; have q28 : x5_1 < (a0.size : Int) := od_; have hx28 := bt_at a0 x5_1; replace p28 := eq_true p28; replace q28 := eq_true q28) | ((with_reducible refine gate_callee (f := 53) rfl ?_); refine goesL_ (some 84) rfl rfl Try.func53 (by kernel_rfl) rfl #[.int .u8 (bt a0 x5_1)] rfl (by (try simp only [List.map_toArray, List.map_cons, List.map_nil]); first | done | rfl | (simp only [List.length_drop, List.length_take]; rfl)) ?_; (with_reducible refine (spec_l3Digit.calls (bt a0 x5_1) false _ A29.out).mono ?_); rintro e w' ⟨rfl, ⟨nd, rfl⟩⟩; refine ⟨_, rfl, ?_⟩; have p46 : 0 ≤ (x5_1 : Int) := od_; have q46 : x5_1 < (a0.size : Int) := od_; have hx46 := bt_at a0 x5_1; replace p46 := eq_true p46; replace q46 := eq_true q46) | ((with_reducible refine gate_callee (f := 54) rfl ?_); refine goesL_ (some 113) rfl rfl Try.func54 (by kernel_rfl) rfl #[.string a0, .int .i64 x5_1] rfl (by (try simp only [List.map_toArray, List.map_cons, List.map_nil]); first | done | rfl | (simp only [List.length_drop, List.length_take]; rfl)) ?_; (with_reducible refine (spec_l2End.calls kj4 a0 x5_1 t173 _ A48.out).mono ?_); rintro e w' ⟨rfl, ⟨nd, rfl⟩⟩; refine ⟨_, rfl, ?_⟩) | ((with_reducible refine gate_dst (N := 116) rfl ?_); refine Kd.R_lit k44 _ 44 ?hg (N := 116) ?hd (xs := ([] : List (S44))) (inner := []) (ok := fun _ => True) (okp := fun _ => True) ?hr ?hp (fun _ hk => hk) trivial (Below.refl _ _) (Nat.le_refl _) (by simp) ?_; (case hd => rfl); (case hg => rfl); (case hr => first | (go_simp; done) | (go_simp; rfl)); (case hp => exact (Reps.none _ _)); intro v175 w50 ho51 hb hg_ hnew_; clear hg_ hnew_; (first | rw [← Ny174.out] at ho51 | (simp only [Int.reduceToNat] at ho51; rw [← Ny174.out] at ho51)); have n0_ := Aside0.mk (Kd.R_elder' (by (with_reducible repeat (first | apply Ra_ | apply Rn_ | apply Rd_)); exact HO_4.out) (Kd.R_base ho51) hb); have n1_ := Aside0.mk (Kd.R_lower (Kd.R_new' ho51 (Kd.R_lt (by (with_reducible repeat (first | apply Ra_ | apply Rn_ | apply Rd_)); exact HO_4.out))) (below_size (by repeat (first | (with_reducible first | exact HB.out | apply Ba_ | apply Bw_ | apply Bd_) | exact HB.out)))); have n2_ := Aside0.mk (below_step (by repeat (first | (with_reducible first | exact HB.out | apply Ba_ | apply Bw_ | apply Bd_) | exact HB.out)) hb); clear HO_4; clear HB; have HO_4 := n0_; have HO176 := n1_; have HB := n2_; clear n0_ n1_ n2_; clear hb ho51))
              go_ret2
              exact ⟨_, by first | rfl | (simp [errW_none, errW_some] <;> rfl) | (simp [*, errW_none, errW_some] <;> rfl) | (simp [isEmpty_ne_]; done) | (simp [*, isEmpty_ne_]; done), by (with_reducible repeat (first | apply Ra_ | apply Rn_ | apply Rd_)); exact Kd.R_mono HO176.out (fun _ hk => trivial), by repeat (first | (with_reducible first | exact HB.out | apply Ba_ | apply Bw_ | apply Bd_) | exact HB.out)⟩
             ·rw [if_neg c49] at H
              have c49b0 : decide (t173 < 0) = false := decide_eq_false c49
              clear c49
              by_cases c52 : 0 ≤ x5_1
              ·rw [if_pos c52] at H
               have c52b0 := eq_true c52
               have c52b1 : decide (0 ≤ x5_1) = true := decide_eq_true c52
               clear c52
               by_cases c53 : x5_1 ≤ t173
               ·rw [if_pos c53] at H
                have c53b0 := eq_true c53
                have c53b1 : decide (x5_1 ≤ t173) = true := decide_eq_true c53
                clear c53
                by_cases c54 : t173 ≤ (a0.size : Int)
                ·rw [if_pos c54] at H
                 have c54b0 := eq_true c54
                 have c54b1 : decide (t173 ≤ (a0.size : Int)) = true := decide_eq_true c54
                 clear c54
                 replace H := Option.bind_eq_some_iff.mp H
                 obtain ⟨⟨t177, t178⟩, A550, H⟩ := H
                 replace H : (if x4_1.length < 4398046511104 then (spec_Lex.l0 kj4 a0 (x4_1 ++ [(⟨3, t177, x5_1⟩ : S44)]) t173) else (none)) = some (r1, r2) := H
                 have A55 := Aside0.mk A550
                 clear A550
                 by_cases c56 : x4_1.length < 4398046511104
                 ·rw [if_pos c56] at H
                  have LMc56 := Aside0.mk c56
                  clear c56
                  obtain ⟨y179, hy179⟩ : ∃ y_ : List (S44), y_ = (x4_1 ++ [(⟨3, t177, x5_1⟩ : S44)]) := ⟨_, rfl⟩
                  replace H : (spec_Lex.l0 kj4 a0 y179 t173) = some (r1, r2) := by first | (rw [hy179]; with_reducible exact H) | (have H2_ := (Option.bind_some _ _).symm.trans H; rw [hy179]; with_reducible exact H2_) | (have H2_ := (Option.bind_some _ _).symm.trans H; with_reducible exact H2_) | with_reducible exact H | (rw [hy179]; exact H) | exact H
                  have Ny179 := Aside0.mk hy179
                  clear hy179
                  have H' := Aside0.mk H
                  clear H
                  have p13 : 0 ≤ (x5_1 : Int) := od_
                  have q13 : x5_1 < (a0.size : Int) := od_
                  have hx13 := bt_at a0 x5_1
                  replace p13 := eq_true p13
                  replace q13 := eq_true q13
                  have p19 : 0 ≤ (x5_1 : Int) := od_
                  have q19 : x5_1 < (a0.size : Int) := od_
                  have hx19 := bt_at a0 x5_1
                  replace p19 := eq_true p19
                  replace q19 := eq_true q19
                  go_wp2_with (first | ((with_reducible refine gate_callee (f := 51) rfl ?_); refine goesL_ (some 67) rfl rfl Try.func51 (by kernel_rfl) rfl #[.int .u8 (bt a0 x5_1)] rfl (by (try simp only [List.map_toArray, List.map_cons, List.map_nil]); first | done | rfl | (simp only [List.length_drop, List.length_take]; rfl)) ?_; (with_reducible refine (spec_l3Letter.calls (bt a0 x5_1) false _ A20.out).mono ?_); rintro e w' ⟨rfl, ⟨nd, rfl⟩⟩; refine ⟨_, rfl, ?_⟩; have p28 : 0 ≤ (x5_1 : Int) := od_; have q28 : x5_1 < (a0.size : Int) := od_; have hx28 := bt_at a0 x5_1; replace p28 := eq_true p28; replace q28 := eq_true q28) | ((with_reducible refine gate_callee (f := 53) rfl ?_); refine goesL_ (some 84) rfl rfl Try.func53 (by kernel_rfl) rfl #[.int .u8 (bt a0 x5_1)] rfl (by (try simp only [List.map_toArray, List.map_cons, List.map_nil]); first | done | rfl | (simp only [List.length_drop, List.length_take]; rfl)) ?_; (with_reducible refine (spec_l3Digit.calls (bt a0 x5_1) false _ A29.out).mono ?_); rintro e w' ⟨rfl, ⟨nd, rfl⟩⟩; refine ⟨_, rfl, ?_⟩; have p46 : 0 ≤ (x5_1 : Int) := od_; have q46 : x5_1 < (a0.size : Int) := od_; have hx46 := bt_at a0 x5_1; replace p46 := eq_true p46; replace q46 := eq_true q46) | ((with_reducible refine gate_callee (f := 54) rfl ?_); refine goesL_ (some 113) rfl rfl Try.func54 (by kernel_rfl) rfl #[.string a0, .int .i64 x5_1] rfl (by (try simp only [List.map_toArray, List.map_cons, List.map_nil]); first | done | rfl | (simp only [List.length_drop, List.length_take]; rfl)) ?_; (with_reducible refine (spec_l2End.calls kj4 a0 x5_1 t173 _ A48.out).mono ?_); rintro e w' ⟨rfl, ⟨nd, rfl⟩⟩; refine ⟨_, rfl, ?_⟩) | ((with_reducible refine gate_callee (f := 55) rfl ?_); refine goesL_ (some 123) rfl rfl Try.func55 (by kernel_rfl) rfl #[.string (a0.extract (x5_1 : Int).toNat (t173 : Int).toNat)] rfl (by (try simp only [List.map_toArray, List.map_cons, List.map_nil]); first | done | rfl | (simp only [List.length_drop, List.length_take]; rfl)) ?_; (with_reducible refine (spec_UnquoteText.calls kj4 (a0.extract (x5_1 : Int).toNat (t173 : Int).toNat) t177 t178 _ A55.out).mono ?_); rintro e w57 ⟨rfl, hb⟩; refine ⟨_, rfl, ?_⟩; have n0_ := Aside0.mk (Kd.R_below (by (with_reducible repeat (first | apply Ra_ | apply Rn_ | apply Rd_)); exact HO_4.out) hb); have n1_ := Aside0.mk (below_step (by repeat (first | (with_reducible first | exact HB.out | apply Ba_ | apply Bw_ | apply Bd_) | exact HB.out)) hb); clear HO_4; clear HB; have HO_4 := n0_; have HB := n1_; clear n0_ n1_; (try clear hb); (try clear hb2); (try clear hk); (try clear hi)) | ((with_reducible refine gate_builtin (b := .append) (xs := #[.tmp 126, .tmp 130]) rfl ?_); at_builtin; refine Kd.R_append k44 (w0 := w) w.heap.size rfl (.tmp 126) (.tmp 130) 33 44 (.agg #[(.int .i64 0), (.string ⟨#[]⟩), (.int .i64 0)]) 32 rfl Try.underlying33 info44 rfl (by decide) (by omega) u4 x4_1 (⟨3, t177, x5_1⟩ : S44) [.int .i64 3, .string t177, .int .i64 x5_1] (fun _ => True) (fun _ => False) rfl rfl ?aP (fun _ hk => hk.elim) ?aF ?aO ?aB ?aS ?aL ?_; (case aP => exact k44_mkM _ _ _ (⟨3, t177, x5_1⟩ : S44)); (case aB => exact (by repeat (first | (with_reducible first | exact HB.out | apply Ba_ | apply Bw_ | apply Bd_) | exact HB.out))); (case aF => exact (fun _ _ => trivial)); (case aO => exact (by (with_reducible repeat (first | apply Ra_ | apply Rn_ | apply Rd_)); exact HO_4.out)); (case aS => exact (below_size (by repeat (first | (with_reducible first | exact HB.out | apply Ba_ | apply Bw_ | apply Bd_) | exact HB.out)))); (case aL => have := LMc56.out; omega); intro v180 w58 ho hb hg hat; rw [← Ny179.out] at ho; have n0_ := Aside0.mk (hb); have n1_ := Aside0.mk (ho); clear HB; clear HO_4; have HB := n0_; have HO181 := n1_; clear n0_ n1_; clear ho hb hg hat))
                  go_roundg kj4
                  case measure => have := HK1.out; have := HJ4.out; omega
                  case rel => exact ⟨(y179), (t173), (by first | rfl | (simp; done) | (simp [*]; done)), H', ⟨by have := HK1.out; have := HJ4.out; omega⟩, ⟨by (with_reducible repeat (first | apply Ra_ | apply Rn_ | apply Rd_)); exact HO181.out⟩, ⟨by repeat (first | (with_reducible first | exact HB.out | apply Ba_ | apply Bw_ | apply Bd_) | exact HB.out)⟩⟩
                 ·rw [if_neg c56] at H
                  exact absurd H (by simp)
                ·rw [if_neg c54] at H
                 exact absurd H (by simp)
               ·rw [if_neg c53] at H
                exact absurd H (by simp)
              ·rw [if_neg c52] at H
               exact absurd H (by simp)
            ·rw [if_neg c47] at H
             have c47b0 : ((bt a0 x5_1) == 34) = false := beq_eq_false_iff_ne.mpr c47
             have c47b1 : ((bt a0 x5_1) != 34) = true := bne_iff_ne.mpr c47
             replace H := Option.bind_eq_some_iff.mp H
             obtain ⟨t182, A590, H⟩ := H
             replace H : (if t182.toList = ([] : List UInt8) then (some ((([] : List (S44))), x5_1)) else (if x4_1.length < 4398046511104 then (spec_Lex.l0 kj4 a0 (x4_1 ++ [(⟨4, t182, x5_1⟩ : S44)]) (wrap64 (x5_1 + (t182.size : Int)))) else (none))) = some (r1, r2) := H
             have A59 := Aside0.mk A590
             clear A590
             by_cases c60 : t182.toList = ([] : List UInt8)
             ·rw [if_pos c60] at H
              have c60b0 : (t182.toList == ([] : List UInt8)) = true := beq_iff_eq.mpr c60
              have c60b1 : (t182.toList != ([] : List UInt8)) = false := bne_eq_false_iff_eq.mpr c60
              clear c60
              obtain ⟨y183, hy183⟩ : ∃ y_ : List (S44), y_ = (([] : List (S44))) := ⟨_, rfl⟩
              replace H : (some (y183, x5_1)) = some (r1, r2) := by first | (rw [hy183]; with_reducible exact H) | (have H2_ := (Option.bind_some _ _).symm.trans H; rw [hy183]; with_reducible exact H2_) | (have H2_ := (Option.bind_some _ _).symm.trans H; with_reducible exact H2_) | with_reducible exact H | (rw [hy183]; exact H) | exact H
              have Ny183 := Aside0.mk hy183
              clear hy183
              simp only [Option.some.injEq, Prod.mk.injEq] at H
              obtain ⟨rfl, rfl⟩ := H
              have p13 : 0 ≤ (x5_1 : Int) := od_
              have q13 : x5_1 < (a0.size : Int) := od_
              have hx13 := bt_at a0 x5_1
              replace p13 := eq_true p13
              replace q13 := eq_true q13
              have p19 : 0 ≤ (x5_1 : Int) := od_
              have q19 : x5_1 < (a0.size : Int) := od_
              have hx19 := bt_at a0 x5_1
              replace p19 := eq_true p19
              replace q19 := eq_true q19
              go_wp2_with (first | ((with_reducible refine gate_callee (f := 51) rfl ?_); refine goesL_ (some 67) rfl rfl Try.func51 (by kernel_rfl) rfl #[.int .u8 (bt a0 x5_1)] rfl (by (try simp only [List.map_toArray, List.map_cons, List.map_nil]); first | done | rfl | (simp only [List.length_drop, List.length_take]; rfl)) ?_; (with_reducible refine (spec_l3Letter.calls (bt a0 x5_1) false _ A20.out).mono ?_); rintro e w' ⟨rfl, ⟨nd, rfl⟩⟩; refine ⟨_, rfl, ?_⟩; have p28 : 0 ≤ (x5_1 : Int) := od_; have q28 : x5_1 < (a0.size : Int) := od_; have hx28 := bt_at a0 x5_1; replace p28 := eq_true p28; replace q28 := eq_true q28) | ((with_reducible refine gate_callee (f := 53) rfl ?_); refine goesL_ (some 84) rfl rfl Try.func53 (by kernel_rfl) rfl #[.int .u8 (bt a0 x5_1)] rfl (by (try simp only [List.map_toArray, List.map_cons, List.map_nil]); first | done | rfl | (simp only [List.length_drop, List.length_take]; rfl)) ?_; (with_reducible refine (spec_l3Digit.calls (bt a0 x5_1) false _ A29.out).mono ?_); rintro e w' ⟨rfl, ⟨nd, rfl⟩⟩; refine ⟨_, rfl, ?_⟩; have p46 : 0 ≤ (x5_1 : Int) := od_; have q46 : x5_1 < (a0.size : Int) := od_; have hx46 := bt_at a0 x5_1; replace p46 := eq_true p46; replace q46 := eq_true q46) | ((with_reducible refine gate_callee (f := 56) rfl ?_); refine goesL_ (some 18) rfl rfl Try.func56 (by kernel_rfl) rfl #[.string a0, .int .i64 x5_1] rfl (by (try simp only [List.map_toArray, List.map_cons, List.map_nil]); first | done | rfl | (simp only [List.length_drop, List.length_take]; rfl)) ?_; (with_reducible refine (spec_l3Mark.calls kj4 a0 x5_1 t182 _ A59.out).mono ?_); rintro e w' ⟨rfl, ⟨nd, rfl⟩⟩; refine ⟨_, rfl, ?_⟩) | ((with_reducible refine gate_dst (N := 21) rfl ?_); refine Kd.R_lit k44 _ 44 ?hg (N := 21) ?hd (xs := ([] : List (S44))) (inner := []) (ok := fun _ => True) (okp := fun _ => True) ?hr ?hp (fun _ hk => hk) trivial (Below.refl _ _) (Nat.le_refl _) (by simp) ?_; (case hd => rfl); (case hg => rfl); (case hr => first | (go_simp; done) | (go_simp; rfl)); (case hp => exact (Reps.none _ _)); intro v184 w61 ho62 hb hg_ hnew_; clear hg_ hnew_; (first | rw [← Ny183.out] at ho62 | (simp only [Int.reduceToNat] at ho62; rw [← Ny183.out] at ho62)); have n0_ := Aside0.mk (Kd.R_elder' (by (with_reducible repeat (first | apply Ra_ | apply Rn_ | apply Rd_)); exact HO_4.out) (Kd.R_base ho62) hb); have n1_ := Aside0.mk (Kd.R_lower (Kd.R_new' ho62 (Kd.R_lt (by (with_reducible repeat (first | apply Ra_ | apply Rn_ | apply Rd_)); exact HO_4.out))) (below_size (by repeat (first | (with_reducible first | exact HB.out | apply Ba_ | apply Bw_ | apply Bd_) | exact HB.out)))); have n2_ := Aside0.mk (below_step (by repeat (first | (with_reducible first | exact HB.out | apply Ba_ | apply Bw_ | apply Bd_) | exact HB.out)) hb); clear HO_4; clear HB; have HO_4 := n0_; have HO185 := n1_; have HB := n2_; clear n0_ n1_ n2_; clear hb ho62))
              go_ret2
              exact ⟨_, by first | rfl | (simp [errW_none, errW_some] <;> rfl) | (simp [*, errW_none, errW_some] <;> rfl) | (simp [isEmpty_ne_]; done) | (simp [*, isEmpty_ne_]; done), by (with_reducible repeat (first | apply Ra_ | apply Rn_ | apply Rd_)); exact Kd.R_mono HO185.out (fun _ hk => trivial), by repeat (first | (with_reducible first | exact HB.out | apply Ba_ | apply Bw_ | apply Bd_) | exact HB.out)⟩
             ·rw [if_neg c60] at H
              have c60b0 : (t182.toList == ([] : List UInt8)) = false := beq_eq_false_iff_ne.mpr c60
              have c60b1 : (t182.toList != ([] : List UInt8)) = true := bne_iff_ne.mpr c60
              by_cases c63 : x4_1.length < 4398046511104
              ·rw [if_pos c63] at H
               have LMc63 := Aside0.mk c63
               clear c63
               obtain ⟨y186, hy186⟩ : ∃ y_ : List (S44), y_ = (x4_1 ++ [(⟨4, t182, x5_1⟩ : S44)]) := ⟨_, rfl⟩
               replace H : (spec_Lex.l0 kj4 a0 y186 (wrap64 (x5_1 + (t182.size : Int)))) = some (r1, r2) := by first | (rw [hy186]; with_reducible exact H) | (have H2_ := (Option.bind_some _ _).symm.trans H; rw [hy186]; with_reducible exact H2_) | (have H2_ := (Option.bind_some _ _).symm.trans H; with_reducible exact H2_) | with_reducible exact H | (rw [hy186]; exact H) | exact H
               have Ny186 := Aside0.mk hy186
               clear hy186
               have H' := Aside0.mk H
               clear H
               have p13 : 0 ≤ (x5_1 : Int) := od_
               have q13 : x5_1 < (a0.size : Int) := od_
               have hx13 := bt_at a0 x5_1
               replace p13 := eq_true p13
               replace q13 := eq_true q13
               have p19 : 0 ≤ (x5_1 : Int) := od_
               have q19 : x5_1 < (a0.size : Int) := od_
               have hx19 := bt_at a0 x5_1
               replace p19 := eq_true p19
               replace q19 := eq_true q19
               go_wp2_with (first | ((with_reducible refine gate_callee (f := 51) rfl ?_); refine goesL_ (some 67) rfl rfl Try.func51 (by kernel_rfl) rfl #[.int .u8 (bt a0 x5_1)] rfl (by (try simp only [List.map_toArray, List.map_cons, List.map_nil]); first | done | rfl | (simp only [List.length_drop, List.length_take]; rfl)) ?_; (with_reducible refine (spec_l3Letter.calls (bt a0 x5_1) false _ A20.out).mono ?_); rintro e w' ⟨rfl, ⟨nd, rfl⟩⟩; refine ⟨_, rfl, ?_⟩; have p28 : 0 ≤ (x5_1 : Int) := od_; have q28 : x5_1 < (a0.size : Int) := od_; have hx28 := bt_at a0 x5_1; replace p28 := eq_true p28; replace q28 := eq_true q28) | ((with_reducible refine gate_callee (f := 53) rfl ?_); refine goesL_ (some 84) rfl rfl Try.func53 (by kernel_rfl) rfl #[.int .u8 (bt a0 x5_1)] rfl (by (try simp only [List.map_toArray, List.map_cons, List.map_nil]); first | done | rfl | (simp only [List.length_drop, List.length_take]; rfl)) ?_; (with_reducible refine (spec_l3Digit.calls (bt a0 x5_1) false _ A29.out).mono ?_); rintro e w' ⟨rfl, ⟨nd, rfl⟩⟩; refine ⟨_, rfl, ?_⟩; have p46 : 0 ≤ (x5_1 : Int) := od_; have q46 : x5_1 < (a0.size : Int) := od_; have hx46 := bt_at a0 x5_1; replace p46 := eq_true p46; replace q46 := eq_true q46) | ((with_reducible refine gate_callee (f := 56) rfl ?_); refine goesL_ (some 18) rfl rfl Try.func56 (by kernel_rfl) rfl #[.string a0, .int .i64 x5_1] rfl (by (try simp only [List.map_toArray, List.map_cons, List.map_nil]); first | done | rfl | (simp only [List.length_drop, List.length_take]; rfl)) ?_; (with_reducible refine (spec_l3Mark.calls kj4 a0 x5_1 t182 _ A59.out).mono ?_); rintro e w' ⟨rfl, ⟨nd, rfl⟩⟩; refine ⟨_, rfl, ?_⟩) | ((with_reducible refine gate_builtin (b := .append) (xs := #[.tmp 23, .tmp 27]) rfl ?_); at_builtin; refine Kd.R_append k44 (w0 := w) w.heap.size rfl (.tmp 23) (.tmp 27) 33 44 (.agg #[(.int .i64 0), (.string ⟨#[]⟩), (.int .i64 0)]) 32 rfl Try.underlying33 info44 rfl (by decide) (by omega) u4 x4_1 (⟨4, t182, x5_1⟩ : S44) [.int .i64 4, .string t182, .int .i64 x5_1] (fun _ => True) (fun _ => False) rfl rfl ?aP (fun _ hk => hk.elim) ?aF ?aO ?aB ?aS ?aL ?_; (case aP => exact k44_mkM _ _ _ (⟨4, t182, x5_1⟩ : S44)); (case aB => exact (by repeat (first | (with_reducible first | exact HB.out | apply Ba_ | apply Bw_ | apply Bd_) | exact HB.out))); (case aF => exact (fun _ _ => trivial)); (case aO => exact (by (with_reducible repeat (first | apply Ra_ | apply Rn_ | apply Rd_)); exact HO_4.out)); (case aS => exact (below_size (by repeat (first | (with_reducible first | exact HB.out | apply Ba_ | apply Bw_ | apply Bd_) | exact HB.out)))); (case aL => have := LMc63.out; omega); intro v187 w64 ho hb hg hat; rw [← Ny186.out] at ho; have n0_ := Aside0.mk (hb); have n1_ := Aside0.mk (ho); clear HB; clear HO_4; have HB := n0_; have HO188 := n1_; clear n0_ n1_; clear ho hb hg hat))
               go_roundg kj4
               case measure => have := HK1.out; have := HJ4.out; omega
               case rel => exact ⟨(y186), (wrap64 (x5_1 + (t182.size : Int))), (by first | rfl | (simp; done) | (simp [*]; done)), H', ⟨by have := HK1.out; have := HJ4.out; omega⟩, ⟨by (with_reducible repeat (first | apply Ra_ | apply Rn_ | apply Rd_)); exact HO188.out⟩, ⟨by repeat (first | (with_reducible first | exact HB.out | apply Ba_ | apply Bw_ | apply Bd_) | exact HB.out)⟩⟩
              ·rw [if_neg c63] at H
               exact absurd H (by simp)
        ·rw [if_neg c12] at H
         exact absurd H (by simp)
       ·rw [if_neg c11] at H
        exact absurd H (by simp)
   ·rw [if_neg c4] at H
    have c4b0 : decide (x5_1 < (a0.size : Int)) = false := decide_eq_false c4
    clear c4
    simp only [Option.some.injEq, Prod.mk.injEq] at H
    obtain ⟨rfl, rfl⟩ := H
    go_wp2
    go_ret2
    exact ⟨_, by first | rfl | (simp [errW_none, errW_some] <;> rfl) | (simp [*, errW_none, errW_some] <;> rfl) | (simp [isEmpty_ne_]; done) | (simp [*, isEmpty_ne_]; done), by (with_reducible repeat (first | apply Ra_ | apply Rn_ | apply Rd_)); exact HO_4.out, by repeat (first | (with_reducible first | exact HB.out | apply Ba_ | apply Bw_ | apply Bd_) | exact HB.out)⟩

end Go.Proofs.Ytmkhoakhfdjplaa.PFnTokens
