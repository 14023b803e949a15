-- Written by a program of this session (wip/mkx.py), which extends the kit's print.
import Derived.Test.YtmkhoakhfdjplaaPFnTokensx0
import Derived.Test.YtmkhoakhfdjplaaPFnTokensx2
namespace Go.Proofs.Ytmkhoakhfdjplaa.PFnTokens
open Go.RowKit Go.Proofs.YtmkhoakhfdjplaaW.PrintWords Go.Proofs.YtmkhoakhfdjplaaW.PrintLast Go.Proofs.YtmkhoakhfdjplaaW.PrintMore
attribute [local go_sem] max2_int min2_int max_two min_two max_three min_three max_four min_four   -- for this text's walks alone
set_option linter.unusedVariables false
set_option linter.unusedSimpArgs false

/-! ### impl_Lex: function 16 -/
mutual
def impl_Lex.l0 : Nat → ByteArray → List (S44) → Int → Option ((List (S44)) × Int)
 | 0, _, _, _ => none
 | k + 1, x0, x4, x5 => if x5 < (x0.size : Int) then (if 0 ≤ x5 then (if (bt x0 x5) = 32 then (impl_Lex.j1 k x0 x4 x5 (bt x0 x5) ((bt x0 x5) == 32)) else (impl_Lex.j1 k x0 x4 x5 (bt x0 x5) ((bt x0 x5) == 10))) else (none)) else (some (x4, (-1)))
def impl_Lex.j1 : Nat → ByteArray → List (S44) → Int → Int → Bool → Option ((List (S44)) × Int)
 | 0, _, _, _, _, _ => none
 | k + 1, x0, x4, x5, x15, x16 => if x16 = true then (impl_Lex.l0 k x0 x4 (wrap64 (x5 + 1))) else (if x15 = 35 then (impl_Lex.l1 k x0 x4 x5) else (if 0 ≤ x5 then (if x5 ≤ (x0.size : Int) then ((impl_tokenAt.f k (x0.extract (x5 : Int).toNat x0.size)).bind fun bt132 => (if bt132.2.2.2 = 0 then (some ((([] : List (S44))), x5)) else (if x4.length < 4398046511104 then (impl_Lex.l0 k x0 (x4 ++ [(⟨bt132.1, bt132.2.1, x5⟩ : S44)]) (wrap64 (x5 + bt132.2.2.2))) else (none)))) else (none)) else (none)))
def impl_Lex.l1 : Nat → ByteArray → List (S44) → Int → Option ((List (S44)) × Int)
 | 0, _, _, _ => none
 | k + 1, x0, x4, x5 => if x5 < (x0.size : Int) then (if 0 ≤ x5 then (if (bt x0 x5) = 10 then (impl_Lex.l0 k x0 x4 x5) else (impl_Lex.l1 k x0 x4 (wrap64 (x5 + 1)))) else (none)) else (impl_Lex.l0 k x0 x4 x5)
end
def impl_Lex.f (k : Nat) (a0 : ByteArray) : Option ((List (S44)) × Int) := impl_Lex.l0 k a0 (([] : List (S44))) 0
theorem impl_Lex.mono_l : ∀ k, (∀ y0 y1 y2, LeO (impl_Lex.l0 k y0 y1 y2) (impl_Lex.l0 (k + 1) y0 y1 y2)) ∧ (∀ y0 y1 y2 y3 y4, LeO (impl_Lex.j1 k y0 y1 y2 y3 y4) (impl_Lex.j1 (k + 1) y0 y1 y2 y3 y4)) ∧ (∀ y0 y1 y2, LeO (impl_Lex.l1 k y0 y1 y2) (impl_Lex.l1 (k + 1) y0 y1 y2))
 | 0 => ⟨fun _ _ _ r h => by simp [impl_Lex.l0] at h, fun _ _ _ _ _ r h => by simp [impl_Lex.j1] at h, fun _ _ _ r h => by simp [impl_Lex.l1] at h⟩
 | k + 1 => by
  obtain ⟨ih0, ih1, ih2⟩ := impl_Lex.mono_l k
  refine ⟨?_, ?_, ?_⟩
  ·intro y0 y1 y2
   unfold impl_Lex.l0
   repeat' first
   | (with_reducible exact ih0 _ _ _)
   | (with_reducible exact ih1 _ _ _ _ _)
   | (with_reducible exact ih2 _ _ _)
   | (with_reducible exact impl_tokenAt.mono _ _)
   | (with_reducible exact LeO.refl _)
   | (with_reducible exact LeO.none _)
   | (with_reducible refine LeO.ite ?_ ?_)
   | (with_reducible refine LeO.bind ?_ (fun _ => ?_))
   | exact ih0 _ _ _
   | exact ih1 _ _ _ _ _
   | exact ih2 _ _ _
   | exact impl_tokenAt.mono _ _
   | exact LeO.none _
   | refine LeO.ite ?_ ?_
   | refine LeO.bind ?_ (fun _ => ?_)
  ·intro y0 y1 y2 y3 y4
   unfold impl_Lex.j1
   repeat' first
   | (with_reducible exact ih0 _ _ _)
   | (with_reducible exact ih1 _ _ _ _ _)
   | (with_reducible exact ih2 _ _ _)
   | (with_reducible exact impl_tokenAt.mono _ _)
   | (with_reducible exact LeO.refl _)
   | (with_reducible exact LeO.none _)
   | (with_reducible refine LeO.ite ?_ ?_)
   | (with_reducible refine LeO.bind ?_ (fun _ => ?_))
   | exact ih0 _ _ _
   | exact ih1 _ _ _ _ _
   | exact ih2 _ _ _
   | exact impl_tokenAt.mono _ _
   | exact LeO.none _
   | refine LeO.ite ?_ ?_
   | refine LeO.bind ?_ (fun _ => ?_)
  ·intro y0 y1 y2
   unfold impl_Lex.l1
   repeat' first
   | (with_reducible exact ih0 _ _ _)
   | (with_reducible exact ih1 _ _ _ _ _)
   | (with_reducible exact ih2 _ _ _)
   | (with_reducible exact impl_tokenAt.mono _ _)
   | (with_reducible exact LeO.refl _)
   | (with_reducible exact LeO.none _)
   | (with_reducible refine LeO.ite ?_ ?_)
   | (with_reducible refine LeO.bind ?_ (fun _ => ?_))
   | exact ih0 _ _ _
   | exact ih1 _ _ _ _ _
   | exact ih2 _ _ _
   | exact impl_tokenAt.mono _ _
   | exact LeO.none _
   | refine LeO.ite ?_ ?_
   | refine LeO.bind ?_ (fun _ => ?_)
theorem impl_Lex.mono : ∀ a0 k, LeO (impl_Lex.f k a0) (impl_Lex.f (k + 1) a0) := by
 intro a0 k
 obtain ⟨ih0, ih1, ih2⟩ := impl_Lex.mono_l k
 unfold impl_Lex.f
 repeat' first
   | (with_reducible exact ih0 _ _ _)
   | (with_reducible exact ih1 _ _ _ _ _)
   | (with_reducible exact ih2 _ _ _)
   | (with_reducible exact impl_tokenAt.mono _ _)
   | (with_reducible exact LeO.refl _)
   | (with_reducible exact LeO.none _)
   | (with_reducible refine LeO.ite ?_ ?_)
   | (with_reducible refine LeO.bind ?_ (fun _ => ?_))
   | exact ih0 _ _ _
   | exact ih1 _ _ _ _ _
   | exact ih2 _ _ _
   | exact impl_tokenAt.mono _ _
   | exact LeO.none _
   | refine LeO.ite ?_ ?_
   | refine LeO.bind ?_ (fun _ => ?_)
set_option maxHeartbeats 8000000 in
set_option maxRecDepth 100000 in
theorem impl_Lex.calls (k : Nat) (a0 : ByteArray) (r1 : List (S44)) (r2 : Int) (w : World) (h : impl_Lex.f k a0 = some (r1, r2)) :
  Calls Try.prog 16 #[.string a0] w fun e w' => ∃ v0_ : Value, e = .returned (.tuple #[v0_, .int .i64 r2]) ∧ Kd.R k44 44 w' w.heap.size (fun _ => True) v0_ r1 ∧ Below w.heap.size w w' := by
 have hu44 := Try.underlying44
 have HB := Aside0.mk (Below.refl w.heap.size w)
 have H : (impl_Lex.l0 k a0 (([] : List (S44))) 0) = some (r1, r2) := h
 clear h
 obtain ⟨y129, hy129⟩ : ∃ y_ : List (S44), y_ = (([] : List (S44))) := ⟨_, rfl⟩
 replace H : (impl_Lex.l0 k a0 y129 0) = some (r1, r2) := by first | (rw [hy129]; with_reducible exact H) | (have H2_ := (Option.bind_some _ _).symm.trans H; rw [hy129]; with_reducible exact H2_) | (have H2_ := (Option.bind_some _ _).symm.trans H; with_reducible exact H2_) | with_reducible exact H | (rw [hy129]; exact H) | exact H
 have Ny129 := Aside0.mk hy129
 clear hy129
 have H' := Aside0.mk H
 clear H
 go_enter Try.func16, Try.ntmps16
 go_wp2_with (first | ((with_reducible refine gate_dst (N := 8) rfl ?_); refine Kd.R_lit k44 _ 44 ?hg (N := 8) ?hd (xs := ([] : List (S44))) (inner := []) (ok := fun _ => True) (okp := fun _ => True) ?hr ?hp (fun _ hk => hk) trivial (Below.refl _ _) (Nat.le_refl _) (by simp) ?_; (case hd => rfl); (case hg => rfl); (case hr => first | (go_simp; done) | (go_simp; rfl)); (case hp => exact (Reps.none _ _)); intro v130 w2 ho3 hb hg_ hnew_; clear hg_ hnew_; (first | rw [← Ny129.out] at ho3 | (simp only [Int.reduceToNat] at ho3; rw [← Ny129.out] at ho3)); have n0_ := Aside0.mk (Kd.R_lower ho3 (below_size (by repeat (first | (with_reducible first | exact HB.out | apply Ba_ | apply Bw_ | apply Bd_) | exact HB.out)))); have n1_ := Aside0.mk (below_step (by repeat (first | (with_reducible first | exact HB.out | apply Ba_ | apply Bw_ | apply Bd_) | exact HB.out)) hb); clear HB; have HO131 := n0_; have HB := n1_; clear n0_ n1_; clear hb ho3))
 go_loopg [4, 5] k (fun kq v4 v5 w' => ∃ (x4_1 : List (S44)) (x5_1 : Int), v5 = .int .i64 x5_1 ∧ Aside0 (impl_Lex.l0 kq a0 x4_1 x5_1 = some (r1, r2)) ∧ Aside0 (kq ≤ k) ∧ Aside0 (Kd.R k44 44 w' w.heap.size (fun _ => True) v4 x4_1) ∧ Aside0 (Below w.heap.size w w'))
 case atStart => exact ⟨(y129), (0), (by first | rfl | (simp; done) | (simp [*]; done)), H', ⟨Nat.le_refl _⟩, ⟨by (with_reducible repeat (first | apply Ra_ | apply Rn_ | apply Rd_)); exact HO131.out⟩, ⟨by repeat (first | (with_reducible first | exact HB.out | apply Ba_ | apply Bw_ | apply Bd_) | exact HB.out)⟩⟩
 case round =>
  clear H'
  try clear c1
  try clear p2
  obtain ⟨x4_1, x5_1, rfl, HA, HK1, HO_4, HB⟩ := hrel
  cases gk with
  | zero => exact absurd HA.out (by simp [impl_Lex.l0])
  | succ k1 =>
   have H := HA.out
   clear HA
   simp only [impl_Lex.l0] at H
   by_cases c4 : x5_1 < (a0.size : Int)
   ·rw [if_pos c4] at H
    have c4b0 : decide (x5_1 < (a0.size : Int)) = true := decide_eq_true c4
    clear c4
    by_cases c5 : 0 ≤ x5_1
    ·rw [if_pos c5] at H
     have c5b0 : decide (0 ≤ x5_1) = true := decide_eq_true c5
     clear c5
     have HC7 := Aside0.mk H
     clear H
     have p6 : 0 ≤ (x5_1 : Int) := od_
     have q6 : x5_1 < (a0.size : Int) := od_
     have hx6 := bt_at a0 x5_1
     replace p6 := eq_true p6
     replace q6 := eq_true q6
     go_upto_if 16 with (fail)
     go_cut [16] (fun v16 wc => ∃ (kq : Nat) (x16_6 : Bool), v16 = .bool x16_6 ∧ Aside0 (impl_Lex.j1 kq a0 x4_1 x5_1 (bt a0 x5_1) x16_6 = some (r1, r2)) ∧ Aside0 (kq ≤ k1) ∧ Aside0 (Kd.R k44 44 wc w.heap.size (fun _ => True) u4 x4_1) ∧ Aside0 (Below w.heap.size w wc))
     case first =>
      have H := HC7.out
      clear HC7
      by_cases c8 : (bt a0 x5_1) = 32
      ·rw [if_pos c8] at H
       have c8b0 : ((bt a0 x5_1) == 32) = true := beq_iff_eq.mpr c8
       have c8b1 : ((bt a0 x5_1) != 32) = false := bne_eq_false_iff_eq.mpr c8
       clear c8
       (first | rw [c8b0] | (simp only [i64_w, i32_w]; rw [c8b0]) | skip)
       have H' := Aside0.mk H
       clear H
       go_wp2
       go_meet
       case rel => exact ⟨_, (((bt a0 x5_1) == 32)), (by first | rfl | (simp; done) | (simp [*]; done)), H', ⟨by have := HK1.out; first | omega | exact Nat.le_refl _⟩, ⟨by (with_reducible repeat (first | apply Ra_ | apply Rn_ | apply Rd_)); exact HO_4.out⟩, ⟨by repeat (first | (with_reducible first | exact HB.out | apply Ba_ | apply Bw_ | apply Bd_) | exact HB.out)⟩⟩
      ·rw [if_neg c8] at H
       have c8b0 : ((bt a0 x5_1) == 32) = false := beq_eq_false_iff_ne.mpr c8
       have c8b1 : ((bt a0 x5_1) != 32) = true := bne_iff_ne.mpr c8
       (first | rw [c8b0] | (simp only [i64_w, i32_w]; rw [c8b0]) | skip)
       have H' := Aside0.mk H
       clear H
       go_wp2
       go_meet
       case rel => exact ⟨_, (((bt a0 x5_1) == 10)), (by first | rfl | (simp; done) | (simp [*]; done)), H', ⟨by have := HK1.out; first | omega | exact Nat.le_refl _⟩, ⟨by (with_reducible repeat (first | apply Ra_ | apply Rn_ | apply Rd_)); exact HO_4.out⟩, ⟨by repeat (first | (with_reducible first | exact HB.out | apply Ba_ | apply Bw_ | apply Bd_) | exact HB.out)⟩⟩
     case rest =>
      clear HC7
      try clear c1
      try clear p2
      try clear c4
      try clear c4b0
      try clear c5
      try clear c5b0
      try clear p6
      try clear q6
      try clear hx6
      try clear c8
      try clear c8b0
      try clear c8b1
      try clear p2
      try clear p6
      try clear q6
      obtain ⟨kq, x16_6, rfl, HA, HJ6, HO_4, HB⟩ := hcut
      cases kq with
      | zero => exact absurd HA.out (by simp [impl_Lex.j1])
      | succ kj6 =>
       have H := HA.out
       clear HA
       simp only [impl_Lex.j1] at H
       by_cases c9 : x16_6 = true
       ·subst c9
        have H1 : (impl_Lex.l0 kj6 a0 x4_1 (wrap64 (x5_1 + 1))) = some (r1, r2) := by rw [if_pos rfl] at H; exact H
        clear H
        have H := H1
        clear H1
        have H' := Aside0.mk H
        clear H
        go_wp2
        go_roundg kj6
        case measure => have := HK1.out; have := HJ6.out; omega
        case rel => exact ⟨(x4_1), (wrap64 (x5_1 + 1)), (by first | rfl | (simp; done) | (simp [*]; done)), H', ⟨by have := HK1.out; have := HJ6.out; omega⟩, ⟨by (with_reducible repeat (first | apply Ra_ | apply Rn_ | apply Rd_)); exact HO_4.out⟩, ⟨by repeat (first | (with_reducible first | exact HB.out | apply Ba_ | apply Bw_ | apply Bd_) | exact HB.out)⟩⟩
       ·replace c9 := Bool.eq_false_iff.mpr c9
        subst c9
        have H1 : (if (bt a0 x5_1) = 35 then (impl_Lex.l1 kj6 a0 x4_1 x5_1) else (if 0 ≤ x5_1 then (if x5_1 ≤ (a0.size : Int) then ((impl_tokenAt.f kj6 (a0.extract (x5_1 : Int).toNat a0.size)).bind fun bt132 => (if bt132.2.2.2 = 0 then (some ((([] : List (S44))), x5_1)) else (if x4_1.length < 4398046511104 then (impl_Lex.l0 kj6 a0 (x4_1 ++ [(⟨bt132.1, bt132.2.1, x5_1⟩ : S44)]) (wrap64 (x5_1 + bt132.2.2.2))) else (none)))) else (none)) else (none))) = some (r1, r2) := by rw [if_neg (show ¬ (false = true) by decide)] at H; exact H
        clear H
        have H := H1
        clear H1
        by_cases c10 : (bt a0 x5_1) = 35
        ·rw [if_pos c10] at H
         have c10b0 : ((bt a0 x5_1) == 35) = true := beq_iff_eq.mpr c10
         have c10b1 : ((bt a0 x5_1) != 35) = false := bne_eq_false_iff_eq.mpr c10
         clear c10
         have H' := Aside0.mk H
         clear H
         go_wp2
         go_loopg [5] kj6 (fun kq v5 w' => ∃ (x5_3 : Int), v5 = .int .i64 x5_3 ∧ Aside0 (impl_Lex.l1 kq a0 x4_1 x5_3 = some (r1, r2)) ∧ Aside0 (kq ≤ kj6) ∧ Aside0 (Kd.R k44 44 w' w.heap.size (fun _ => True) u4 x4_1) ∧ Aside0 (Below w.heap.size w w'))
         case atStart => exact ⟨(x5_1), (by first | rfl | (simp; done) | (simp [*]; done)), H', ⟨Nat.le_refl _⟩, ⟨by (with_reducible repeat (first | apply Ra_ | apply Rn_ | apply Rd_)); exact HO_4.out⟩, ⟨by repeat (first | (with_reducible first | exact HB.out | apply Ba_ | apply Bw_ | apply Bd_) | exact HB.out)⟩⟩
         case round =>
          clear H'
          try clear c1
          try clear p2
          try clear c4
          try clear c4b0
          try clear c5
          try clear c5b0
          try clear p6
          try clear q6
          try clear hx6
          try clear c8
          try clear c8b0
          try clear c8b1
          try clear c9
          try clear c10
          try clear c10b0
          try clear c10b1
          try clear p2
          try clear p6
          try clear q6
          obtain ⟨x5_3, rfl, HA, HK3, HO_4, HB⟩ := hrel
          cases gk with
          | zero => exact absurd HA.out (by simp [impl_Lex.l1])
          | succ k3 =>
           have H := HA.out
           clear HA
           simp only [impl_Lex.l1] at H
           by_cases c11 : x5_3 < (a0.size : Int)
           ·rw [if_pos c11] at H
            have c11b0 : decide (x5_3 < (a0.size : Int)) = true := decide_eq_true c11
            clear c11
            by_cases c12 : 0 ≤ x5_3
            ·rw [if_pos c12] at H
             have c12b0 : decide (0 ≤ x5_3) = true := decide_eq_true c12
             clear c12
             by_cases c14 : (bt a0 x5_3) = 10
             ·rw [if_pos c14] at H
              have c14b0 : ((bt a0 x5_3) == 10) = true := beq_iff_eq.mpr c14
              have c14b1 : ((bt a0 x5_3) != 10) = false := bne_eq_false_iff_eq.mpr c14
              clear c14
              have H' := Aside0.mk H
              clear H
              have p13 : 0 ≤ (x5_3 : Int) := od_
              have q13 : x5_3 < (a0.size : Int) := od_
              have hx13 := bt_at a0 x5_3
              replace p13 := eq_true p13
              replace q13 := eq_true q13
              go_wp2
              go_roundg k3
              case measure => have := HK1.out; have := HJ6.out; have := HK3.out; omega
              case rel => exact ⟨(x4_1), (x5_3), (by first | rfl | (simp; done) | (simp [*]; done)), H', ⟨by have := HK1.out; have := HJ6.out; have := HK3.out; omega⟩, ⟨by (with_reducible repeat (first | apply Ra_ | apply Rn_ | apply Rd_)); exact HO_4.out⟩, ⟨by repeat (first | (with_reducible first | exact HB.out | apply Ba_ | apply Bw_ | apply Bd_) | exact HB.out)⟩⟩
             ·rw [if_neg c14] at H
              have c14b0 : ((bt a0 x5_3) == 10) = false := beq_eq_false_iff_ne.mpr c14
              have c14b1 : ((bt a0 x5_3) != 10) = true := bne_iff_ne.mpr c14
              have H' := Aside0.mk H
              clear H
              have p13 : 0 ≤ (x5_3 : Int) := od_
              have q13 : x5_3 < (a0.size : Int) := od_
              have hx13 := bt_at a0 x5_3
              replace p13 := eq_true p13
              replace q13 := eq_true q13
              go_wp2
              go_roundg k3
              case measure => have := HK1.out; have := HJ6.out; have := HK3.out; omega
              case rel => exact ⟨(wrap64 (x5_3 + 1)), (by first | rfl | (simp; done) | (simp [*]; done)), H', ⟨by have := HK1.out; have := HJ6.out; have := HK3.out; omega⟩, ⟨by (with_reducible repeat (first | apply Ra_ | apply Rn_ | apply Rd_)); exact HO_4.out⟩, ⟨by repeat (first | (with_reducible first | exact HB.out | apply Ba_ | apply Bw_ | apply Bd_) | exact HB.out)⟩⟩
            ·rw [if_neg c12] at H
             exact absurd H (by simp)
           ·rw [if_neg c11] at H
            have c11b0 : decide (x5_3 < (a0.size : Int)) = false := decide_eq_false c11
            clear c11
            have H' := Aside0.mk H
            clear H
            go_wp2
            go_roundg k3
            case measure => have := HK1.out; have := HJ6.out; have := HK3.out; omega
            case rel => exact ⟨(x4_1), (x5_3), (by first | rfl | (simp; done) | (simp [*]; done)), H', ⟨by have := HK1.out; have := HJ6.out; have := HK3.out; omega⟩, ⟨by (with_reducible repeat (first | apply Ra_ | apply Rn_ | apply Rd_)); exact HO_4.out⟩, ⟨by repeat (first | (with_reducible first | exact HB.out | apply Ba_ | apply Bw_ | apply Bd_) | exact HB.out)⟩⟩
        ·rw [if_neg c10] at H
         have c10b0 : ((bt a0 x5_1) == 35) = false := beq_eq_false_iff_ne.mpr c10
         have c10b1 : ((bt a0 x5_1) != 35) = true := bne_iff_ne.mpr c10
         by_cases c15 : 0 ≤ x5_1
         ·rw [if_pos c15] at H
          have c15b0 := eq_true c15
          have c15b1 : decide (0 ≤ x5_1) = true := decide_eq_true c15
          clear c15
          by_cases c16 : x5_1 ≤ (a0.size : Int)
          ·rw [if_pos c16] at H
           have c16b0 := eq_true c16
           have c16b1 : decide (x5_1 ≤ (a0.size : Int)) = true := decide_eq_true c16
           clear c16
           replace H := Option.bind_eq_some_iff.mp H
           obtain ⟨⟨t132, t133, t134, t135⟩, A170, H⟩ := H
           replace H : (if t135 = 0 then (some ((([] : List (S44))), x5_1)) else (if x4_1.length < 4398046511104 then (impl_Lex.l0 kj6 a0 (x4_1 ++ [(⟨t132, t133, x5_1⟩ : S44)]) (wrap64 (x5_1 + t135))) else (none))) = some (r1, r2) := H
           have A17 := Aside0.mk A170
           clear A170
           by_cases c18 : t135 = 0
           ·rw [if_pos c18] at H
            have c18b0 : (t135 == 0) = true := beq_iff_eq.mpr c18
            have c18b1 : (t135 != 0) = false := bne_eq_false_iff_eq.mpr c18
            clear c18
            obtain ⟨y137, hy137⟩ : ∃ y_ : List (S44), y_ = (([] : List (S44))) := ⟨_, rfl⟩
            replace H : (some (y137, x5_1)) = some (r1, r2) := by first | (rw [hy137]; with_reducible exact H) | (have H2_ := (Option.bind_some _ _).symm.trans H; rw [hy137]; with_reducible exact H2_) | (have H2_ := (Option.bind_some _ _).symm.trans H; with_reducible exact H2_) | with_reducible exact H | (rw [hy137]; exact H) | exact H
            have Ny137 := Aside0.mk hy137
            clear hy137
            simp only [Option.some.injEq, Prod.mk.injEq] at H
            obtain ⟨rfl, rfl⟩ := H
            go_wp2_with (first | ((with_reducible refine gate_callee (f := 57) rfl ?_); refine goesL_ (some 39) rfl rfl Try.func57 (by kernel_rfl) rfl #[.string (a0.extract (x5_1 : Int).toNat a0.size)] rfl (by (try simp only [List.map_toArray, List.map_cons, List.map_nil]); first | done | rfl | (simp only [List.length_drop, List.length_take]; rfl)) ?_; (with_reducible refine (impl_tokenAt.calls kj6 (a0.extract (x5_1 : Int).toNat a0.size) t132 t133 t134 t135 _ A17.out).mono ?_); rintro e w19 ⟨rfl, hb⟩; refine ⟨_, rfl, ?_⟩; have n0_ := Aside0.mk (Kd.R_below (by (with_reducible repeat (first | apply Ra_ | apply Rn_ | apply Rd_)); exact HO_4.out) hb); have n1_ := Aside0.mk (below_step (by repeat (first | (with_reducible first | exact HB.out | apply Ba_ | apply Bw_ | apply Bd_) | exact HB.out)) hb); clear HO_4; clear HB; have HO_4 := n0_; have HB := n1_; clear n0_ n1_; (try clear hb); (try clear hb2); (try clear hk); (try clear hi)) | ((with_reducible refine gate_dst (N := 6) rfl ?_); refine box_event ?hg (N := 6) ?hd (cs := #[.int .i64 0, .string (⟨#[]⟩ : ByteArray), .int .i64 0]) (t := 44) ?hr ?_; (case hd => rfl); (case hg => rfl); (case hr => first | (go_simp; done) | (go_simp; rfl)); intro gb136 hg w20 hbox hb; have n0_ := Aside0.mk (Kd.R_below (Kd.R_elderB (by (with_reducible repeat (first | apply Ra_ | apply Rn_ | apply Rd_)); exact HO_4.out) gb136 (Nat.le_of_eq hg.symm)) hb); have n1_ := Aside0.mk (below_step (by repeat (first | (with_reducible first | exact HB.out | apply Ba_ | apply Bw_ | apply Bd_) | exact HB.out)) hb); have n2_ := Aside0.mk (hbox); have n3_ := Aside0.mk ((by rw [hg]; exact (below_size (by repeat (first | (with_reducible first | exact HB.out | apply Ba_ | apply Bw_ | apply Bd_) | exact HB.out))) : w.heap.size ≤ gb136)); have n4_ := Aside0.mk ((by rw [hg]; exact (below_size (by repeat (first | (with_reducible first | exact HB.out | apply Ba_ | apply Bw_ | apply Bd_) | exact HB.out))) : w.heap.size ≤ gb136)); clear HO_4; clear HB; have HO_4 := n0_; have HB := n1_; have BK136 := n2_; have GW136 := n3_; have GE136 := n4_; clear n0_ n1_ n2_ n3_ n4_; clear hb hbox hg; have hcz21_0 : w20.cell? ⟨gb136, 0, none⟩ = some (.int .i64 0) := (blk_cell BK136.out 0).trans rfl; have hcz21_1 : w20.cell? ⟨gb136, 1, none⟩ = some (.string (⟨#[]⟩ : ByteArray)) := (blk_cell BK136.out 1).trans rfl; have hcz21_2 : w20.cell? ⟨gb136, 2, none⟩ = some (.int .i64 0) := (blk_cell BK136.out 2).trans rfl; have hfz21_0 := blk_frozen BK136.out 0; have hfz21_1 := blk_frozen BK136.out 1; have hfz21_2 := blk_frozen BK136.out 2; have hcs_ : ∀ a_ b_ c_ d_ : Value, ((((w20.setCell ⟨gb136, 0, none⟩ a_).setCell ⟨gb136, 1, none⟩ b_).setCell ⟨gb136, 2, none⟩ c_).setCell ⟨gb136, 2, none⟩ d_).cell? ⟨gb136, 2, none⟩ = some d_ := fun a_ b_ c_ d_ => (blk_cell (blk_set (blk_set (blk_set (blk_set BK136.out 0 a_) 1 b_) 2 c_) 2 d_) 2).trans rfl) | ((with_reducible refine gate_dst (N := 44) rfl ?_); refine Kd.R_lit k44 _ 44 ?hg (N := 44) ?hd (xs := ([] : List (S44))) (inner := []) (ok := fun _ => True) (okp := fun _ => True) ?hr ?hp (fun _ hk => hk) trivial (Below.refl _ _) (Nat.le_refl _) (by simp) ?_; (case hd => rfl); (case hg => rfl); (case hr => first | (go_simp; done) | (go_simp; rfl)); (case hp => exact (Reps.none _ _)); intro v138 w22 ho23 hb hg_ hnew_; clear hg_ hnew_; (first | rw [← Ny137.out] at ho23 | (simp only [Int.reduceToNat] at ho23; rw [← Ny137.out] at ho23)); have n0_ := Aside0.mk (Kd.R_elder' (by (with_reducible repeat (first | apply Ra_ | apply Rn_ | apply Rd_)); exact (Kd.R_mono (Kd.R_far (p := ⟨gb136, 2, none⟩) (Kd.R_far (p := ⟨gb136, 1, none⟩) (Kd.R_far (p := ⟨gb136, 0, none⟩) (Kd.R_mono HO_4.out (fun k_ hk => (⟨hk, hk.2⟩ : _ ∧ k_ ≠ gb136))) (fun _ hk => hk.2) (.int .i64 t132)) (fun _ hk => hk.2) (.string t133)) (fun _ hk => hk.2) (.int .i64 t134)) (fun _ h_ => h_.1))) (Kd.R_base ho23) hb); have n1_ := Aside0.mk (Kd.R_lower (Kd.R_newB (Kd.R_new' ho23 (Kd.R_lt (by (with_reducible repeat (first | apply Ra_ | apply Rn_ | apply Rd_)); exact (Kd.R_mono (Kd.R_far (p := ⟨gb136, 2, none⟩) (Kd.R_far (p := ⟨gb136, 1, none⟩) (Kd.R_far (p := ⟨gb136, 0, none⟩) (Kd.R_mono HO_4.out (fun k_ hk => (⟨hk, hk.2⟩ : _ ∧ k_ ≠ gb136))) (fun _ hk => hk.2) (.int .i64 t132)) (fun _ hk => hk.2) (.string t133)) (fun _ hk => hk.2) (.int .i64 t134)) (fun _ h_ => h_.1))))) (g := gb136) (o := .cells #[.int .i64 t132, .string t133, .int .i64 t134] 44 (0, 0)) (by (with_reducible repeat (first | refine Fn_ ?_ _ | refine Fd_ ?_ | refine Fa_ ?_ _)); refine blk_put (cs := #[.int .i64 t132, .string t133, .int .i64 0]) ?_ 2 _ rfl; (with_reducible repeat (first | refine Fn_ ?_ _ | refine Fd_ ?_ | refine Fa_ ?_ _)); refine blk_put (cs := #[.int .i64 t132, .string (⟨#[]⟩ : ByteArray), .int .i64 0]) ?_ 1 _ rfl; (with_reducible repeat (first | refine Fn_ ?_ _ | refine Fd_ ?_ | refine Fa_ ?_ _)); refine blk_put (cs := #[.int .i64 0, .string (⟨#[]⟩ : ByteArray), .int .i64 0]) ?_ 0 _ rfl; (with_reducible repeat (first | refine Fn_ ?_ _ | refine Fd_ ?_ | refine Fa_ ?_ _)); exact BK136.out)) (below_size (by repeat (first | (with_reducible first | exact HB.out | apply Ba_ | apply Bw_ | apply Bd_ | refine below_set ?_ GE136.out) | exact HB.out)))); have n2_ := Aside0.mk (blk_below (g := gb136) (o := .cells #[.int .i64 t132, .string t133, .int .i64 t134] 44 (0, 0)) (by (with_reducible repeat (first | refine Fn_ ?_ _ | refine Fd_ ?_ | refine Fa_ ?_ _)); refine blk_put (cs := #[.int .i64 t132, .string t133, .int .i64 0]) ?_ 2 _ rfl; (with_reducible repeat (first | refine Fn_ ?_ _ | refine Fd_ ?_ | refine Fa_ ?_ _)); refine blk_put (cs := #[.int .i64 t132, .string (⟨#[]⟩ : ByteArray), .int .i64 0]) ?_ 1 _ rfl; (with_reducible repeat (first | refine Fn_ ?_ _ | refine Fd_ ?_ | refine Fa_ ?_ _)); refine blk_put (cs := #[.int .i64 0, .string (⟨#[]⟩ : ByteArray), .int .i64 0]) ?_ 0 _ rfl; (with_reducible repeat (first | refine Fn_ ?_ _ | refine Fd_ ?_ | refine Fa_ ?_ _)); exact BK136.out) hb); have n3_ := Aside0.mk (below_step (by repeat (first | (with_reducible first | exact HB.out | apply Ba_ | apply Bw_ | apply Bd_ | refine below_set ?_ GE136.out) | exact HB.out)) hb); clear HO_4; clear BK136; clear HB; have HO_4 := n0_; have HO139 := n1_; have BK136 := n2_; have HB := n3_; clear n0_ n1_ n2_ n3_; clear hb ho23))
            go_ret2
            exact ⟨_, by first | rfl | (simp [errW_none, errW_some] <;> rfl) | (simp [*, errW_none, errW_some] <;> rfl) | (simp [isEmpty_ne_]; done) | (simp [*, isEmpty_ne_]; done), by (with_reducible repeat (first | apply Ra_ | apply Rn_ | apply Rd_)); exact Kd.R_mono HO139.out (fun _ hk => trivial), by repeat (first | (with_reducible first | exact HB.out | apply Ba_ | apply Bw_ | apply Bd_ | refine below_set ?_ GE136.out) | exact HB.out)⟩
           ·rw [if_neg c18] at H
            have c18b0 : (t135 == 0) = false := beq_eq_false_iff_ne.mpr c18
            have c18b1 : (t135 != 0) = true := bne_iff_ne.mpr c18
            by_cases c24 : x4_1.length < 4398046511104
            ·rw [if_pos c24] at H
             have LMc24 := Aside0.mk c24
             clear c24
             obtain ⟨y140, hy140⟩ : ∃ y_ : List (S44), y_ = (x4_1 ++ [(⟨t132, t133, x5_1⟩ : S44)]) := ⟨_, rfl⟩
             replace H : (impl_Lex.l0 kj6 a0 y140 (wrap64 (x5_1 + t135))) = some (r1, r2) := by first | (rw [hy140]; with_reducible exact H) | (have H2_ := (Option.bind_some _ _).symm.trans H; rw [hy140]; with_reducible exact H2_) | (have H2_ := (Option.bind_some _ _).symm.trans H; with_reducible exact H2_) | with_reducible exact H | (rw [hy140]; exact H) | exact H
             have Ny140 := Aside0.mk hy140
             clear hy140
             have H' := Aside0.mk H
             clear H
             go_wp2_with (first | ((with_reducible refine gate_callee (f := 57) rfl ?_); refine goesL_ (some 39) rfl rfl Try.func57 (by kernel_rfl) rfl #[.string (a0.extract (x5_1 : Int).toNat a0.size)] rfl (by (try simp only [List.map_toArray, List.map_cons, List.map_nil]); first | done | rfl | (simp only [List.length_drop, List.length_take]; rfl)) ?_; (with_reducible refine (impl_tokenAt.calls kj6 (a0.extract (x5_1 : Int).toNat a0.size) t132 t133 t134 t135 _ A17.out).mono ?_); rintro e w25 ⟨rfl, hb⟩; refine ⟨_, rfl, ?_⟩; have n0_ := Aside0.mk (Kd.R_below (by (with_reducible repeat (first | apply Ra_ | apply Rn_ | apply Rd_)); exact HO_4.out) hb); have n1_ := Aside0.mk (below_step (by repeat (first | (with_reducible first | exact HB.out | apply Ba_ | apply Bw_ | apply Bd_) | exact HB.out)) hb); clear HO_4; clear HB; have HO_4 := n0_; have HB := n1_; clear n0_ n1_; (try clear hb); (try clear hb2); (try clear hk); (try clear hi)) | ((with_reducible refine gate_dst (N := 6) rfl ?_); refine box_event ?hg (N := 6) ?hd (cs := #[.int .i64 0, .string (⟨#[]⟩ : ByteArray), .int .i64 0]) (t := 44) ?hr ?_; (case hd => rfl); (case hg => rfl); (case hr => first | (go_simp; done) | (go_simp; rfl)); intro gb136 hg w26 hbox hb; have n0_ := Aside0.mk (Kd.R_below (Kd.R_elderB (by (with_reducible repeat (first | apply Ra_ | apply Rn_ | apply Rd_)); exact HO_4.out) gb136 (Nat.le_of_eq hg.symm)) hb); have n1_ := Aside0.mk (below_step (by repeat (first | (with_reducible first | exact HB.out | apply Ba_ | apply Bw_ | apply Bd_) | exact HB.out)) hb); have n2_ := Aside0.mk (hbox); have n3_ := Aside0.mk ((by rw [hg]; exact (below_size (by repeat (first | (with_reducible first | exact HB.out | apply Ba_ | apply Bw_ | apply Bd_) | exact HB.out))) : w.heap.size ≤ gb136)); have n4_ := Aside0.mk ((by rw [hg]; exact (below_size (by repeat (first | (with_reducible first | exact HB.out | apply Ba_ | apply Bw_ | apply Bd_) | exact HB.out))) : w.heap.size ≤ gb136)); clear HO_4; clear HB; have HO_4 := n0_; have HB := n1_; have BK136 := n2_; have GW136 := n3_; have GE136 := n4_; clear n0_ n1_ n2_ n3_ n4_; clear hb hbox hg; have hcz27_0 : w26.cell? ⟨gb136, 0, none⟩ = some (.int .i64 0) := (blk_cell BK136.out 0).trans rfl; have hcz27_1 : w26.cell? ⟨gb136, 1, none⟩ = some (.string (⟨#[]⟩ : ByteArray)) := (blk_cell BK136.out 1).trans rfl; have hcz27_2 : w26.cell? ⟨gb136, 2, none⟩ = some (.int .i64 0) := (blk_cell BK136.out 2).trans rfl; have hfz27_0 := blk_frozen BK136.out 0; have hfz27_1 := blk_frozen BK136.out 1; have hfz27_2 := blk_frozen BK136.out 2; have hcs_ : ∀ a_ b_ c_ d_ : Value, ((((w26.setCell ⟨gb136, 0, none⟩ a_).setCell ⟨gb136, 1, none⟩ b_).setCell ⟨gb136, 2, none⟩ c_).setCell ⟨gb136, 2, none⟩ d_).cell? ⟨gb136, 2, none⟩ = some d_ := fun a_ b_ c_ d_ => (blk_cell (blk_set (blk_set (blk_set (blk_set BK136.out 0 a_) 1 b_) 2 c_) 2 d_) 2).trans rfl) | ((with_reducible refine gate_builtin (b := .append) (xs := #[.tmp 48, .tmp 50]) rfl ?_); at_builtin; refine Kd.R_append k44 (w0 := w) w.heap.size rfl (.tmp 48) (.tmp 50) 33 44 (.agg #[(.int .i64 0), (.string ⟨#[]⟩), (.int .i64 0)]) 32 rfl Try.underlying33 info44 rfl (by decide) (by omega) u4 x4_1 (⟨t132, t133, x5_1⟩ : S44) [.int .i64 t132, .string t133, .int .i64 x5_1] (fun k_ => k_ ≠ gb136) (fun _ => False) rfl (by first | (go_simp; done) | (go_simp; rfl)) ?aP (fun _ hk => hk.elim) ?aF ?aO ?aB ?aS ?aL ?_; (case aP => exact k44_mkM _ _ _ (⟨t132, t133, x5_1⟩ : S44)); (case aB => exact (by repeat (first | (with_reducible first | exact HB.out | apply Ba_ | apply Bw_ | apply Bd_ | refine below_set ?_ GE136.out) | exact HB.out))); (case aF => exact (fun k_ hk => Kd.freshB (g := gb136) (o := .cells #[.int .i64 t132, .string t133, .int .i64 x5_1] 44 (0, 0)) (by (with_reducible repeat (first | refine Fn_ ?_ _ | refine Fd_ ?_ | refine Fa_ ?_ _)); refine blk_put (cs := #[.int .i64 t132, .string t133, .int .i64 t134]) ?_ 2 _ rfl; (with_reducible repeat (first | refine Fn_ ?_ _ | refine Fd_ ?_ | refine Fa_ ?_ _)); refine blk_put (cs := #[.int .i64 t132, .string t133, .int .i64 0]) ?_ 2 _ rfl; (with_reducible repeat (first | refine Fn_ ?_ _ | refine Fd_ ?_ | refine Fa_ ?_ _)); refine blk_put (cs := #[.int .i64 t132, .string (⟨#[]⟩ : ByteArray), .int .i64 0]) ?_ 1 _ rfl; (with_reducible repeat (first | refine Fn_ ?_ _ | refine Fd_ ?_ | refine Fa_ ?_ _)); refine blk_put (cs := #[.int .i64 0, .string (⟨#[]⟩ : ByteArray), .int .i64 0]) ?_ 0 _ rfl; (with_reducible repeat (first | refine Fn_ ?_ _ | refine Fd_ ?_ | refine Fa_ ?_ _)); exact BK136.out) k_ hk)); (case aO => exact (by (with_reducible repeat (first | apply Ra_ | apply Rn_ | apply Rd_)); exact Kd.R_mono (Kd.R_far (p := ⟨gb136, 2, none⟩) (Kd.R_far (p := ⟨gb136, 2, none⟩) (Kd.R_far (p := ⟨gb136, 1, none⟩) (Kd.R_far (p := ⟨gb136, 0, none⟩) (Kd.R_mono HO_4.out (fun k_ hk => (⟨hk, hk.2⟩ : _ ∧ k_ ≠ gb136))) (fun _ hk => hk.2) (.int .i64 t132)) (fun _ hk => hk.2) (.string t133)) (fun _ hk => hk.2) (.int .i64 t134)) (fun _ hk => hk.2) (.int .i64 x5_1)) (fun _ hk => hk.1.2))); (case aS => exact (below_size (by repeat (first | (with_reducible first | exact HB.out | apply Ba_ | apply Bw_ | apply Bd_ | refine below_set ?_ GE136.out) | exact HB.out)))); (case aL => have := LMc24.out; omega); intro v141 w28 ho hb hg hat; rw [← Ny140.out] at ho; have n0_ := Aside0.mk (blk_grown (g := gb136) (o := .cells #[.int .i64 t132, .string t133, .int .i64 x5_1] 44 (0, 0)) (by (with_reducible repeat (first | refine Fn_ ?_ _ | refine Fd_ ?_ | refine Fa_ ?_ _)); refine blk_put (cs := #[.int .i64 t132, .string t133, .int .i64 t134]) ?_ 2 _ rfl; (with_reducible repeat (first | refine Fn_ ?_ _ | refine Fd_ ?_ | refine Fa_ ?_ _)); refine blk_put (cs := #[.int .i64 t132, .string t133, .int .i64 0]) ?_ 2 _ rfl; (with_reducible repeat (first | refine Fn_ ?_ _ | refine Fd_ ?_ | refine Fa_ ?_ _)); refine blk_put (cs := #[.int .i64 t132, .string (⟨#[]⟩ : ByteArray), .int .i64 0]) ?_ 1 _ rfl; (with_reducible repeat (first | refine Fn_ ?_ _ | refine Fd_ ?_ | refine Fa_ ?_ _)); refine blk_put (cs := #[.int .i64 0, .string (⟨#[]⟩ : ByteArray), .int .i64 0]) ?_ 0 _ rfl; (with_reducible repeat (first | refine Fn_ ?_ _ | refine Fd_ ?_ | refine Fa_ ?_ _)); exact BK136.out) hg (Kd.R_away HO_4.out (fun _ hk => hk.2))); have n1_ := Aside0.mk (hb); have n2_ := Aside0.mk (ho); clear BK136; clear HB; clear HO_4; have BK136 := n0_; have HB := n1_; have HO142 := n2_; clear n0_ n1_ n2_; clear ho hb hg hat))
             go_roundg kj6
             case measure => have := HK1.out; have := HJ6.out; omega
             case rel => exact ⟨(y140), (wrap64 (x5_1 + t135)), (by first | rfl | (simp; done) | (simp [*]; done)), H', ⟨by have := HK1.out; have := HJ6.out; omega⟩, ⟨by (with_reducible repeat (first | apply Ra_ | apply Rn_ | apply Rd_)); exact Kd.R_mono HO142.out (fun _ hk => trivial)⟩, ⟨by repeat (first | (with_reducible first | exact HB.out | apply Ba_ | apply Bw_ | apply Bd_ | refine below_set ?_ GE136.out) | exact HB.out)⟩⟩
            ·rw [if_neg c24] at H
             exact absurd H (by simp)
          ·rw [if_neg c16] at H
           exact absurd H (by simp)
         ·rw [if_neg c15] at H
          exact absurd H (by simp)
    ·rw [if_neg c5] at H
     exact absurd H (by simp)
   ·rw [if_neg c4] at H
    have c4b0 : decide (x5_1 < (a0.size : Int)) = false := decide_eq_false c4
    clear c4
    simp only [Option.some.injEq, Prod.mk.injEq] at H
    obtain ⟨rfl, rfl⟩ := H
    go_wp2
    go_ret2
    exact ⟨_, by first | rfl | (simp [errW_none, errW_some] <;> rfl) | (simp [*, errW_none, errW_some] <;> rfl) | (simp [isEmpty_ne_]; done) | (simp [*, isEmpty_ne_]; done), by (with_reducible repeat (first | apply Ra_ | apply Rn_ | apply Rd_)); exact HO_4.out, by repeat (first | (with_reducible first | exact HB.out | apply Ba_ | apply Bw_ | apply Bd_) | exact HB.out)⟩

/-! ### laws_big: function 20 -/
def laws_big.f (l0 : List Int) : Option (Bool) := some (decide ((l0.length : Int) > 4096))
set_option maxHeartbeats 8000000 in
set_option maxRecDepth 100000 in
theorem laws_big.calls (A0 : Option Addr) (c0 : Nat) (l0 : List Int) (r : Bool) (w : World) (hr0 : Kd.C (Kd.int .u8) w A0 l0.length l0) (hc0 : l0.length ≤ c0) (h : laws_big.f l0 = some r) :
  Calls Try.prog 20 #[.slice A0 l0.length c0] w fun e w' => e = .returned (.bool r) ∧ Drawn0 w w' := by
 have HR0 := Aside0.mk hr0
 have HC0 := Aside0.mk hc0
 clear hr0 hc0
 have H : (some (decide ((l0.length : Int) > 4096))) = some r := h
 clear h
 obtain rfl := Option.some.inj H
 go_enter Try.func20, Try.ntmps20
 go_wp2
 go_ret
 exact ⟨by first | rfl | (simp; done) | (simp [*]; done), by repeat (first | exact Drawn0.refl _ | apply Drawn0.step)⟩

/-! ### spec_l1In: function 47 -/
def spec_l1In.f (a0 : Int) (a1 : Int) (a2 : Int) : Option (Bool) := if a0 ≥ a1 then (some (decide (a0 ≤ a2))) else (some false)
set_option maxHeartbeats 8000000 in
set_option maxRecDepth 100000 in
theorem spec_l1In.calls (a0 : Int) (a1 : Int) (a2 : Int) (r : Bool) (w : World) (h : spec_l1In.f a0 a1 a2 = some r) :
  Calls Try.prog 47 #[.int .i64 a0, .int .i64 a1, .int .i64 a2] w fun e w' => e = .returned (.bool r) ∧ Drawn0 w w' := by
 have H : (if a0 ≥ a1 then (some (decide (a0 ≤ a2))) else (some false)) = some r := h
 clear h
 by_cases c4 : a0 ≥ a1
 ·rw [if_pos c4] at H
  have c4b0 : decide (a1 ≤ a0) = true := decide_eq_true c4
  clear c4
  obtain rfl := Option.some.inj H
  go_enter Try.func47, Try.ntmps47
  go_wp2
  go_ret
  exact ⟨by first | rfl | (simp; done) | (simp [*]; done), by repeat (first | exact Drawn0.refl _ | apply Drawn0.step)⟩
 ·rw [if_neg c4] at H
  have c4b0 : decide (a1 ≤ a0) = false := decide_eq_false c4
  clear c4
  obtain rfl := Option.some.inj H
  go_enter Try.func47, Try.ntmps47
  go_wp2
  go_ret
  exact ⟨by first | rfl | (simp; done) | (simp [*]; done), by repeat (first | exact Drawn0.refl _ | apply Drawn0.step)⟩

/-! ### spec_l3Letter: function 51 -/
def spec_l3Letter.f (a0 : Int) : Option (Bool) := (spec_l1In.f (wrap64 (a0)) 97 122).bind fun t143 => (some t143)
set_option maxHeartbeats 8000000 in
set_option maxRecDepth 100000 in
theorem spec_l3Letter.calls (a0 : Int) (r : Bool) (w : World) (h : spec_l3Letter.f a0 = some r) :
  Calls Try.prog 51 #[.int .u8 a0] w fun e w' => e = .returned (.bool r) ∧ Drawn0 w w' := by
 have H : ((spec_l1In.f (wrap64 (a0)) 97 122).bind fun t143 => (some t143)) = some r := h
 clear h
 replace H := Option.bind_eq_some_iff.mp H
 obtain ⟨t143, A20, H⟩ := H
 replace H : (some t143) = some r := H
 have A2 := Aside0.mk A20
 clear A20
 obtain rfl := Option.some.inj H
 go_enter Try.func51, Try.ntmps51
 go_wp2_with (first | ((with_reducible refine gate_callee (f := 47) rfl ?_); refine goesL_ (some 5) rfl rfl Try.func47 (by kernel_rfl) rfl #[.int .i64 (wrap64 (a0)), .int .i64 97, .int .i64 122] rfl (by (try simp only [List.map_toArray, List.map_cons, List.map_nil]); first | done | rfl | (simp only [List.length_drop, List.length_take]; rfl)) ?_; (with_reducible refine (spec_l1In.calls (wrap64 (a0)) 97 122 t143 _ A2.out).mono ?_); rintro e w' ⟨rfl, ⟨nd, rfl⟩⟩; refine ⟨_, rfl, ?_⟩))
 go_ret
 exact ⟨by first | rfl | (simp; done) | (simp [*]; done), by repeat (first | exact Drawn0.refl _ | apply Drawn0.step)⟩

/-! ### spec_l3Digit: function 53 -/
def spec_l3Digit.f (a0 : Int) : Option (Bool) := (spec_l1In.f (wrap64 (a0)) 48 57).bind fun t144 => (some t144)
set_option maxHeartbeats 8000000 in
set_option maxRecDepth 100000 in
theorem spec_l3Digit.calls (a0 : Int) (r : Bool) (w : World) (h : spec_l3Digit.f a0 = some r) :
  Calls Try.prog 53 #[.int .u8 a0] w fun e w' => e = .returned (.bool r) ∧ Drawn0 w w' := by
 have H : ((spec_l1In.f (wrap64 (a0)) 48 57).bind fun t144 => (some t144)) = some r := h
 clear h
 replace H := Option.bind_eq_some_iff.mp H
 obtain ⟨t144, A20, H⟩ := H
 replace H : (some t144) = some r := H
 have A2 := Aside0.mk A20
 clear A20
 obtain rfl := Option.some.inj H
 go_enter Try.func53, Try.ntmps53
 go_wp2_with (first | ((with_reducible refine gate_callee (f := 47) rfl ?_); refine goesL_ (some 5) rfl rfl Try.func47 (by kernel_rfl) rfl #[.int .i64 (wrap64 (a0)), .int .i64 48, .int .i64 57] rfl (by (try simp only [List.map_toArray, List.map_cons, List.map_nil]); first | done | rfl | (simp only [List.length_drop, List.length_take]; rfl)) ?_; (with_reducible refine (spec_l1In.calls (wrap64 (a0)) 48 57 t144 _ A2.out).mono ?_); rintro e w' ⟨rfl, ⟨nd, rfl⟩⟩; refine ⟨_, rfl, ?_⟩))
 go_ret
 exact ⟨by first | rfl | (simp; done) | (simp [*]; done), by repeat (first | exact Drawn0.refl _ | apply Drawn0.step)⟩

/-! ### spec_l3Name: function 52 -/
mutual
def spec_l3Name.j1 : Nat → ByteArray → Int → Option (Int)
 | 0, _, _ => none
 | k + 1, x0, x5 => spec_l3Name.l1 k x0 x5
def spec_l3Name.l1 : Nat → ByteArray → Int → Option (Int)
 | 0, _, _ => none
 | k + 1, x0, x5 => if 0 ≤ (wrap64 (x5 - 1)) then (if (wrap64 (x5 - 1)) < (x0.size : Int) then (if (bt x0 (wrap64 (x5 - 1))) = 45 then (spec_l3Name.l1 k x0 (wrap64 (x5 - 1))) else (some x5)) else (none)) else (none)
def spec_l3Name.l0 : Nat → ByteArray → Int → Option (Int)
 | 0, _, _ => none
 | k + 1, x0, x5 => if x5 < (x0.size : Int) then (if 0 ≤ x5 then ((spec_l3Letter.f (bt x0 x5)).bind fun t145 => (if t145 = true then (spec_l3Name.l0 k x0 (wrap64 (x5 + 1))) else ((spec_l3Digit.f (bt x0 x5)).bind fun t146 => (if t146 = true then (spec_l3Name.l0 k x0 (wrap64 (x5 + 1))) else (if (bt x0 x5) = 45 then (spec_l3Name.l0 k x0 (wrap64 (x5 + 1))) else (spec_l3Name.j1 k x0 x5)))))) else (none)) else (spec_l3Name.j1 k x0 x5)
end
def spec_l3Name.f (k : Nat) (a0 : ByteArray) (a1 : Int) : Option (Int) := spec_l3Name.l0 k a0 a1
theorem spec_l3Name.mono_l : ∀ k, (∀ y0 y1, LeO (spec_l3Name.j1 k y0 y1) (spec_l3Name.j1 (k + 1) y0 y1)) ∧ (∀ y0 y1, LeO (spec_l3Name.l1 k y0 y1) (spec_l3Name.l1 (k + 1) y0 y1)) ∧ (∀ y0 y1, LeO (spec_l3Name.l0 k y0 y1) (spec_l3Name.l0 (k + 1) y0 y1))
 | 0 => ⟨fun _ _ r h => by simp [spec_l3Name.j1] at h, fun _ _ r h => by simp [spec_l3Name.l1] at h, fun _ _ r h => by simp [spec_l3Name.l0] at h⟩
 | k + 1 => by
  obtain ⟨ih0, ih1, ih2⟩ := spec_l3Name.mono_l k
  refine ⟨?_, ?_, ?_⟩
  ·intro y0 y1
   unfold spec_l3Name.j1
   repeat' first
   | (with_reducible exact ih0 _ _)
   | (with_reducible exact ih1 _ _)
   | (with_reducible exact ih2 _ _)
   | (with_reducible exact LeO.refl _)
   | (with_reducible exact LeO.none _)
   | (with_reducible refine LeO.ite ?_ ?_)
   | (with_reducible refine LeO.bind ?_ (fun _ => ?_))
   | exact ih0 _ _
   | exact ih1 _ _
   | exact ih2 _ _
   | exact LeO.none _
   | refine LeO.ite ?_ ?_
   | refine LeO.bind ?_ (fun _ => ?_)
  ·intro y0 y1
   unfold spec_l3Name.l1
   repeat' first
   | (with_reducible exact ih0 _ _)
   | (with_reducible exact ih1 _ _)
   | (with_reducible exact ih2 _ _)
   | (with_reducible exact LeO.refl _)
   | (with_reducible exact LeO.none _)
   | (with_reducible refine LeO.ite ?_ ?_)
   | (with_reducible refine LeO.bind ?_ (fun _ => ?_))
   | exact ih0 _ _
   | exact ih1 _ _
   | exact ih2 _ _
   | exact LeO.none _
   | refine LeO.ite ?_ ?_
   | refine LeO.bind ?_ (fun _ => ?_)
  ·intro y0 y1
   unfold spec_l3Name.l0
   repeat' first
   | (with_reducible exact ih0 _ _)
   | (with_reducible exact ih1 _ _)
   | (with_reducible exact ih2 _ _)
   | (with_reducible exact LeO.refl _)
   | (with_reducible exact LeO.none _)
   | (with_reducible refine LeO.ite ?_ ?_)
   | (with_reducible refine LeO.bind ?_ (fun _ => ?_))
   | exact ih0 _ _
   | exact ih1 _ _
   | exact ih2 _ _
   | exact LeO.none _
   | refine LeO.ite ?_ ?_
   | refine LeO.bind ?_ (fun _ => ?_)
theorem spec_l3Name.mono : ∀ a0 a1 k, LeO (spec_l3Name.f k a0 a1) (spec_l3Name.f (k + 1) a0 a1) := by
 intro a0 a1 k
 obtain ⟨ih0, ih1, ih2⟩ := spec_l3Name.mono_l k
 unfold spec_l3Name.f
 repeat' first
   | (with_reducible exact ih0 _ _)
   | (with_reducible exact ih1 _ _)
   | (with_reducible exact ih2 _ _)
   | (with_reducible exact LeO.refl _)
   | (with_reducible exact LeO.none _)
   | (with_reducible refine LeO.ite ?_ ?_)
   | (with_reducible refine LeO.bind ?_ (fun _ => ?_))
   | exact ih0 _ _
   | exact ih1 _ _
   | exact ih2 _ _
   | exact LeO.none _
   | refine LeO.ite ?_ ?_
   | refine LeO.bind ?_ (fun _ => ?_)
set_option maxHeartbeats 8000000 in
set_option maxRecDepth 100000 in
theorem spec_l3Name.calls (k : Nat) (a0 : ByteArray) (a1 : Int) (r : Int) (w : World) (h : spec_l3Name.f k a0 a1 = some r) :
  Calls Try.prog 52 #[.string a0, .int .i64 a1] w fun e w' => e = .returned (.int .i64 r) ∧ Drawn0 w w' := by
 have H : (spec_l3Name.l0 k a0 a1) = some r := h
 clear h
 have HC3 := Aside0.mk H
 clear H
 go_enter Try.func52, Try.ntmps52
 go_upto_block 0 with (fail)
 go_cut [5] (fun v5 wc => ∃ (kq : Nat) (x5_2 : Int), v5 = .int .i64 x5_2 ∧ Aside0 (spec_l3Name.j1 kq a0 x5_2 = some r) ∧ Aside0 (kq ≤ k) ∧ Drawn0 w wc)
 case first =>
  have H := HC3.out
  clear HC3
  have H' := Aside0.mk H
  clear H
  go_wp2
  go_loopg [5] k (fun kq v5 w' => ∃ (x5_1 : Int), v5 = .int .i64 x5_1 ∧ Aside0 (spec_l3Name.l0 kq a0 x5_1 = some r) ∧ Aside0 (kq ≤ k) ∧ Drawn0 w w')
  case atStart => exact ⟨(a1), (by first | rfl | (simp; done) | (simp [*]; done)), H', ⟨Nat.le_refl _⟩, by repeat (first | exact Drawn0.refl _ | apply Drawn0.step)⟩
  case round =>
   clear H'
   try clear p2
   obtain ⟨x5_1, rfl, HA, HK1, ⟨m1, rfl⟩⟩ := hrel
   cases gk with
   | zero => exact absurd HA.out (by simp [spec_l3Name.l0])
   | succ k1 =>
    have H := HA.out
    clear HA
    simp only [spec_l3Name.l0] at H
    by_cases c4 : x5_1 < (a0.size : Int)
    ·rw [if_pos c4] at H
     have c4b0 : decide (x5_1 < (a0.size : Int)) = true := decide_eq_true c4
     clear c4
     (first | rw [c4b0] | (simp only [i64_w, i32_w]; rw [c4b0]) | skip)
     by_cases c5 : 0 ≤ x5_1
     ·rw [if_pos c5] at H
      have c5b0 : decide (0 ≤ x5_1) = true := decide_eq_true c5
      clear c5
      replace H := Option.bind_eq_some_iff.mp H
      obtain ⟨t145, A70, H⟩ := H
      replace H : (if t145 = true then (spec_l3Name.l0 k1 a0 (wrap64 (x5_1 + 1))) else ((spec_l3Digit.f (bt a0 x5_1)).bind fun t146 => (if t146 = true then (spec_l3Name.l0 k1 a0 (wrap64 (x5_1 + 1))) else (if (bt a0 x5_1) = 45 then (spec_l3Name.l0 k1 a0 (wrap64 (x5_1 + 1))) else (spec_l3Name.j1 k1 a0 x5_1))))) = some r := H
      have A7 := Aside0.mk A70
      clear A70
      by_cases c8 : t145 = true
      ·subst c8
       have H1 : (spec_l3Name.l0 k1 a0 (wrap64 (x5_1 + 1))) = some r := by rw [if_pos rfl] at H; exact H
       clear H
       have H := H1
       clear H1
       have H' := Aside0.mk H
       clear H
       have p6 : 0 ≤ (x5_1 : Int) := od_
       have q6 : x5_1 < (a0.size : Int) := od_
       have hx6 := bt_at a0 x5_1
       replace p6 := eq_true p6
       replace q6 := eq_true q6
       go_wp2_with (first | (go_at_call 51; (with_reducible refine (spec_l3Letter.calls (bt a0 x5_1) true _ A7.out).mono ?_); rintro e w' ⟨rfl, ⟨nd, rfl⟩⟩))
       go_roundg k1
       case measure => have := HK1.out; omega
       case rel => exact ⟨(wrap64 (x5_1 + 1)), (by first | rfl | (simp; done) | (simp [*]; done)), H', ⟨by have := HK1.out; omega⟩, by repeat (first | exact Drawn0.refl _ | apply Drawn0.step)⟩
      ·replace c8 := Bool.eq_false_iff.mpr c8
       subst c8
       have H1 : ((spec_l3Digit.f (bt a0 x5_1)).bind fun t146 => (if t146 = true then (spec_l3Name.l0 k1 a0 (wrap64 (x5_1 + 1))) else (if (bt a0 x5_1) = 45 then (spec_l3Name.l0 k1 a0 (wrap64 (x5_1 + 1))) else (spec_l3Name.j1 k1 a0 x5_1)))) = some r := by rw [if_neg (show ¬ (false = true) by decide)] at H; exact H
       clear H
       have H := H1
       clear H1
       replace H := Option.bind_eq_some_iff.mp H
       obtain ⟨t146, A100, H⟩ := H
       replace H : (if t146 = true then (spec_l3Name.l0 k1 a0 (wrap64 (x5_1 + 1))) else (if (bt a0 x5_1) = 45 then (spec_l3Name.l0 k1 a0 (wrap64 (x5_1 + 1))) else (spec_l3Name.j1 k1 a0 x5_1))) = some r := H
       have A10 := Aside0.mk A100
       clear A100
       by_cases c11 : t146 = true
       ·subst c11
        have H1 : (spec_l3Name.l0 k1 a0 (wrap64 (x5_1 + 1))) = some r := by rw [if_pos rfl] at H; exact H
        clear H
        have H := H1
        clear H1
        have H' := Aside0.mk H
        clear H
        have p6 : 0 ≤ (x5_1 : Int) := od_
        have q6 : x5_1 < (a0.size : Int) := od_
        have hx6 := bt_at a0 x5_1
        replace p6 := eq_true p6
        replace q6 := eq_true q6
        go_wp2_with (first | (go_at_call 51; (with_reducible refine (spec_l3Letter.calls (bt a0 x5_1) false _ A7.out).mono ?_); rintro e w' ⟨rfl, ⟨nd, rfl⟩⟩; have p9 : 0 ≤ (x5_1 : Int) := od_; have q9 : x5_1 < (a0.size : Int) := od_; have hx9 := bt_at a0 x5_1; replace p9 := eq_true p9; replace q9 := eq_true q9) | (go_at_call 53; (with_reducible refine (spec_l3Digit.calls (bt a0 x5_1) true _ A10.out).mono ?_); rintro e w' ⟨rfl, ⟨nd, rfl⟩⟩))
        go_roundg k1
        case measure => have := HK1.out; omega
        case rel => exact ⟨(wrap64 (x5_1 + 1)), (by first | rfl | (simp; done) | (simp [*]; done)), H', ⟨by have := HK1.out; omega⟩, by repeat (first | exact Drawn0.refl _ | apply Drawn0.step)⟩
       ·replace c11 := Bool.eq_false_iff.mpr c11
        subst c11
        have H1 : (if (bt a0 x5_1) = 45 then (spec_l3Name.l0 k1 a0 (wrap64 (x5_1 + 1))) else (spec_l3Name.j1 k1 a0 x5_1)) = some r := by rw [if_neg (show ¬ (false = true) by decide)] at H; exact H
        clear H
        have H := H1
        clear H1
        by_cases c13 : (bt a0 x5_1) = 45
        ·rw [if_pos c13] at H
         have c13b0 : ((bt a0 x5_1) == 45) = true := beq_iff_eq.mpr c13
         have c13b1 : ((bt a0 x5_1) != 45) = false := bne_eq_false_iff_eq.mpr c13
         clear c13
         have H' := Aside0.mk H
         clear H
         have p6 : 0 ≤ (x5_1 : Int) := od_
         have q6 : x5_1 < (a0.size : Int) := od_
         have hx6 := bt_at a0 x5_1
         replace p6 := eq_true p6
         replace q6 := eq_true q6
         go_wp2_with (first | (go_at_call 51; (with_reducible refine (spec_l3Letter.calls (bt a0 x5_1) false _ A7.out).mono ?_); rintro e w' ⟨rfl, ⟨nd, rfl⟩⟩; have p9 : 0 ≤ (x5_1 : Int) := od_; have q9 : x5_1 < (a0.size : Int) := od_; have hx9 := bt_at a0 x5_1; replace p9 := eq_true p9; replace q9 := eq_true q9) | (go_at_call 53; (with_reducible refine (spec_l3Digit.calls (bt a0 x5_1) false _ A10.out).mono ?_); rintro e w' ⟨rfl, ⟨nd, rfl⟩⟩; have p12 : 0 ≤ (x5_1 : Int) := od_; have q12 : x5_1 < (a0.size : Int) := od_; have hx12 := bt_at a0 x5_1; replace p12 := eq_true p12; replace q12 := eq_true q12))
         go_roundg k1
         case measure => have := HK1.out; omega
         case rel => exact ⟨(wrap64 (x5_1 + 1)), (by first | rfl | (simp; done) | (simp [*]; done)), H', ⟨by have := HK1.out; omega⟩, by repeat (first | exact Drawn0.refl _ | apply Drawn0.step)⟩
        ·rw [if_neg c13] at H
         have c13b0 : ((bt a0 x5_1) == 45) = false := beq_eq_false_iff_ne.mpr c13
         have c13b1 : ((bt a0 x5_1) != 45) = true := bne_iff_ne.mpr c13
         have H' := Aside0.mk H
         clear H
         have p6 : 0 ≤ (x5_1 : Int) := od_
         have q6 : x5_1 < (a0.size : Int) := od_
         have hx6 := bt_at a0 x5_1
         replace p6 := eq_true p6
         replace q6 := eq_true q6
         go_wp2_with (first | (go_at_call 51; (with_reducible refine (spec_l3Letter.calls (bt a0 x5_1) false _ A7.out).mono ?_); rintro e w' ⟨rfl, ⟨nd, rfl⟩⟩; have p9 : 0 ≤ (x5_1 : Int) := od_; have q9 : x5_1 < (a0.size : Int) := od_; have hx9 := bt_at a0 x5_1; replace p9 := eq_true p9; replace q9 := eq_true q9) | (go_at_call 53; (with_reducible refine (spec_l3Digit.calls (bt a0 x5_1) false _ A10.out).mono ?_); rintro e w' ⟨rfl, ⟨nd, rfl⟩⟩; have p12 : 0 ≤ (x5_1 : Int) := od_; have q12 : x5_1 < (a0.size : Int) := od_; have hx12 := bt_at a0 x5_1; replace p12 := eq_true p12; replace q12 := eq_true q12))
         go_meet
         case rel => exact ⟨_, (x5_1), (by first | rfl | (simp; done) | (simp [*]; done)), H', ⟨by have := HK1.out; first | omega | exact Nat.le_refl _⟩, by repeat (first | exact Drawn0.refl _ | apply Drawn0.step)⟩
     ·rw [if_neg c5] at H
      exact absurd H (by simp)
    ·rw [if_neg c4] at H
     have c4b0 : decide (x5_1 < (a0.size : Int)) = false := decide_eq_false c4
     clear c4
     (first | rw [c4b0] | (simp only [i64_w, i32_w]; rw [c4b0]) | skip)
     have H' := Aside0.mk H
     clear H
     go_wp2
     go_meet
     case rel => exact ⟨_, (x5_1), (by first | rfl | (simp; done) | (simp [*]; done)), H', ⟨by have := HK1.out; first | omega | exact Nat.le_refl _⟩, by repeat (first | exact Drawn0.refl _ | apply Drawn0.step)⟩
 case rest =>
  clear HC3
  try clear c1
  try clear p1
  try clear q1
  try clear hx1
  try clear p2
  try clear c4
  try clear c4b0
  try clear c5
  try clear c5b0
  try clear p6
  try clear q6
  try clear hx6
  try clear c8
  try clear p9
  try clear q9
  try clear hx9
  try clear c11
  try clear p12
  try clear q12
  try clear hx12
  try clear c13
  try clear c13b0
  try clear c13b1
  try clear p12
  try clear p2
  try clear p6
  try clear p9
  try clear q12
  try clear q6
  try clear q9
  obtain ⟨kq, x5_2, rfl, HA, HJ2, ⟨mc2, rfl⟩⟩ := hcut
  cases kq with
  | zero => exact absurd HA.out (by simp [spec_l3Name.j1])
  | succ kj2 =>
   have H := HA.out
   clear HA
   simp only [spec_l3Name.j1] at H
   have H' := Aside0.mk H
   clear H
   go_wp2
   go_loopg [5] kj2 (fun kq v5 w' => ∃ (x5_2 : Int), v5 = .int .i64 x5_2 ∧ Aside0 (spec_l3Name.l1 kq a0 x5_2 = some r) ∧ Aside0 (kq ≤ kj2) ∧ Drawn0 w w')
   case atStart => exact ⟨(x5_2), (by first | rfl | (simp; done) | (simp [*]; done)), H', ⟨Nat.le_refl _⟩, by repeat (first | exact Drawn0.refl _ | apply Drawn0.step)⟩
   case round =>
    clear H'
    try clear c1
    try clear p1
    try clear q1
    try clear hx1
    try clear c2
    try clear p2
    try clear c4
    try clear c4b0
    try clear c5
    try clear c5b0
    try clear p6
    try clear q6
    try clear hx6
    try clear c8
    try clear p9
    try clear q9
    try clear hx9
    try clear c11
    try clear p12
    try clear q12
    try clear hx12
    try clear c13
    try clear c13b0
    try clear c13b1
    try clear p1
    try clear p12
    try clear p2
    try clear p6
    try clear p9
    try clear q1
    try clear q12
    try clear q6
    try clear q9
    obtain ⟨x5_2, rfl, HA, HK2, ⟨m2, rfl⟩⟩ := hrel
    cases gk with
    | zero => exact absurd HA.out (by simp [spec_l3Name.l1])
    | succ k2 =>
     have H := HA.out
     clear HA
     simp only [spec_l3Name.l1] at H
     obtain ⟨ji14, hji14⟩ : ∃ j_ : Int, (wrap64 (x5_2 - 1)) = j_ := ⟨_, rfl⟩
     replace H : (if 0 ≤ (ji14) then (if (ji14) < (a0.size : Int) then (if (bt a0 (ji14)) = 45 then (spec_l3Name.l1 k2 a0 ji14) else (some x5_2)) else (none)) else (none)) = some r := by first | (rw [hji14] at H; exact H) | (simp only [hji14] at H ⊢; exact H)
     have hji14w : (IntKind.i64.wrap (x5_2 - 1)) = ji14 := (i64_w _).trans hji14
     by_cases c15 : 0 ≤ (ji14)
     ·rw [if_pos c15] at H
      have c15b0 : decide (0 ≤ (ji14)) = true := decide_eq_true c15
      clear c15
      by_cases c16 : (ji14) < (a0.size : Int)
      ·rw [if_pos c16] at H
       have c16b0 : decide ((ji14) < (a0.size : Int)) = true := decide_eq_true c16
       clear c16
       by_cases c18 : (bt a0 (ji14)) = 45
       ·rw [if_pos c18] at H
        have c18b0 : ((bt a0 (ji14)) == 45) = true := beq_iff_eq.mpr c18
        have c18b1 : ((bt a0 (ji14)) != 45) = false := bne_eq_false_iff_eq.mpr c18
        clear c18
        have H' := Aside0.mk H
        clear H
        have p17 : 0 ≤ ((ji14) : Int) := od_
        have q17 : (ji14) < (a0.size : Int) := od_
        have hx17 := bt_at a0 (ji14)
        replace p17 := eq_true p17
        replace q17 := eq_true q17
        go_wp2
        go_roundg k2
        case measure => have := HJ2.out; have := HK2.out; omega
        case rel => exact ⟨(ji14), (by first | rfl | (simp; done) | (simp only [← hji14] <;> (first | rfl | simp)) | (simp [*]; done)), H', ⟨by have := HJ2.out; have := HK2.out; omega⟩, by repeat (first | exact Drawn0.refl _ | apply Drawn0.step)⟩
       ·rw [if_neg c18] at H
        have c18b0 : ((bt a0 (ji14)) == 45) = false := beq_eq_false_iff_ne.mpr c18
        have c18b1 : ((bt a0 (ji14)) != 45) = true := bne_iff_ne.mpr c18
        obtain rfl := Option.some.inj H
        have p17 : 0 ≤ ((ji14) : Int) := od_
        have q17 : (ji14) < (a0.size : Int) := od_
        have hx17 := bt_at a0 (ji14)
        replace p17 := eq_true p17
        replace q17 := eq_true q17
        go_wp2
        go_ret
        exact ⟨by first | rfl | (simp; done) | (simp only [← hji14] <;> (first | rfl | simp)) | (simp [*]; done), by repeat (first | exact Drawn0.refl _ | apply Drawn0.step)⟩
      ·rw [if_neg c16] at H
       exact absurd H (by simp)
     ·rw [if_neg c15] at H
      exact absurd H (by simp)

end Go.Proofs.Ytmkhoakhfdjplaa.PFnTokens
