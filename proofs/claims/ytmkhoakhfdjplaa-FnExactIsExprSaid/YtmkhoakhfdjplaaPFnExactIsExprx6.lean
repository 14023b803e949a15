-- Written by a program of this session (wip/mkx.py), which extends the kit's print.
import Derived.Test.YtmkhoakhfdjplaaPFnExactIsExprx0
import Derived.Test.YtmkhoakhfdjplaaPFnExactIsExprx4
import Derived.Test.YtmkhoakhfdjplaaPFnExactIsExprx5
namespace Go.Proofs.Ytmkhoakhfdjplaa.PFnExactIsExpr
open Go.RowKit Go.Proofs.YtmkhoakhfdjplaaW.PrintWords Go.Proofs.YtmkhoakhfdjplaaW.PrintLast Go.Proofs.YtmkhoakhfdjplaaW.PrintMore
attribute [local go_sem] max2_int min2_int max_two min_two max_three min_three max_four min_four   -- for this text's walks alone
set_option linter.unusedVariables false
set_option linter.unusedSimpArgs false

/-! ### spec_IsPath: function 11 -/
mutual
def spec_IsPath.l0 : Nat → Int → Bool → Int → List (S71) → Option (Bool)
 | 0, _, _, _, _ => none
 | k + 1, x3, x203000, x203001, x203002 => if x3 < (x203002.length : Int) then (if 0 ≤ x3 then (spec_IsPath.l1 k x3 ((rd_T71 x203002 x3).f1) 0 x203000 x203001 x203002) else (none)) else ((spec_l1In.f x203001 0 8).bind fun t203 => (if t203 = true then (if (x203002.length : Int) ≤ 10 then (if x203000 = true then (if x203001 = 0 then (some true) else (some false)) else (if x203001 > 0 then (some true) else (some (decide ((x203002.length : Int) > 0))))) else (some false)) else (some false)))
def spec_IsPath.l1 : Nat → Int → List (S73) → Int → Bool → Int → List (S71) → Option (Bool)
 | 0, _, _, _, _, _, _ => none
 | k + 1, x3, x4, x5, x203000, x203001, x203002 => if x5 < (x4.length : Int) then (spec_IsPath.l2 k x3 x4 x5 0 x203000 x203001 x203002) else (if 0 ≤ x3 then (if x3 < (x203002.length : Int) then ((spec_IsName.f k ((rd_T71 x203002 x3).f0)).bind fun t206 => (if t206 = true then (if (x4.length : Int) > 3 then (some false) else (spec_IsPath.l0 k (wrap64 (x3 + 1)) x203000 x203001 x203002)) else (some false))) else (none)) else (none))
def spec_IsPath.l2 : Nat → Int → List (S73) → Int → Int → Bool → Int → List (S71) → Option (Bool)
 | 0, _, _, _, _, _, _, _ => none
 | k + 1, x3, x4, x5, x6, x203000, x203001, x203002 => if x6 < x5 then (if 0 ≤ x6 then (if x6 < (x4.length : Int) then (if 0 ≤ x5 then (if x5 < (x4.length : Int) then (if ((rd_T73 x4 x6).f0).toList = ((rd_T73 x4 x5).f0).toList then (some false) else (spec_IsPath.l2 k x3 x4 x5 (wrap64 (x6 + 1)) x203000 x203001 x203002)) else (none)) else (none)) else (none)) else (none)) else (if 0 ≤ x5 then (if x5 < (x4.length : Int) then ((spec_IsName.f k ((rd_T73 x4 x5).f0)).bind fun t210 => (if t210 = true then ((spec_IsText.f k ((rd_T73 x4 x5).f1)).bind fun t212 => (if t212 = true then (spec_IsPath.l1 k x3 x4 (wrap64 (x5 + 1)) x203000 x203001 x203002) else (some false))) else (some false))) else (none)) else (none))
end
def spec_IsPath.f (k : Nat) (a0_0 : Bool) (a0_1 : Int) (l0_2 : List (S71)) : Option (Bool) := spec_IsPath.l0 k 0 a0_0 a0_1 l0_2
theorem spec_IsPath.mono_l : ∀ k, (∀ y0 y1 y2 y3, LeO (spec_IsPath.l0 k y0 y1 y2 y3) (spec_IsPath.l0 (k + 1) y0 y1 y2 y3)) ∧ (∀ y0 y1 y2 y3 y4 y5, LeO (spec_IsPath.l1 k y0 y1 y2 y3 y4 y5) (spec_IsPath.l1 (k + 1) y0 y1 y2 y3 y4 y5)) ∧ (∀ y0 y1 y2 y3 y4 y5 y6, LeO (spec_IsPath.l2 k y0 y1 y2 y3 y4 y5 y6) (spec_IsPath.l2 (k + 1) y0 y1 y2 y3 y4 y5 y6))
 | 0 => ⟨fun _ _ _ _ r h => by simp [spec_IsPath.l0] at h, fun _ _ _ _ _ _ r h => by simp [spec_IsPath.l1] at h, fun _ _ _ _ _ _ _ r h => by simp [spec_IsPath.l2] at h⟩
 | k + 1 => by
  obtain ⟨ih0, ih1, ih2⟩ := spec_IsPath.mono_l k
  refine ⟨?_, ?_, ?_⟩
  ·intro y0 y1 y2 y3
   unfold spec_IsPath.l0
   repeat' first
   | (with_reducible exact ih0 _ _ _ _)
   | (with_reducible exact ih1 _ _ _ _ _ _)
   | (with_reducible exact ih2 _ _ _ _ _ _ _)
   | (with_reducible exact spec_IsName.mono _ _)
   | (with_reducible exact spec_IsText.mono _ _)
   | (with_reducible exact LeO.refl _)
   | (with_reducible exact LeO.none _)
   | (with_reducible refine LeO.ite ?_ ?_)
   | (with_reducible refine LeO.bind ?_ (fun _ => ?_))
   | exact ih0 _ _ _ _
   | exact ih1 _ _ _ _ _ _
   | exact ih2 _ _ _ _ _ _ _
   | exact spec_IsName.mono _ _
   | exact spec_IsText.mono _ _
   | exact LeO.none _
   | refine LeO.ite ?_ ?_
   | refine LeO.bind ?_ (fun _ => ?_)
  ·intro y0 y1 y2 y3 y4 y5
   unfold spec_IsPath.l1
   repeat' first
   | (with_reducible exact ih0 _ _ _ _)
   | (with_reducible exact ih1 _ _ _ _ _ _)
   | (with_reducible exact ih2 _ _ _ _ _ _ _)
   | (with_reducible exact spec_IsName.mono _ _)
   | (with_reducible exact spec_IsText.mono _ _)
   | (with_reducible exact LeO.refl _)
   | (with_reducible exact LeO.none _)
   | (with_reducible refine LeO.ite ?_ ?_)
   | (with_reducible refine LeO.bind ?_ (fun _ => ?_))
   | exact ih0 _ _ _ _
   | exact ih1 _ _ _ _ _ _
   | exact ih2 _ _ _ _ _ _ _
   | exact spec_IsName.mono _ _
   | exact spec_IsText.mono _ _
   | exact LeO.none _
   | refine LeO.ite ?_ ?_
   | refine LeO.bind ?_ (fun _ => ?_)
  ·intro y0 y1 y2 y3 y4 y5 y6
   unfold spec_IsPath.l2
   repeat' first
   | (with_reducible exact ih0 _ _ _ _)
   | (with_reducible exact ih1 _ _ _ _ _ _)
   | (with_reducible exact ih2 _ _ _ _ _ _ _)
   | (with_reducible exact spec_IsName.mono _ _)
   | (with_reducible exact spec_IsText.mono _ _)
   | (with_reducible exact LeO.refl _)
   | (with_reducible exact LeO.none _)
   | (with_reducible refine LeO.ite ?_ ?_)
   | (with_reducible refine LeO.bind ?_ (fun _ => ?_))
   | exact ih0 _ _ _ _
   | exact ih1 _ _ _ _ _ _
   | exact ih2 _ _ _ _ _ _ _
   | exact spec_IsName.mono _ _
   | exact spec_IsText.mono _ _
   | exact LeO.none _
   | refine LeO.ite ?_ ?_
   | refine LeO.bind ?_ (fun _ => ?_)
theorem spec_IsPath.mono : ∀ a0 a1 a2 k, LeO (spec_IsPath.f k a0 a1 a2) (spec_IsPath.f (k + 1) a0 a1 a2) := by
 intro a0 a1 a2 k
 obtain ⟨ih0, ih1, ih2⟩ := spec_IsPath.mono_l k
 unfold spec_IsPath.f
 repeat' first
   | (with_reducible exact ih0 _ _ _ _)
   | (with_reducible exact ih1 _ _ _ _ _ _)
   | (with_reducible exact ih2 _ _ _ _ _ _ _)
   | (with_reducible exact spec_IsName.mono _ _)
   | (with_reducible exact spec_IsText.mono _ _)
   | (with_reducible exact LeO.refl _)
   | (with_reducible exact LeO.none _)
   | (with_reducible refine LeO.ite ?_ ?_)
   | (with_reducible refine LeO.bind ?_ (fun _ => ?_))
   | exact ih0 _ _ _ _
   | exact ih1 _ _ _ _ _ _
   | exact ih2 _ _ _ _ _ _ _
   | exact spec_IsName.mono _ _
   | exact spec_IsText.mono _ _
   | exact LeO.none _
   | refine LeO.ite ?_ ?_
   | refine LeO.bind ?_ (fun _ => ?_)
set_option maxHeartbeats 8000000 in
set_option maxRecDepth 100000 in
theorem spec_IsPath.calls (k : Nat) (a0_0 : Bool) (a0_1 : Int) (A0_2 : Option Addr) (c0_2 : Nat) (l0_2 : List (S71)) (r : Bool) (w : World) (hr0_2 : Kd.C k71 w A0_2 l0_2.length l0_2) (hc0_2 : l0_2.length ≤ c0_2) (h : spec_IsPath.f k a0_0 a0_1 l0_2 = some r) :
  Calls Try.prog 11 #[.agg #[.bool a0_0, .int .i64 a0_1, .slice A0_2 l0_2.length c0_2]] w fun e w' => e = .returned (.bool r) ∧ Below w.heap.size w w' := by
 have hu29 := Try.underlying29
 have HR0_2 := Aside0.mk hr0_2
 have HC0_2 := Aside0.mk hc0_2
 clear hr0_2 hc0_2
 have HB := Aside0.mk (Below.refl w.heap.size w)
 have H : (spec_IsPath.l0 k 0 a0_0 a0_1 l0_2) = some r := h
 clear h
 have H' := Aside0.mk H
 clear H
 go_enter Try.func11, Try.ntmps11
 go_wp2_with (first | ((with_reducible refine gate_dst (N := 1) rfl ?_); (try (refine gate_guard (by rfl) ?_; dsimp only)); refine box_event ?hg (N := 1) ?hd (cs := #[.bool a0_0, .int .i64 a0_1, .slice A0_2 l0_2.length c0_2]) (t := 29) ?hr ?_; (case hd => rfl); (case hg => rfl); (case hr => first | (go_simp; done) | (go_simp; rfl)); intro gb202 hg w2 hbox hb; have n0_ := Aside0.mk (below_step (by repeat (first | (with_reducible first | exact HB.out | apply Ba_ | apply Bw_ | apply Bd_) | exact HB.out)) hb); have n1_ := Aside0.mk (hbox); have n2_ := Aside0.mk ((by rw [hg]; exact (below_size (by repeat (first | (with_reducible first | exact HB.out | apply Ba_ | apply Bw_ | apply Bd_) | exact HB.out))) : w.heap.size ≤ gb202)); have n3_ := Aside0.mk ((by rw [hg]; exact (below_size (by repeat (first | (with_reducible first | exact HB.out | apply Ba_ | apply Bw_ | apply Bd_) | exact HB.out))) : w.heap.size ≤ gb202)); clear HB; have HB := n0_; have BK202 := n1_; have GW202 := n2_; have GE202 := n3_; clear n0_ n1_ n2_ n3_; clear hb hbox hg))
 repeat (go_quiet (first | ((with_reducible refine gate_dst (N := 1) rfl ?_); (try (refine gate_guard (by rfl) ?_; dsimp only)); refine box_event ?hg (N := 1) ?hd (cs := #[.bool a0_0, .int .i64 a0_1, .slice A0_2 l0_2.length c0_2]) (t := 29) ?hr ?_; (case hd => rfl); (case hg => rfl); (case hr => first | (go_simp; done) | (go_simp; rfl)); intro gb202 hg w2 hbox hb; have n0_ := Aside0.mk (below_step (by repeat (first | (with_reducible first | exact HB.out | apply Ba_ | apply Bw_ | apply Bd_) | exact HB.out)) hb); have n1_ := Aside0.mk (hbox); have n2_ := Aside0.mk ((by rw [hg]; exact (below_size (by repeat (first | (with_reducible first | exact HB.out | apply Ba_ | apply Bw_ | apply Bd_) | exact HB.out))) : w.heap.size ≤ gb202)); have n3_ := Aside0.mk ((by rw [hg]; exact (below_size (by repeat (first | (with_reducible first | exact HB.out | apply Ba_ | apply Bw_ | apply Bd_) | exact HB.out))) : w.heap.size ≤ gb202)); clear HB; have HB := n0_; have BK202 := n1_; have GW202 := n2_; have GE202 := n3_; clear n0_ n1_ n2_ n3_; clear hb hbox hg)); try go_wp2_with (first | ((with_reducible refine gate_dst (N := 1) rfl ?_); (try (refine gate_guard (by rfl) ?_; dsimp only)); refine box_event ?hg (N := 1) ?hd (cs := #[.bool a0_0, .int .i64 a0_1, .slice A0_2 l0_2.length c0_2]) (t := 29) ?hr ?_; (case hd => rfl); (case hg => rfl); (case hr => first | (go_simp; done) | (go_simp; rfl)); intro gb202 hg w2 hbox hb; have n0_ := Aside0.mk (below_step (by repeat (first | (with_reducible first | exact HB.out | apply Ba_ | apply Bw_ | apply Bd_) | exact HB.out)) hb); have n1_ := Aside0.mk (hbox); have n2_ := Aside0.mk ((by rw [hg]; exact (below_size (by repeat (first | (with_reducible first | exact HB.out | apply Ba_ | apply Bw_ | apply Bd_) | exact HB.out))) : w.heap.size ≤ gb202)); have n3_ := Aside0.mk ((by rw [hg]; exact (below_size (by repeat (first | (with_reducible first | exact HB.out | apply Ba_ | apply Bw_ | apply Bd_) | exact HB.out))) : w.heap.size ≤ gb202)); clear HB; have HB := n0_; have BK202 := n1_; have GW202 := n2_; have GE202 := n3_; clear n0_ n1_ n2_ n3_; clear hb hbox hg)))
 go_loopg [3] k (fun kq v3 w' => ∃ (x3_1 : Int), v3 = .int .i64 x3_1 ∧ Aside0 (spec_IsPath.l0 kq x3_1 a0_0 a0_1 l0_2 = some r) ∧ Aside0 (kq ≤ k) ∧ Aside0 (w'.heap[gb202]? = some (.cells #[.bool a0_0, .int .i64 a0_1, (.slice A0_2 l0_2.length c0_2)] 29 (0, 0))) ∧ Aside0 (Below w.heap.size w w'))
 case atStart => exact ⟨(0), (by first | rfl | (simp; done) | (simp [*]; done)), H', ⟨Nat.le_refl _⟩, ⟨by (with_reducible repeat (first | refine Fn_ ?_ _ | refine Fd_ ?_ | refine Fa_ ?_ _)); exact BK202.out⟩, ⟨by repeat (first | (with_reducible first | exact HB.out | apply Ba_ | apply Bw_ | apply Bd_ | refine below_set ?_ GE202.out) | exact HB.out)⟩⟩
 case round =>
  clear H'
  try clear c1
  try clear p2
  obtain ⟨x3_1, rfl, HA, HK1, BK202, HB⟩ := hrel
  cases gk with
  | zero => exact absurd HA.out (by simp [spec_IsPath.l0])
  | succ k1 =>
   have H := HA.out
   clear HA
   simp only [spec_IsPath.l0] at H
   by_cases c3 : x3_1 < (l0_2.length : Int)
   ·rw [if_pos c3] at H
    have c3b0 : decide (x3_1 < (l0_2.length : Int)) = true := decide_eq_true c3
    clear c3
    by_cases c4 : 0 ≤ x3_1
    ·rw [if_pos c4] at H
     have c4b0 : decide (0 ≤ x3_1) = true := decide_eq_true c4
     clear c4
     have H' := Aside0.mk H
     clear H
     have hcz5_0 : wr.cell? ⟨gb202, 0, none⟩ = some (.bool a0_0) := (blk_cell BK202.out 0).trans rfl
     have hcz5_1 : wr.cell? ⟨gb202, 1, none⟩ = some (.int .i64 a0_1) := (blk_cell BK202.out 1).trans rfl
     have hcz5_2 : wr.cell? ⟨gb202, 2, none⟩ = some (.slice A0_2 l0_2.length c0_2) := (blk_cell BK202.out 2).trans rfl
     have hfz5_0 := blk_frozen BK202.out 0
     have hfz5_1 := blk_frozen BK202.out 1
     have hfz5_2 := blk_frozen BK202.out 2
     have p204 : 0 ≤ (x3_1 : Int) := od_
     have q204 : x3_1 < (l0_2.length : Int) := od_
     obtain ⟨ad204, A204_1, c204_1, e204, hx204_0, hx204_1, hl204_1, hi204_1⟩ := at_T71 HR0_2.out x3_1 p204 q204
     cases e204
     replace hx204_0 := (HB.out.cell (World.block_lt_of_cell? w _ hx204_0)).trans hx204_0
     replace hx204_1 := (HB.out.cell (World.block_lt_of_cell? w _ hx204_1)).trans hx204_1
     have HR204_1 := Aside0.mk hi204_1
     have HC204_1 := Aside0.mk hl204_1
     clear hi204_1 hl204_1
     replace p204 := eq_true p204
     replace q204 := eq_true q204
     go_wp2
     repeat (go_quiet (fail); try go_wp2)
     go_loopg [5] k1 (fun kq v5 w' => ∃ (x5_2 : Int), v5 = .int .i64 x5_2 ∧ Aside0 (spec_IsPath.l1 kq x3_1 ((rd_T71 l0_2 x3_1).f1) x5_2 a0_0 a0_1 l0_2 = some r) ∧ Aside0 (kq ≤ k1) ∧ Aside0 (w'.heap[gb202]? = some (.cells #[.bool a0_0, .int .i64 a0_1, (.slice (some ad204) l0_2.length c0_2)] 29 (0, 0))) ∧ Aside0 (Below w.heap.size w w'))
     case atStart => exact ⟨(0), (by first | rfl | (simp; done) | (simp [*]; done)), H', ⟨Nat.le_refl _⟩, ⟨by (with_reducible repeat (first | refine Fn_ ?_ _ | refine Fd_ ?_ | refine Fa_ ?_ _)); exact BK202.out⟩, ⟨by repeat (first | (with_reducible first | exact HB.out | apply Ba_ | apply Bw_ | apply Bd_ | refine below_set ?_ GE202.out) | exact HB.out)⟩⟩
     case round =>
      clear H'
      try clear c1
      try clear c2
      try clear p2
      try clear q2
      try clear hx2
      try clear c3
      try clear c3b0
      try clear c4
      try clear c4b0
      try clear hcz5_0
      try clear hcz5_1
      try clear hcz5_2
      try clear hfz5_0
      try clear hfz5_1
      try clear hfz5_2
      try clear hx204_0
      try clear hx204_1
      try clear p2
      try clear p204
      try clear q204
      obtain ⟨x5_2, rfl, HA, HK2, BK202, HB⟩ := hrel
      cases gk with
      | zero => exact absurd HA.out (by simp [spec_IsPath.l1])
      | succ k2 =>
       have H := HA.out
       clear HA
       simp only [spec_IsPath.l1] at H
       by_cases c6 : x5_2 < (((rd_T71 l0_2 x3_1).f1).length : Int)
       ·rw [if_pos c6] at H
        have c6b0 : decide (x5_2 < (((rd_T71 l0_2 x3_1).f1).length : Int)) = true := decide_eq_true c6
        clear c6
        have H' := Aside0.mk H
        clear H
        go_wp2
        repeat (go_quiet (fail); try go_wp2)
        go_loopg [6] k2 (fun kq v6 w' => ∃ (x6_3 : Int), v6 = .int .i64 x6_3 ∧ Aside0 (spec_IsPath.l2 kq x3_1 ((rd_T71 l0_2 x3_1).f1) x5_2 x6_3 a0_0 a0_1 l0_2 = some r) ∧ Aside0 (kq ≤ k2) ∧ Aside0 (w'.heap[gb202]? = some (.cells #[.bool a0_0, .int .i64 a0_1, (.slice (some ad204) l0_2.length c0_2)] 29 (0, 0))) ∧ Aside0 (Below w.heap.size w w'))
        case atStart => exact ⟨(0), (by first | rfl | (simp; done) | (simp [*]; done)), H', ⟨Nat.le_refl _⟩, ⟨by (with_reducible repeat (first | refine Fn_ ?_ _ | refine Fd_ ?_ | refine Fa_ ?_ _)); exact BK202.out⟩, ⟨by repeat (first | (with_reducible first | exact HB.out | apply Ba_ | apply Bw_ | apply Bd_ | refine below_set ?_ GE202.out) | exact HB.out)⟩⟩
        case round =>
         clear H'
         try clear c1
         try clear c2
         try clear p2
         try clear q2
         try clear hx2
         try clear c3
         try clear c3b0
         try clear c4
         try clear c4b0
         try clear c6
         try clear c6b0
         try clear hcz5_0
         try clear hcz5_1
         try clear hcz5_2
         try clear hfz5_0
         try clear hfz5_1
         try clear hfz5_2
         try clear hx204_0
         try clear hx204_1
         try clear p2
         try clear p204
         try clear q2
         try clear q204
         obtain ⟨x6_3, rfl, HA, HK3, BK202, HB⟩ := hrel
         cases gk with
         | zero => exact absurd HA.out (by simp [spec_IsPath.l2])
         | succ k3 =>
          have H := HA.out
          clear HA
          simp only [spec_IsPath.l2] at H
          by_cases c7 : x6_3 < x5_2
          ·rw [if_pos c7] at H
           have c7b0 : decide (x6_3 < x5_2) = true := decide_eq_true c7
           clear c7
           by_cases c8 : 0 ≤ x6_3
           ·rw [if_pos c8] at H
            have c8b0 : decide (0 ≤ x6_3) = true := decide_eq_true c8
            clear c8
            by_cases c9 : x6_3 < (((rd_T71 l0_2 x3_1).f1).length : Int)
            ·rw [if_pos c9] at H
             have c9b0 : decide (x6_3 < (((rd_T71 l0_2 x3_1).f1).length : Int)) = true := decide_eq_true c9
             clear c9
             by_cases c10 : 0 ≤ x5_2
             ·rw [if_pos c10] at H
              have c10b0 : decide (0 ≤ x5_2) = true := decide_eq_true c10
              clear c10
              by_cases c11 : x5_2 < (((rd_T71 l0_2 x3_1).f1).length : Int)
              ·rw [if_pos c11] at H
               have c11b0 : decide (x5_2 < (((rd_T71 l0_2 x3_1).f1).length : Int)) = true := decide_eq_true c11
               clear c11
               by_cases c12 : ((rd_T73 ((rd_T71 l0_2 x3_1).f1) x6_3).f0).toList = ((rd_T73 ((rd_T71 l0_2 x3_1).f1) x5_2).f0).toList
               ·rw [if_pos c12] at H
                have c12b0 : (((rd_T73 ((rd_T71 l0_2 x3_1).f1) x6_3).f0).toList == ((rd_T73 ((rd_T71 l0_2 x3_1).f1) x5_2).f0).toList) = true := beq_iff_eq.mpr c12
                have c12b1 : (((rd_T73 ((rd_T71 l0_2 x3_1).f1) x6_3).f0).toList != ((rd_T73 ((rd_T71 l0_2 x3_1).f1) x5_2).f0).toList) = false := bne_eq_false_iff_eq.mpr c12
                clear c12
                obtain rfl := Option.some.inj H
                have p207 : 0 ≤ (x6_3 : Int) := od_
                have q207 : x6_3 < (((rd_T71 l0_2 x3_1).f1).length : Int) := od_
                obtain ⟨ad207, e207, hx207_0, hx207_1⟩ := at_T73 HR204_1.out x6_3 p207 q207
                cases e207
                replace hx207_0 := (HB.out.cell (World.block_lt_of_cell? w _ hx207_0)).trans hx207_0
                replace hx207_1 := (HB.out.cell (World.block_lt_of_cell? w _ hx207_1)).trans hx207_1
                replace p207 := eq_true p207
                replace q207 := eq_true q207
                have p208 : 0 ≤ (x5_2 : Int) := od_
                have q208 : x5_2 < (((rd_T71 l0_2 x3_1).f1).length : Int) := od_
                obtain ⟨ad208, e208, hx208_0, hx208_1⟩ := at_T73 HR204_1.out x5_2 p208 q208
                obtain rfl : ad207 = ad208 := (by injection e208)
                replace hx208_0 := (HB.out.cell (World.block_lt_of_cell? w _ hx208_0)).trans hx208_0
                replace hx208_1 := (HB.out.cell (World.block_lt_of_cell? w _ hx208_1)).trans hx208_1
                replace p208 := eq_true p208
                replace q208 := eq_true q208
                go_wp2
                repeat (go_quiet (fail); try go_wp2)
                go_ret
                exact ⟨by first | rfl | (simp [errW_none, errW_some] <;> rfl) | (simp [*, errW_none, errW_some] <;> rfl) | (simp [isEmpty_ne_]; done) | (simp [*, isEmpty_ne_]; done), by repeat (first | (with_reducible first | exact HB.out | apply Ba_ | apply Bw_ | apply Bd_ | refine below_set ?_ GE202.out) | exact HB.out)⟩
               ·rw [if_neg c12] at H
                have c12b0 : (((rd_T73 ((rd_T71 l0_2 x3_1).f1) x6_3).f0).toList == ((rd_T73 ((rd_T71 l0_2 x3_1).f1) x5_2).f0).toList) = false := beq_eq_false_iff_ne.mpr c12
                have c12b1 : (((rd_T73 ((rd_T71 l0_2 x3_1).f1) x6_3).f0).toList != ((rd_T73 ((rd_T71 l0_2 x3_1).f1) x5_2).f0).toList) = true := bne_iff_ne.mpr c12
                have H' := Aside0.mk H
                clear H
                have p207 : 0 ≤ (x6_3 : Int) := od_
                have q207 : x6_3 < (((rd_T71 l0_2 x3_1).f1).length : Int) := od_
                obtain ⟨ad207, e207, hx207_0, hx207_1⟩ := at_T73 HR204_1.out x6_3 p207 q207
                cases e207
                replace hx207_0 := (HB.out.cell (World.block_lt_of_cell? w _ hx207_0)).trans hx207_0
                replace hx207_1 := (HB.out.cell (World.block_lt_of_cell? w _ hx207_1)).trans hx207_1
                replace p207 := eq_true p207
                replace q207 := eq_true q207
                have p208 : 0 ≤ (x5_2 : Int) := od_
                have q208 : x5_2 < (((rd_T71 l0_2 x3_1).f1).length : Int) := od_
                obtain ⟨ad208, e208, hx208_0, hx208_1⟩ := at_T73 HR204_1.out x5_2 p208 q208
                obtain rfl : ad207 = ad208 := (by injection e208)
                replace hx208_0 := (HB.out.cell (World.block_lt_of_cell? w _ hx208_0)).trans hx208_0
                replace hx208_1 := (HB.out.cell (World.block_lt_of_cell? w _ hx208_1)).trans hx208_1
                replace p208 := eq_true p208
                replace q208 := eq_true q208
                go_wp2
                repeat (go_quiet (fail); try go_wp2)
                go_roundg k3
                case measure => have := HK1.out; have := HK2.out; have := HK3.out; omega
                case rel => exact ⟨(wrap64 (x6_3 + 1)), (by first | rfl | (simp; done) | (simp [*]; done)), H', ⟨by have := HK1.out; have := HK2.out; have := HK3.out; omega⟩, ⟨by (with_reducible repeat (first | refine Fn_ ?_ _ | refine Fd_ ?_ | refine Fa_ ?_ _)); exact BK202.out⟩, ⟨by repeat (first | (with_reducible first | exact HB.out | apply Ba_ | apply Bw_ | apply Bd_ | refine below_set ?_ GE202.out) | exact HB.out)⟩⟩
              ·rw [if_neg c11] at H
               exact absurd H (by simp)
             ·rw [if_neg c10] at H
              exact absurd H (by simp)
            ·rw [if_neg c9] at H
             exact absurd H (by simp)
           ·rw [if_neg c8] at H
            exact absurd H (by simp)
          ·rw [if_neg c7] at H
           have c7b0 : decide (x6_3 < x5_2) = false := decide_eq_false c7
           clear c7
           by_cases c13 : 0 ≤ x5_2
           ·rw [if_pos c13] at H
            have c13b0 : decide (0 ≤ x5_2) = true := decide_eq_true c13
            clear c13
            by_cases c14 : x5_2 < (((rd_T71 l0_2 x3_1).f1).length : Int)
            ·rw [if_pos c14] at H
             have c14b0 : decide (x5_2 < (((rd_T71 l0_2 x3_1).f1).length : Int)) = true := decide_eq_true c14
             clear c14
             replace H := Option.bind_eq_some_iff.mp H
             obtain ⟨t210, A150, H⟩ := H
             replace H : (if t210 = true then ((spec_IsText.f k3 ((rd_T73 ((rd_T71 l0_2 x3_1).f1) x5_2).f1)).bind fun t212 => (if t212 = true then (spec_IsPath.l1 k3 x3_1 ((rd_T71 l0_2 x3_1).f1) (wrap64 (x5_2 + 1)) a0_0 a0_1 l0_2) else (some false))) else (some false)) = some r := H
             have A15 := Aside0.mk A150
             clear A150
             by_cases c16 : t210 = true
             ·subst c16
              have H1 : ((spec_IsText.f k3 ((rd_T73 ((rd_T71 l0_2 x3_1).f1) x5_2).f1)).bind fun t212 => (if t212 = true then (spec_IsPath.l1 k3 x3_1 ((rd_T71 l0_2 x3_1).f1) (wrap64 (x5_2 + 1)) a0_0 a0_1 l0_2) else (some false))) = some r := by rw [if_pos rfl] at H; exact H
              clear H
              have H := H1
              clear H1
              replace H := Option.bind_eq_some_iff.mp H
              obtain ⟨t212, A170, H⟩ := H
              replace H : (if t212 = true then (spec_IsPath.l1 k3 x3_1 ((rd_T71 l0_2 x3_1).f1) (wrap64 (x5_2 + 1)) a0_0 a0_1 l0_2) else (some false)) = some r := H
              have A17 := Aside0.mk A170
              clear A170
              by_cases c18 : t212 = true
              ·subst c18
               have H1 : (spec_IsPath.l1 k3 x3_1 ((rd_T71 l0_2 x3_1).f1) (wrap64 (x5_2 + 1)) a0_0 a0_1 l0_2) = some r := by rw [if_pos rfl] at H; exact H
               clear H
               have H := H1
               clear H1
               have H' := Aside0.mk H
               clear H
               have p209 : 0 ≤ (x5_2 : Int) := od_
               have q209 : x5_2 < (((rd_T71 l0_2 x3_1).f1).length : Int) := od_
               obtain ⟨ad209, e209, hx209_0, hx209_1⟩ := at_T73 HR204_1.out x5_2 p209 q209
               cases e209
               replace hx209_0 := (HB.out.cell (World.block_lt_of_cell? w _ hx209_0)).trans hx209_0
               replace hx209_1 := (HB.out.cell (World.block_lt_of_cell? w _ hx209_1)).trans hx209_1
               replace p209 := eq_true p209
               replace q209 := eq_true q209
               go_wp2_with (first | (go_at_call 45; (with_reducible refine (spec_IsName.calls k3 ((rd_T73 ((rd_T71 l0_2 x3_1).f1) x5_2).f0) true _ A15.out).mono ?_); rintro e w' ⟨rfl, ⟨nd, rfl⟩⟩; (try first | exact ⟨rfl, _, World.drewN_drewN _ _ _⟩ | exact ⟨rfl, _, Eq.trans (World.drewN_drewN _ _ _) (congrArg (World.drewN _) (Nat.add_assoc _ _ _))⟩); have p211 : 0 ≤ (x5_2 : Int) := od_; have q211 : x5_2 < (((rd_T71 l0_2 x3_1).f1).length : Int) := od_; obtain ⟨ad211, e211, hx211_0, hx211_1⟩ := at_T73 HR204_1.out x5_2 p211 q211; obtain rfl : ad209 = ad211 := (by injection e211); replace hx211_0 := (HB.out.cell (World.block_lt_of_cell? w _ hx211_0)).trans hx211_0; replace hx211_1 := (HB.out.cell (World.block_lt_of_cell? w _ hx211_1)).trans hx211_1; replace p211 := eq_true p211; replace q211 := eq_true q211) | (go_at_call 46; (with_reducible refine (spec_IsText.calls k3 ((rd_T73 ((rd_T71 l0_2 x3_1).f1) x5_2).f1) true _ A17.out).mono ?_); rintro e w' ⟨rfl, ⟨nd, rfl⟩⟩; (try first | exact ⟨rfl, _, World.drewN_drewN _ _ _⟩ | exact ⟨rfl, _, Eq.trans (World.drewN_drewN _ _ _) (congrArg (World.drewN _) (Nat.add_assoc _ _ _))⟩)))
               repeat (go_quiet (first | (go_at_call 45; (with_reducible refine (spec_IsName.calls k3 ((rd_T73 ((rd_T71 l0_2 x3_1).f1) x5_2).f0) true _ A15.out).mono ?_); rintro e w' ⟨rfl, ⟨nd, rfl⟩⟩; (try first | exact ⟨rfl, _, World.drewN_drewN _ _ _⟩ | exact ⟨rfl, _, Eq.trans (World.drewN_drewN _ _ _) (congrArg (World.drewN _) (Nat.add_assoc _ _ _))⟩); have p211 : 0 ≤ (x5_2 : Int) := od_; have q211 : x5_2 < (((rd_T71 l0_2 x3_1).f1).length : Int) := od_; obtain ⟨ad211, e211, hx211_0, hx211_1⟩ := at_T73 HR204_1.out x5_2 p211 q211; obtain rfl : ad209 = ad211 := (by injection e211); replace hx211_0 := (HB.out.cell (World.block_lt_of_cell? w _ hx211_0)).trans hx211_0; replace hx211_1 := (HB.out.cell (World.block_lt_of_cell? w _ hx211_1)).trans hx211_1; replace p211 := eq_true p211; replace q211 := eq_true q211) | (go_at_call 46; (with_reducible refine (spec_IsText.calls k3 ((rd_T73 ((rd_T71 l0_2 x3_1).f1) x5_2).f1) true _ A17.out).mono ?_); rintro e w' ⟨rfl, ⟨nd, rfl⟩⟩; (try first | exact ⟨rfl, _, World.drewN_drewN _ _ _⟩ | exact ⟨rfl, _, Eq.trans (World.drewN_drewN _ _ _) (congrArg (World.drewN _) (Nat.add_assoc _ _ _))⟩))); try go_wp2_with (first | (go_at_call 45; (with_reducible refine (spec_IsName.calls k3 ((rd_T73 ((rd_T71 l0_2 x3_1).f1) x5_2).f0) true _ A15.out).mono ?_); rintro e w' ⟨rfl, ⟨nd, rfl⟩⟩; (try first | exact ⟨rfl, _, World.drewN_drewN _ _ _⟩ | exact ⟨rfl, _, Eq.trans (World.drewN_drewN _ _ _) (congrArg (World.drewN _) (Nat.add_assoc _ _ _))⟩); have p211 : 0 ≤ (x5_2 : Int) := od_; have q211 : x5_2 < (((rd_T71 l0_2 x3_1).f1).length : Int) := od_; obtain ⟨ad211, e211, hx211_0, hx211_1⟩ := at_T73 HR204_1.out x5_2 p211 q211; obtain rfl : ad209 = ad211 := (by injection e211); replace hx211_0 := (HB.out.cell (World.block_lt_of_cell? w _ hx211_0)).trans hx211_0; replace hx211_1 := (HB.out.cell (World.block_lt_of_cell? w _ hx211_1)).trans hx211_1; replace p211 := eq_true p211; replace q211 := eq_true q211) | (go_at_call 46; (with_reducible refine (spec_IsText.calls k3 ((rd_T73 ((rd_T71 l0_2 x3_1).f1) x5_2).f1) true _ A17.out).mono ?_); rintro e w' ⟨rfl, ⟨nd, rfl⟩⟩; (try first | exact ⟨rfl, _, World.drewN_drewN _ _ _⟩ | exact ⟨rfl, _, Eq.trans (World.drewN_drewN _ _ _) (congrArg (World.drewN _) (Nat.add_assoc _ _ _))⟩))))
               go_roundg k3
               case measure => have := HK1.out; have := HK2.out; have := HK3.out; omega
               case rel => exact ⟨(wrap64 (x5_2 + 1)), (by first | rfl | (simp; done) | (simp [*]; done)), H', ⟨by have := HK1.out; have := HK2.out; have := HK3.out; omega⟩, ⟨by (with_reducible repeat (first | refine Fn_ ?_ _ | refine Fd_ ?_ | refine Fa_ ?_ _)); exact BK202.out⟩, ⟨by repeat (first | (with_reducible first | exact HB.out | apply Ba_ | apply Bw_ | apply Bd_ | refine below_set ?_ GE202.out) | exact HB.out)⟩⟩
              ·replace c18 := Bool.eq_false_iff.mpr c18
               subst c18
               have H1 : (some false) = some r := by rw [if_neg (show ¬ (false = true) by decide)] at H; exact H
               clear H
               have H := H1
               clear H1
               obtain rfl := Option.some.inj H
               have p209 : 0 ≤ (x5_2 : Int) := od_
               have q209 : x5_2 < (((rd_T71 l0_2 x3_1).f1).length : Int) := od_
               obtain ⟨ad209, e209, hx209_0, hx209_1⟩ := at_T73 HR204_1.out x5_2 p209 q209
               cases e209
               replace hx209_0 := (HB.out.cell (World.block_lt_of_cell? w _ hx209_0)).trans hx209_0
               replace hx209_1 := (HB.out.cell (World.block_lt_of_cell? w _ hx209_1)).trans hx209_1
               replace p209 := eq_true p209
               replace q209 := eq_true q209
               go_wp2_with (first | (go_at_call 45; (with_reducible refine (spec_IsName.calls k3 ((rd_T73 ((rd_T71 l0_2 x3_1).f1) x5_2).f0) true _ A15.out).mono ?_); rintro e w' ⟨rfl, ⟨nd, rfl⟩⟩; (try first | exact ⟨rfl, _, World.drewN_drewN _ _ _⟩ | exact ⟨rfl, _, Eq.trans (World.drewN_drewN _ _ _) (congrArg (World.drewN _) (Nat.add_assoc _ _ _))⟩); have p211 : 0 ≤ (x5_2 : Int) := od_; have q211 : x5_2 < (((rd_T71 l0_2 x3_1).f1).length : Int) := od_; obtain ⟨ad211, e211, hx211_0, hx211_1⟩ := at_T73 HR204_1.out x5_2 p211 q211; obtain rfl : ad209 = ad211 := (by injection e211); replace hx211_0 := (HB.out.cell (World.block_lt_of_cell? w _ hx211_0)).trans hx211_0; replace hx211_1 := (HB.out.cell (World.block_lt_of_cell? w _ hx211_1)).trans hx211_1; replace p211 := eq_true p211; replace q211 := eq_true q211) | (go_at_call 46; (with_reducible refine (spec_IsText.calls k3 ((rd_T73 ((rd_T71 l0_2 x3_1).f1) x5_2).f1) false _ A17.out).mono ?_); rintro e w' ⟨rfl, ⟨nd, rfl⟩⟩; (try first | exact ⟨rfl, _, World.drewN_drewN _ _ _⟩ | exact ⟨rfl, _, Eq.trans (World.drewN_drewN _ _ _) (congrArg (World.drewN _) (Nat.add_assoc _ _ _))⟩)))
               repeat (go_quiet (first | (go_at_call 45; (with_reducible refine (spec_IsName.calls k3 ((rd_T73 ((rd_T71 l0_2 x3_1).f1) x5_2).f0) true _ A15.out).mono ?_); rintro e w' ⟨rfl, ⟨nd, rfl⟩⟩; (try first | exact ⟨rfl, _, World.drewN_drewN _ _ _⟩ | exact ⟨rfl, _, Eq.trans (World.drewN_drewN _ _ _) (congrArg (World.drewN _) (Nat.add_assoc _ _ _))⟩); have p211 : 0 ≤ (x5_2 : Int) := od_; have q211 : x5_2 < (((rd_T71 l0_2 x3_1).f1).length : Int) := od_; obtain ⟨ad211, e211, hx211_0, hx211_1⟩ := at_T73 HR204_1.out x5_2 p211 q211; obtain rfl : ad209 = ad211 := (by injection e211); replace hx211_0 := (HB.out.cell (World.block_lt_of_cell? w _ hx211_0)).trans hx211_0; replace hx211_1 := (HB.out.cell (World.block_lt_of_cell? w _ hx211_1)).trans hx211_1; replace p211 := eq_true p211; replace q211 := eq_true q211) | (go_at_call 46; (with_reducible refine (spec_IsText.calls k3 ((rd_T73 ((rd_T71 l0_2 x3_1).f1) x5_2).f1) false _ A17.out).mono ?_); rintro e w' ⟨rfl, ⟨nd, rfl⟩⟩; (try first | exact ⟨rfl, _, World.drewN_drewN _ _ _⟩ | exact ⟨rfl, _, Eq.trans (World.drewN_drewN _ _ _) (congrArg (World.drewN _) (Nat.add_assoc _ _ _))⟩))); try go_wp2_with (first | (go_at_call 45; (with_reducible refine (spec_IsName.calls k3 ((rd_T73 ((rd_T71 l0_2 x3_1).f1) x5_2).f0) true _ A15.out).mono ?_); rintro e w' ⟨rfl, ⟨nd, rfl⟩⟩; (try first | exact ⟨rfl, _, World.drewN_drewN _ _ _⟩ | exact ⟨rfl, _, Eq.trans (World.drewN_drewN _ _ _) (congrArg (World.drewN _) (Nat.add_assoc _ _ _))⟩); have p211 : 0 ≤ (x5_2 : Int) := od_; have q211 : x5_2 < (((rd_T71 l0_2 x3_1).f1).length : Int) := od_; obtain ⟨ad211, e211, hx211_0, hx211_1⟩ := at_T73 HR204_1.out x5_2 p211 q211; obtain rfl : ad209 = ad211 := (by injection e211); replace hx211_0 := (HB.out.cell (World.block_lt_of_cell? w _ hx211_0)).trans hx211_0; replace hx211_1 := (HB.out.cell (World.block_lt_of_cell? w _ hx211_1)).trans hx211_1; replace p211 := eq_true p211; replace q211 := eq_true q211) | (go_at_call 46; (with_reducible refine (spec_IsText.calls k3 ((rd_T73 ((rd_T71 l0_2 x3_1).f1) x5_2).f1) false _ A17.out).mono ?_); rintro e w' ⟨rfl, ⟨nd, rfl⟩⟩; (try first | exact ⟨rfl, _, World.drewN_drewN _ _ _⟩ | exact ⟨rfl, _, Eq.trans (World.drewN_drewN _ _ _) (congrArg (World.drewN _) (Nat.add_assoc _ _ _))⟩))))
               go_ret
               exact ⟨by first | rfl | (simp [errW_none, errW_some] <;> rfl) | (simp [*, errW_none, errW_some] <;> rfl) | (simp [isEmpty_ne_]; done) | (simp [*, isEmpty_ne_]; done), by repeat (first | (with_reducible first | exact HB.out | apply Ba_ | apply Bw_ | apply Bd_ | refine below_set ?_ GE202.out) | exact HB.out)⟩
             ·replace c16 := Bool.eq_false_iff.mpr c16
              subst c16
              have H1 : (some false) = some r := by rw [if_neg (show ¬ (false = true) by decide)] at H; exact H
              clear H
              have H := H1
              clear H1
              obtain rfl := Option.some.inj H
              have p209 : 0 ≤ (x5_2 : Int) := od_
              have q209 : x5_2 < (((rd_T71 l0_2 x3_1).f1).length : Int) := od_
              obtain ⟨ad209, e209, hx209_0, hx209_1⟩ := at_T73 HR204_1.out x5_2 p209 q209
              cases e209
              replace hx209_0 := (HB.out.cell (World.block_lt_of_cell? w _ hx209_0)).trans hx209_0
              replace hx209_1 := (HB.out.cell (World.block_lt_of_cell? w _ hx209_1)).trans hx209_1
              replace p209 := eq_true p209
              replace q209 := eq_true q209
              go_wp2_with (first | (go_at_call 45; (with_reducible refine (spec_IsName.calls k3 ((rd_T73 ((rd_T71 l0_2 x3_1).f1) x5_2).f0) false _ A15.out).mono ?_); rintro e w' ⟨rfl, ⟨nd, rfl⟩⟩; (try first | exact ⟨rfl, _, World.drewN_drewN _ _ _⟩ | exact ⟨rfl, _, Eq.trans (World.drewN_drewN _ _ _) (congrArg (World.drewN _) (Nat.add_assoc _ _ _))⟩)))
              repeat (go_quiet (first | (go_at_call 45; (with_reducible refine (spec_IsName.calls k3 ((rd_T73 ((rd_T71 l0_2 x3_1).f1) x5_2).f0) false _ A15.out).mono ?_); rintro e w' ⟨rfl, ⟨nd, rfl⟩⟩; (try first | exact ⟨rfl, _, World.drewN_drewN _ _ _⟩ | exact ⟨rfl, _, Eq.trans (World.drewN_drewN _ _ _) (congrArg (World.drewN _) (Nat.add_assoc _ _ _))⟩))); try go_wp2_with (first | (go_at_call 45; (with_reducible refine (spec_IsName.calls k3 ((rd_T73 ((rd_T71 l0_2 x3_1).f1) x5_2).f0) false _ A15.out).mono ?_); rintro e w' ⟨rfl, ⟨nd, rfl⟩⟩; (try first | exact ⟨rfl, _, World.drewN_drewN _ _ _⟩ | exact ⟨rfl, _, Eq.trans (World.drewN_drewN _ _ _) (congrArg (World.drewN _) (Nat.add_assoc _ _ _))⟩))))
              go_ret
              exact ⟨by first | rfl | (simp [errW_none, errW_some] <;> rfl) | (simp [*, errW_none, errW_some] <;> rfl) | (simp [isEmpty_ne_]; done) | (simp [*, isEmpty_ne_]; done), by repeat (first | (with_reducible first | exact HB.out | apply Ba_ | apply Bw_ | apply Bd_ | refine below_set ?_ GE202.out) | exact HB.out)⟩
            ·rw [if_neg c14] at H
             exact absurd H (by simp)
           ·rw [if_neg c13] at H
            exact absurd H (by simp)
       ·rw [if_neg c6] at H
        have c6b0 : decide (x5_2 < (((rd_T71 l0_2 x3_1).f1).length : Int)) = false := decide_eq_false c6
        clear c6
        by_cases c19 : 0 ≤ x3_1
        ·rw [if_pos c19] at H
         have c19b0 : decide (0 ≤ x3_1) = true := decide_eq_true c19
         clear c19
         by_cases c20 : x3_1 < (l0_2.length : Int)
         ·rw [if_pos c20] at H
          have c20b0 : decide (x3_1 < (l0_2.length : Int)) = true := decide_eq_true c20
          clear c20
          replace H := Option.bind_eq_some_iff.mp H
          obtain ⟨t206, A210, H⟩ := H
          replace H : (if t206 = true then (if (((rd_T71 l0_2 x3_1).f1).length : Int) > 3 then (some false) else (spec_IsPath.l0 k2 (wrap64 (x3_1 + 1)) a0_0 a0_1 l0_2)) else (some false)) = some r := H
          have A21 := Aside0.mk A210
          clear A210
          by_cases c22 : t206 = true
          ·subst c22
           have H1 : (if (((rd_T71 l0_2 x3_1).f1).length : Int) > 3 then (some false) else (spec_IsPath.l0 k2 (wrap64 (x3_1 + 1)) a0_0 a0_1 l0_2)) = some r := by rw [if_pos rfl] at H; exact H
           clear H
           have H := H1
           clear H1
           by_cases c23 : (((rd_T71 l0_2 x3_1).f1).length : Int) > 3
           ·rw [if_pos c23] at H
            have c23b0 : decide (3 < (((rd_T71 l0_2 x3_1).f1).length : Int)) = true := decide_eq_true c23
            have c23b1 : decide (3 < ((rd_T71 l0_2 x3_1).f1).length) = true := decide_eq_true (by omega)
            clear c23
            obtain rfl := Option.some.inj H
            have hcz24_0 : wr.cell? ⟨gb202, 0, none⟩ = some (.bool a0_0) := (blk_cell BK202.out 0).trans rfl
            have hcz24_1 : wr.cell? ⟨gb202, 1, none⟩ = some (.int .i64 a0_1) := (blk_cell BK202.out 1).trans rfl
            have hcz24_2 : wr.cell? ⟨gb202, 2, none⟩ = some (.slice (some ad204) l0_2.length c0_2) := (blk_cell BK202.out 2).trans rfl
            have hfz24_0 := blk_frozen BK202.out 0
            have hfz24_1 := blk_frozen BK202.out 1
            have hfz24_2 := blk_frozen BK202.out 2
            have p205 : 0 ≤ (x3_1 : Int) := od_
            have q205 : x3_1 < (l0_2.length : Int) := od_
            obtain ⟨ad205, A205_1, c205_1, e205, hx205_0, hx205_1, hl205_1, hi205_1⟩ := at_T71 HR0_2.out x3_1 p205 q205
            obtain rfl : ad204 = ad205 := (by injection e205)
            replace hx205_0 := (HB.out.cell (World.block_lt_of_cell? w _ hx205_0)).trans hx205_0
            replace hx205_1 := (HB.out.cell (World.block_lt_of_cell? w _ hx205_1)).trans hx205_1
            have HR205_1 := Aside0.mk hi205_1
            have HC205_1 := Aside0.mk hl205_1
            clear hi205_1 hl205_1
            replace p205 := eq_true p205
            replace q205 := eq_true q205
            go_wp2_with (first | (go_at_call 45; (with_reducible refine (spec_IsName.calls k2 ((rd_T71 l0_2 x3_1).f0) true _ A21.out).mono ?_); rintro e w' ⟨rfl, ⟨nd, rfl⟩⟩; (try first | exact ⟨rfl, _, World.drewN_drewN _ _ _⟩ | exact ⟨rfl, _, Eq.trans (World.drewN_drewN _ _ _) (congrArg (World.drewN _) (Nat.add_assoc _ _ _))⟩)))
            repeat (go_quiet (first | (go_at_call 45; (with_reducible refine (spec_IsName.calls k2 ((rd_T71 l0_2 x3_1).f0) true _ A21.out).mono ?_); rintro e w' ⟨rfl, ⟨nd, rfl⟩⟩; (try first | exact ⟨rfl, _, World.drewN_drewN _ _ _⟩ | exact ⟨rfl, _, Eq.trans (World.drewN_drewN _ _ _) (congrArg (World.drewN _) (Nat.add_assoc _ _ _))⟩))); try go_wp2_with (first | (go_at_call 45; (with_reducible refine (spec_IsName.calls k2 ((rd_T71 l0_2 x3_1).f0) true _ A21.out).mono ?_); rintro e w' ⟨rfl, ⟨nd, rfl⟩⟩; (try first | exact ⟨rfl, _, World.drewN_drewN _ _ _⟩ | exact ⟨rfl, _, Eq.trans (World.drewN_drewN _ _ _) (congrArg (World.drewN _) (Nat.add_assoc _ _ _))⟩))))
            go_ret
            exact ⟨by first | rfl | (simp [errW_none, errW_some] <;> rfl) | (simp [*, errW_none, errW_some] <;> rfl) | (simp [isEmpty_ne_]; done) | (simp [*, isEmpty_ne_]; done), by repeat (first | (with_reducible first | exact HB.out | apply Ba_ | apply Bw_ | apply Bd_ | refine below_set ?_ GE202.out) | exact HB.out)⟩
           ·rw [if_neg c23] at H
            have c23b0 : decide (3 < (((rd_T71 l0_2 x3_1).f1).length : Int)) = false := decide_eq_false c23
            have c23b1 : decide (3 < ((rd_T71 l0_2 x3_1).f1).length) = false := decide_eq_false (by omega)
            clear c23
            have H' := Aside0.mk H
            clear H
            have hcz25_0 : wr.cell? ⟨gb202, 0, none⟩ = some (.bool a0_0) := (blk_cell BK202.out 0).trans rfl
            have hcz25_1 : wr.cell? ⟨gb202, 1, none⟩ = some (.int .i64 a0_1) := (blk_cell BK202.out 1).trans rfl
            have hcz25_2 : wr.cell? ⟨gb202, 2, none⟩ = some (.slice (some ad204) l0_2.length c0_2) := (blk_cell BK202.out 2).trans rfl
            have hfz25_0 := blk_frozen BK202.out 0
            have hfz25_1 := blk_frozen BK202.out 1
            have hfz25_2 := blk_frozen BK202.out 2
            have p205 : 0 ≤ (x3_1 : Int) := od_
            have q205 : x3_1 < (l0_2.length : Int) := od_
            obtain ⟨ad205, A205_1, c205_1, e205, hx205_0, hx205_1, hl205_1, hi205_1⟩ := at_T71 HR0_2.out x3_1 p205 q205
            obtain rfl : ad204 = ad205 := (by injection e205)
            replace hx205_0 := (HB.out.cell (World.block_lt_of_cell? w _ hx205_0)).trans hx205_0
            replace hx205_1 := (HB.out.cell (World.block_lt_of_cell? w _ hx205_1)).trans hx205_1
            have HR205_1 := Aside0.mk hi205_1
            have HC205_1 := Aside0.mk hl205_1
            clear hi205_1 hl205_1
            replace p205 := eq_true p205
            replace q205 := eq_true q205
            go_wp2_with (first | (go_at_call 45; (with_reducible refine (spec_IsName.calls k2 ((rd_T71 l0_2 x3_1).f0) true _ A21.out).mono ?_); rintro e w' ⟨rfl, ⟨nd, rfl⟩⟩; (try first | exact ⟨rfl, _, World.drewN_drewN _ _ _⟩ | exact ⟨rfl, _, Eq.trans (World.drewN_drewN _ _ _) (congrArg (World.drewN _) (Nat.add_assoc _ _ _))⟩)))
            repeat (go_quiet (first | (go_at_call 45; (with_reducible refine (spec_IsName.calls k2 ((rd_T71 l0_2 x3_1).f0) true _ A21.out).mono ?_); rintro e w' ⟨rfl, ⟨nd, rfl⟩⟩; (try first | exact ⟨rfl, _, World.drewN_drewN _ _ _⟩ | exact ⟨rfl, _, Eq.trans (World.drewN_drewN _ _ _) (congrArg (World.drewN _) (Nat.add_assoc _ _ _))⟩))); try go_wp2_with (first | (go_at_call 45; (with_reducible refine (spec_IsName.calls k2 ((rd_T71 l0_2 x3_1).f0) true _ A21.out).mono ?_); rintro e w' ⟨rfl, ⟨nd, rfl⟩⟩; (try first | exact ⟨rfl, _, World.drewN_drewN _ _ _⟩ | exact ⟨rfl, _, Eq.trans (World.drewN_drewN _ _ _) (congrArg (World.drewN _) (Nat.add_assoc _ _ _))⟩))))
            go_roundg k2
            case measure => have := HK1.out; have := HK2.out; omega
            case rel => exact ⟨(wrap64 (x3_1 + 1)), (by first | rfl | (simp; done) | (simp [*]; done)), H', ⟨by have := HK1.out; have := HK2.out; omega⟩, ⟨by (with_reducible repeat (first | refine Fn_ ?_ _ | refine Fd_ ?_ | refine Fa_ ?_ _)); exact BK202.out⟩, ⟨by repeat (first | (with_reducible first | exact HB.out | apply Ba_ | apply Bw_ | apply Bd_ | refine below_set ?_ GE202.out) | exact HB.out)⟩⟩
          ·replace c22 := Bool.eq_false_iff.mpr c22
           subst c22
           have H1 : (some false) = some r := by rw [if_neg (show ¬ (false = true) by decide)] at H; exact H
           clear H
           have H := H1
           clear H1
           obtain rfl := Option.some.inj H
           have hcz26_0 : wr.cell? ⟨gb202, 0, none⟩ = some (.bool a0_0) := (blk_cell BK202.out 0).trans rfl
           have hcz26_1 : wr.cell? ⟨gb202, 1, none⟩ = some (.int .i64 a0_1) := (blk_cell BK202.out 1).trans rfl
           have hcz26_2 : wr.cell? ⟨gb202, 2, none⟩ = some (.slice (some ad204) l0_2.length c0_2) := (blk_cell BK202.out 2).trans rfl
           have hfz26_0 := blk_frozen BK202.out 0
           have hfz26_1 := blk_frozen BK202.out 1
           have hfz26_2 := blk_frozen BK202.out 2
           have p205 : 0 ≤ (x3_1 : Int) := od_
           have q205 : x3_1 < (l0_2.length : Int) := od_
           obtain ⟨ad205, A205_1, c205_1, e205, hx205_0, hx205_1, hl205_1, hi205_1⟩ := at_T71 HR0_2.out x3_1 p205 q205
           obtain rfl : ad204 = ad205 := (by injection e205)
           replace hx205_0 := (HB.out.cell (World.block_lt_of_cell? w _ hx205_0)).trans hx205_0
           replace hx205_1 := (HB.out.cell (World.block_lt_of_cell? w _ hx205_1)).trans hx205_1
           have HR205_1 := Aside0.mk hi205_1
           have HC205_1 := Aside0.mk hl205_1
           clear hi205_1 hl205_1
           replace p205 := eq_true p205
           replace q205 := eq_true q205
           go_wp2_with (first | (go_at_call 45; (with_reducible refine (spec_IsName.calls k2 ((rd_T71 l0_2 x3_1).f0) false _ A21.out).mono ?_); rintro e w' ⟨rfl, ⟨nd, rfl⟩⟩; (try first | exact ⟨rfl, _, World.drewN_drewN _ _ _⟩ | exact ⟨rfl, _, Eq.trans (World.drewN_drewN _ _ _) (congrArg (World.drewN _) (Nat.add_assoc _ _ _))⟩)))
           repeat (go_quiet (first | (go_at_call 45; (with_reducible refine (spec_IsName.calls k2 ((rd_T71 l0_2 x3_1).f0) false _ A21.out).mono ?_); rintro e w' ⟨rfl, ⟨nd, rfl⟩⟩; (try first | exact ⟨rfl, _, World.drewN_drewN _ _ _⟩ | exact ⟨rfl, _, Eq.trans (World.drewN_drewN _ _ _) (congrArg (World.drewN _) (Nat.add_assoc _ _ _))⟩))); try go_wp2_with (first | (go_at_call 45; (with_reducible refine (spec_IsName.calls k2 ((rd_T71 l0_2 x3_1).f0) false _ A21.out).mono ?_); rintro e w' ⟨rfl, ⟨nd, rfl⟩⟩; (try first | exact ⟨rfl, _, World.drewN_drewN _ _ _⟩ | exact ⟨rfl, _, Eq.trans (World.drewN_drewN _ _ _) (congrArg (World.drewN _) (Nat.add_assoc _ _ _))⟩))))
           go_ret
           exact ⟨by first | rfl | (simp [errW_none, errW_some] <;> rfl) | (simp [*, errW_none, errW_some] <;> rfl) | (simp [isEmpty_ne_]; done) | (simp [*, isEmpty_ne_]; done), by repeat (first | (with_reducible first | exact HB.out | apply Ba_ | apply Bw_ | apply Bd_ | refine below_set ?_ GE202.out) | exact HB.out)⟩
         ·rw [if_neg c20] at H
          exact absurd H (by simp)
        ·rw [if_neg c19] at H
         exact absurd H (by simp)
    ·rw [if_neg c4] at H
     exact absurd H (by simp)
   ·rw [if_neg c3] at H
    have c3b0 : decide (x3_1 < (l0_2.length : Int)) = false := decide_eq_false c3
    clear c3
    replace H := Option.bind_eq_some_iff.mp H
    obtain ⟨t203, A270, H⟩ := H
    replace H : (if t203 = true then (if (l0_2.length : Int) ≤ 10 then (if a0_0 = true then (if a0_1 = 0 then (some true) else (some false)) else (if a0_1 > 0 then (some true) else (some (decide ((l0_2.length : Int) > 0))))) else (some false)) else (some false)) = some r := H
    have A27 := Aside0.mk A270
    clear A270
    by_cases c28 : t203 = true
    ·subst c28
     have H1 : (if (l0_2.length : Int) ≤ 10 then (if a0_0 = true then (if a0_1 = 0 then (some true) else (some false)) else (if a0_1 > 0 then (some true) else (some (decide ((l0_2.length : Int) > 0))))) else (some false)) = some r := by rw [if_pos rfl] at H; exact H
     clear H
     have H := H1
     clear H1
     by_cases c29 : (l0_2.length : Int) ≤ 10
     ·rw [if_pos c29] at H
      have c29b0 : decide ((l0_2.length : Int) ≤ 10) = true := decide_eq_true c29
      have c29b1 : decide (l0_2.length ≤ 10) = true := decide_eq_true (by omega)
      clear c29
      by_cases c30 : a0_0 = true
      ·subst c30
       have H1 : (if a0_1 = 0 then (some true) else (some false)) = some r := by rw [if_pos rfl] at H; exact H
       clear H
       have H := H1
       clear H1
       by_cases c31 : a0_1 = 0
       ·rw [if_pos c31] at H
        have c31b0 : (a0_1 == 0) = true := beq_iff_eq.mpr c31
        have c31b1 : (a0_1 != 0) = false := bne_eq_false_iff_eq.mpr c31
        clear c31
        obtain rfl := Option.some.inj H
        have hcz32_0 : wr.cell? ⟨gb202, 0, none⟩ = some (.bool true) := (blk_cell BK202.out 0).trans rfl
        have hcz32_1 : wr.cell? ⟨gb202, 1, none⟩ = some (.int .i64 a0_1) := (blk_cell BK202.out 1).trans rfl
        have hcz32_2 : wr.cell? ⟨gb202, 2, none⟩ = some (.slice A0_2 l0_2.length c0_2) := (blk_cell BK202.out 2).trans rfl
        have hfz32_0 := blk_frozen BK202.out 0
        have hfz32_1 := blk_frozen BK202.out 1
        have hfz32_2 := blk_frozen BK202.out 2
        go_wp2_with (first | (go_at_call 47; (with_reducible refine (spec_l1In.calls a0_1 0 8 true _ A27.out).mono ?_); rintro e w' ⟨rfl, ⟨nd, rfl⟩⟩; (try first | exact ⟨rfl, _, World.drewN_drewN _ _ _⟩ | exact ⟨rfl, _, Eq.trans (World.drewN_drewN _ _ _) (congrArg (World.drewN _) (Nat.add_assoc _ _ _))⟩)))
        repeat (go_quiet (first | (go_at_call 47; (with_reducible refine (spec_l1In.calls a0_1 0 8 true _ A27.out).mono ?_); rintro e w' ⟨rfl, ⟨nd, rfl⟩⟩; (try first | exact ⟨rfl, _, World.drewN_drewN _ _ _⟩ | exact ⟨rfl, _, Eq.trans (World.drewN_drewN _ _ _) (congrArg (World.drewN _) (Nat.add_assoc _ _ _))⟩))); try go_wp2_with (first | (go_at_call 47; (with_reducible refine (spec_l1In.calls a0_1 0 8 true _ A27.out).mono ?_); rintro e w' ⟨rfl, ⟨nd, rfl⟩⟩; (try first | exact ⟨rfl, _, World.drewN_drewN _ _ _⟩ | exact ⟨rfl, _, Eq.trans (World.drewN_drewN _ _ _) (congrArg (World.drewN _) (Nat.add_assoc _ _ _))⟩))))
        go_ret
        exact ⟨by first | rfl | (simp [errW_none, errW_some] <;> rfl) | (simp [*, errW_none, errW_some] <;> rfl) | (simp [isEmpty_ne_]; done) | (simp [*, isEmpty_ne_]; done), by repeat (first | (with_reducible first | exact HB.out | apply Ba_ | apply Bw_ | apply Bd_ | refine below_set ?_ GE202.out) | exact HB.out)⟩
       ·rw [if_neg c31] at H
        have c31b0 : (a0_1 == 0) = false := beq_eq_false_iff_ne.mpr c31
        have c31b1 : (a0_1 != 0) = true := bne_iff_ne.mpr c31
        obtain rfl := Option.some.inj H
        have hcz33_0 : wr.cell? ⟨gb202, 0, none⟩ = some (.bool true) := (blk_cell BK202.out 0).trans rfl
        have hcz33_1 : wr.cell? ⟨gb202, 1, none⟩ = some (.int .i64 a0_1) := (blk_cell BK202.out 1).trans rfl
        have hcz33_2 : wr.cell? ⟨gb202, 2, none⟩ = some (.slice A0_2 l0_2.length c0_2) := (blk_cell BK202.out 2).trans rfl
        have hfz33_0 := blk_frozen BK202.out 0
        have hfz33_1 := blk_frozen BK202.out 1
        have hfz33_2 := blk_frozen BK202.out 2
        go_wp2_with (first | (go_at_call 47; (with_reducible refine (spec_l1In.calls a0_1 0 8 true _ A27.out).mono ?_); rintro e w' ⟨rfl, ⟨nd, rfl⟩⟩; (try first | exact ⟨rfl, _, World.drewN_drewN _ _ _⟩ | exact ⟨rfl, _, Eq.trans (World.drewN_drewN _ _ _) (congrArg (World.drewN _) (Nat.add_assoc _ _ _))⟩)))
        repeat (go_quiet (first | (go_at_call 47; (with_reducible refine (spec_l1In.calls a0_1 0 8 true _ A27.out).mono ?_); rintro e w' ⟨rfl, ⟨nd, rfl⟩⟩; (try first | exact ⟨rfl, _, World.drewN_drewN _ _ _⟩ | exact ⟨rfl, _, Eq.trans (World.drewN_drewN _ _ _) (congrArg (World.drewN _) (Nat.add_assoc _ _ _))⟩))); try go_wp2_with (first | (go_at_call 47; (with_reducible refine (spec_l1In.calls a0_1 0 8 true _ A27.out).mono ?_); rintro e w' ⟨rfl, ⟨nd, rfl⟩⟩; (try first | exact ⟨rfl, _, World.drewN_drewN _ _ _⟩ | exact ⟨rfl, _, Eq.trans (World.drewN_drewN _ _ _) (congrArg (World.drewN _) (Nat.add_assoc _ _ _))⟩))))
        go_ret
        exact ⟨by first | rfl | (simp [errW_none, errW_some] <;> rfl) | (simp [*, errW_none, errW_some] <;> rfl) | (simp [isEmpty_ne_]; done) | (simp [*, isEmpty_ne_]; done), by repeat (first | (with_reducible first | exact HB.out | apply Ba_ | apply Bw_ | apply Bd_ | refine below_set ?_ GE202.out) | exact HB.out)⟩
      ·replace c30 := Bool.eq_false_iff.mpr c30
       subst c30
       have H1 : (if a0_1 > 0 then (some true) else (some (decide ((l0_2.length : Int) > 0)))) = some r := by rw [if_neg (show ¬ (false = true) by decide)] at H; exact H
       clear H
       have H := H1
       clear H1
       by_cases c34 : a0_1 > 0
       ·rw [if_pos c34] at H
        have c34b0 : decide (0 < a0_1) = true := decide_eq_true c34
        clear c34
        obtain rfl := Option.some.inj H
        have hcz35_0 : wr.cell? ⟨gb202, 0, none⟩ = some (.bool false) := (blk_cell BK202.out 0).trans rfl
        have hcz35_1 : wr.cell? ⟨gb202, 1, none⟩ = some (.int .i64 a0_1) := (blk_cell BK202.out 1).trans rfl
        have hcz35_2 : wr.cell? ⟨gb202, 2, none⟩ = some (.slice A0_2 l0_2.length c0_2) := (blk_cell BK202.out 2).trans rfl
        have hfz35_0 := blk_frozen BK202.out 0
        have hfz35_1 := blk_frozen BK202.out 1
        have hfz35_2 := blk_frozen BK202.out 2
        go_wp2_with (first | (go_at_call 47; (with_reducible refine (spec_l1In.calls a0_1 0 8 true _ A27.out).mono ?_); rintro e w' ⟨rfl, ⟨nd, rfl⟩⟩; (try first | exact ⟨rfl, _, World.drewN_drewN _ _ _⟩ | exact ⟨rfl, _, Eq.trans (World.drewN_drewN _ _ _) (congrArg (World.drewN _) (Nat.add_assoc _ _ _))⟩)))
        repeat (go_quiet (first | (go_at_call 47; (with_reducible refine (spec_l1In.calls a0_1 0 8 true _ A27.out).mono ?_); rintro e w' ⟨rfl, ⟨nd, rfl⟩⟩; (try first | exact ⟨rfl, _, World.drewN_drewN _ _ _⟩ | exact ⟨rfl, _, Eq.trans (World.drewN_drewN _ _ _) (congrArg (World.drewN _) (Nat.add_assoc _ _ _))⟩))); try go_wp2_with (first | (go_at_call 47; (with_reducible refine (spec_l1In.calls a0_1 0 8 true _ A27.out).mono ?_); rintro e w' ⟨rfl, ⟨nd, rfl⟩⟩; (try first | exact ⟨rfl, _, World.drewN_drewN _ _ _⟩ | exact ⟨rfl, _, Eq.trans (World.drewN_drewN _ _ _) (congrArg (World.drewN _) (Nat.add_assoc _ _ _))⟩))))
        go_ret
        exact ⟨by first | rfl | (simp [errW_none, errW_some] <;> rfl) | (simp [*, errW_none, errW_some] <;> rfl) | (simp [isEmpty_ne_]; done) | (simp [*, isEmpty_ne_]; done), by repeat (first | (with_reducible first | exact HB.out | apply Ba_ | apply Bw_ | apply Bd_ | refine below_set ?_ GE202.out) | exact HB.out)⟩
       ·rw [if_neg c34] at H
        have c34b0 : decide (0 < a0_1) = false := decide_eq_false c34
        clear c34
        obtain rfl := Option.some.inj H
        have hcz36_0 : wr.cell? ⟨gb202, 0, none⟩ = some (.bool false) := (blk_cell BK202.out 0).trans rfl
        have hcz36_1 : wr.cell? ⟨gb202, 1, none⟩ = some (.int .i64 a0_1) := (blk_cell BK202.out 1).trans rfl
        have hcz36_2 : wr.cell? ⟨gb202, 2, none⟩ = some (.slice A0_2 l0_2.length c0_2) := (blk_cell BK202.out 2).trans rfl
        have hfz36_0 := blk_frozen BK202.out 0
        have hfz36_1 := blk_frozen BK202.out 1
        have hfz36_2 := blk_frozen BK202.out 2
        go_wp2_with (first | (go_at_call 47; (with_reducible refine (spec_l1In.calls a0_1 0 8 true _ A27.out).mono ?_); rintro e w' ⟨rfl, ⟨nd, rfl⟩⟩; (try first | exact ⟨rfl, _, World.drewN_drewN _ _ _⟩ | exact ⟨rfl, _, Eq.trans (World.drewN_drewN _ _ _) (congrArg (World.drewN _) (Nat.add_assoc _ _ _))⟩)))
        repeat (go_quiet (first | (go_at_call 47; (with_reducible refine (spec_l1In.calls a0_1 0 8 true _ A27.out).mono ?_); rintro e w' ⟨rfl, ⟨nd, rfl⟩⟩; (try first | exact ⟨rfl, _, World.drewN_drewN _ _ _⟩ | exact ⟨rfl, _, Eq.trans (World.drewN_drewN _ _ _) (congrArg (World.drewN _) (Nat.add_assoc _ _ _))⟩))); try go_wp2_with (first | (go_at_call 47; (with_reducible refine (spec_l1In.calls a0_1 0 8 true _ A27.out).mono ?_); rintro e w' ⟨rfl, ⟨nd, rfl⟩⟩; (try first | exact ⟨rfl, _, World.drewN_drewN _ _ _⟩ | exact ⟨rfl, _, Eq.trans (World.drewN_drewN _ _ _) (congrArg (World.drewN _) (Nat.add_assoc _ _ _))⟩))))
        go_ret
        exact ⟨by first | rfl | (simp [errW_none, errW_some] <;> rfl) | (simp [*, errW_none, errW_some] <;> rfl) | (simp [isEmpty_ne_]; done) | (simp [*, isEmpty_ne_]; done), by repeat (first | (with_reducible first | exact HB.out | apply Ba_ | apply Bw_ | apply Bd_ | refine below_set ?_ GE202.out) | exact HB.out)⟩
     ·rw [if_neg c29] at H
      have c29b0 : decide ((l0_2.length : Int) ≤ 10) = false := decide_eq_false c29
      have c29b1 : decide (l0_2.length ≤ 10) = false := decide_eq_false (by omega)
      clear c29
      obtain rfl := Option.some.inj H
      have hcz37_0 : wr.cell? ⟨gb202, 0, none⟩ = some (.bool a0_0) := (blk_cell BK202.out 0).trans rfl
      have hcz37_1 : wr.cell? ⟨gb202, 1, none⟩ = some (.int .i64 a0_1) := (blk_cell BK202.out 1).trans rfl
      have hcz37_2 : wr.cell? ⟨gb202, 2, none⟩ = some (.slice A0_2 l0_2.length c0_2) := (blk_cell BK202.out 2).trans rfl
      have hfz37_0 := blk_frozen BK202.out 0
      have hfz37_1 := blk_frozen BK202.out 1
      have hfz37_2 := blk_frozen BK202.out 2
      go_wp2_with (first | (go_at_call 47; (with_reducible refine (spec_l1In.calls a0_1 0 8 true _ A27.out).mono ?_); rintro e w' ⟨rfl, ⟨nd, rfl⟩⟩; (try first | exact ⟨rfl, _, World.drewN_drewN _ _ _⟩ | exact ⟨rfl, _, Eq.trans (World.drewN_drewN _ _ _) (congrArg (World.drewN _) (Nat.add_assoc _ _ _))⟩)))
      repeat (go_quiet (first | (go_at_call 47; (with_reducible refine (spec_l1In.calls a0_1 0 8 true _ A27.out).mono ?_); rintro e w' ⟨rfl, ⟨nd, rfl⟩⟩; (try first | exact ⟨rfl, _, World.drewN_drewN _ _ _⟩ | exact ⟨rfl, _, Eq.trans (World.drewN_drewN _ _ _) (congrArg (World.drewN _) (Nat.add_assoc _ _ _))⟩))); try go_wp2_with (first | (go_at_call 47; (with_reducible refine (spec_l1In.calls a0_1 0 8 true _ A27.out).mono ?_); rintro e w' ⟨rfl, ⟨nd, rfl⟩⟩; (try first | exact ⟨rfl, _, World.drewN_drewN _ _ _⟩ | exact ⟨rfl, _, Eq.trans (World.drewN_drewN _ _ _) (congrArg (World.drewN _) (Nat.add_assoc _ _ _))⟩))))
      go_ret
      exact ⟨by first | rfl | (simp [errW_none, errW_some] <;> rfl) | (simp [*, errW_none, errW_some] <;> rfl) | (simp [isEmpty_ne_]; done) | (simp [*, isEmpty_ne_]; done), by repeat (first | (with_reducible first | exact HB.out | apply Ba_ | apply Bw_ | apply Bd_ | refine below_set ?_ GE202.out) | exact HB.out)⟩
    ·replace c28 := Bool.eq_false_iff.mpr c28
     subst c28
     have H1 : (some false) = some r := by rw [if_neg (show ¬ (false = true) by decide)] at H; exact H
     clear H
     have H := H1
     clear H1
     obtain rfl := Option.some.inj H
     have hcz38_0 : wr.cell? ⟨gb202, 0, none⟩ = some (.bool a0_0) := (blk_cell BK202.out 0).trans rfl
     have hcz38_1 : wr.cell? ⟨gb202, 1, none⟩ = some (.int .i64 a0_1) := (blk_cell BK202.out 1).trans rfl
     have hcz38_2 : wr.cell? ⟨gb202, 2, none⟩ = some (.slice A0_2 l0_2.length c0_2) := (blk_cell BK202.out 2).trans rfl
     have hfz38_0 := blk_frozen BK202.out 0
     have hfz38_1 := blk_frozen BK202.out 1
     have hfz38_2 := blk_frozen BK202.out 2
     go_wp2_with (first | (go_at_call 47; (with_reducible refine (spec_l1In.calls a0_1 0 8 false _ A27.out).mono ?_); rintro e w' ⟨rfl, ⟨nd, rfl⟩⟩; (try first | exact ⟨rfl, _, World.drewN_drewN _ _ _⟩ | exact ⟨rfl, _, Eq.trans (World.drewN_drewN _ _ _) (congrArg (World.drewN _) (Nat.add_assoc _ _ _))⟩)))
     repeat (go_quiet (first | (go_at_call 47; (with_reducible refine (spec_l1In.calls a0_1 0 8 false _ A27.out).mono ?_); rintro e w' ⟨rfl, ⟨nd, rfl⟩⟩; (try first | exact ⟨rfl, _, World.drewN_drewN _ _ _⟩ | exact ⟨rfl, _, Eq.trans (World.drewN_drewN _ _ _) (congrArg (World.drewN _) (Nat.add_assoc _ _ _))⟩))); try go_wp2_with (first | (go_at_call 47; (with_reducible refine (spec_l1In.calls a0_1 0 8 false _ A27.out).mono ?_); rintro e w' ⟨rfl, ⟨nd, rfl⟩⟩; (try first | exact ⟨rfl, _, World.drewN_drewN _ _ _⟩ | exact ⟨rfl, _, Eq.trans (World.drewN_drewN _ _ _) (congrArg (World.drewN _) (Nat.add_assoc _ _ _))⟩))))
     go_ret
     exact ⟨by first | rfl | (simp [errW_none, errW_some] <;> rfl) | (simp [*, errW_none, errW_some] <;> rfl) | (simp [isEmpty_ne_]; done) | (simp [*, isEmpty_ne_]; done), by repeat (first | (with_reducible first | exact HB.out | apply Ba_ | apply Bw_ | apply Bd_ | refine below_set ?_ GE202.out) | exact HB.out)⟩

/-! ### spec_l8Plain: function 103 -/
def spec_l8Plain.f (a0_0 : Bool) (a0_1 : Int) (l0_2 : List (S71)) : Option (Bool) := if a0_0 = true then (some false) else (if a0_1 = 0 then (some ((l0_2.length : Int) == 0)) else (some false))
set_option maxHeartbeats 8000000 in
set_option maxRecDepth 100000 in
theorem spec_l8Plain.calls (a0_0 : Bool) (a0_1 : Int) (A0_2 : Option Addr) (c0_2 : Nat) (l0_2 : List (S71)) (r : Bool) (w : World) (hr0_2 : Kd.C k71 w A0_2 l0_2.length l0_2) (hc0_2 : l0_2.length ≤ c0_2) (h : spec_l8Plain.f a0_0 a0_1 l0_2 = some r) :
  Calls Try.prog 103 #[.agg #[.bool a0_0, .int .i64 a0_1, .slice A0_2 l0_2.length c0_2]] w fun e w' => e = .returned (.bool r) ∧ Below w.heap.size w w' := by
 have hu29 := Try.underlying29
 have HR0_2 := Aside0.mk hr0_2
 have HC0_2 := Aside0.mk hc0_2
 clear hr0_2 hc0_2
 have HB := Aside0.mk (Below.refl w.heap.size w)
 have H : (if a0_0 = true then (some false) else (if a0_1 = 0 then (some ((l0_2.length : Int) == 0)) else (some false))) = some r := h
 clear h
 by_cases c2 : a0_0 = true
 ·subst c2
  have H1 : (some false) = some r := by rw [if_pos rfl] at H; exact H
  clear H
  have H := H1
  clear H1
  obtain rfl := Option.some.inj H
  go_enter Try.func103, Try.ntmps103
  go_wp2_with (first | ((with_reducible refine gate_dst (N := 1) rfl ?_); (try (refine gate_guard (by rfl) ?_; dsimp only)); refine box_event ?hg (N := 1) ?hd (cs := #[.bool true, .int .i64 a0_1, .slice A0_2 l0_2.length c0_2]) (t := 29) ?hr ?_; (case hd => rfl); (case hg => rfl); (case hr => first | (go_simp; done) | (go_simp; rfl)); intro gb213 hg w3 hbox hb; have n0_ := Aside0.mk (below_step (by repeat (first | (with_reducible first | exact HB.out | apply Ba_ | apply Bw_ | apply Bd_) | exact HB.out)) hb); have n1_ := Aside0.mk (hbox); have n2_ := Aside0.mk ((by rw [hg]; exact (below_size (by repeat (first | (with_reducible first | exact HB.out | apply Ba_ | apply Bw_ | apply Bd_) | exact HB.out))) : w.heap.size ≤ gb213)); have n3_ := Aside0.mk ((by rw [hg]; exact (below_size (by repeat (first | (with_reducible first | exact HB.out | apply Ba_ | apply Bw_ | apply Bd_) | exact HB.out))) : w.heap.size ≤ gb213)); clear HB; have HB := n0_; have BK213 := n1_; have GW213 := n2_; have GE213 := n3_; clear n0_ n1_ n2_ n3_; clear hb hbox hg; have hcz4_0 : w3.cell? ⟨gb213, 0, none⟩ = some (.bool true) := (blk_cell BK213.out 0).trans rfl; have hcz4_1 : w3.cell? ⟨gb213, 1, none⟩ = some (.int .i64 a0_1) := (blk_cell BK213.out 1).trans rfl; have hcz4_2 : w3.cell? ⟨gb213, 2, none⟩ = some (.slice A0_2 l0_2.length c0_2) := (blk_cell BK213.out 2).trans rfl; have hfz4_0 := blk_frozen BK213.out 0; have hfz4_1 := blk_frozen BK213.out 1; have hfz4_2 := blk_frozen BK213.out 2))
  go_ret
  exact ⟨by first | rfl | (simp [errW_none, errW_some] <;> rfl) | (simp [*, errW_none, errW_some] <;> rfl) | (simp [isEmpty_ne_]; done) | (simp [*, isEmpty_ne_]; done), by repeat (first | (with_reducible first | exact HB.out | apply Ba_ | apply Bw_ | apply Bd_ | refine below_set ?_ GE213.out) | exact HB.out)⟩
 ·replace c2 := Bool.eq_false_iff.mpr c2
  subst c2
  have H1 : (if a0_1 = 0 then (some ((l0_2.length : Int) == 0)) else (some false)) = some r := by rw [if_neg (show ¬ (false = true) by decide)] at H; exact H
  clear H
  have H := H1
  clear H1
  by_cases c5 : a0_1 = 0
  ·rw [if_pos c5] at H
   have c5b0 : (a0_1 == 0) = true := beq_iff_eq.mpr c5
   have c5b1 : (a0_1 != 0) = false := bne_eq_false_iff_eq.mpr c5
   clear c5
   obtain rfl := Option.some.inj H
   go_enter Try.func103, Try.ntmps103
   go_wp2_with (first | ((with_reducible refine gate_dst (N := 1) rfl ?_); (try (refine gate_guard (by rfl) ?_; dsimp only)); refine box_event ?hg (N := 1) ?hd (cs := #[.bool false, .int .i64 a0_1, .slice A0_2 l0_2.length c0_2]) (t := 29) ?hr ?_; (case hd => rfl); (case hg => rfl); (case hr => first | (go_simp; done) | (go_simp; rfl)); intro gb213 hg w6 hbox hb; have n0_ := Aside0.mk (below_step (by repeat (first | (with_reducible first | exact HB.out | apply Ba_ | apply Bw_ | apply Bd_) | exact HB.out)) hb); have n1_ := Aside0.mk (hbox); have n2_ := Aside0.mk ((by rw [hg]; exact (below_size (by repeat (first | (with_reducible first | exact HB.out | apply Ba_ | apply Bw_ | apply Bd_) | exact HB.out))) : w.heap.size ≤ gb213)); have n3_ := Aside0.mk ((by rw [hg]; exact (below_size (by repeat (first | (with_reducible first | exact HB.out | apply Ba_ | apply Bw_ | apply Bd_) | exact HB.out))) : w.heap.size ≤ gb213)); clear HB; have HB := n0_; have BK213 := n1_; have GW213 := n2_; have GE213 := n3_; clear n0_ n1_ n2_ n3_; clear hb hbox hg; have hcz7_0 : w6.cell? ⟨gb213, 0, none⟩ = some (.bool false) := (blk_cell BK213.out 0).trans rfl; have hcz7_1 : w6.cell? ⟨gb213, 1, none⟩ = some (.int .i64 a0_1) := (blk_cell BK213.out 1).trans rfl; have hcz7_2 : w6.cell? ⟨gb213, 2, none⟩ = some (.slice A0_2 l0_2.length c0_2) := (blk_cell BK213.out 2).trans rfl; have hfz7_0 := blk_frozen BK213.out 0; have hfz7_1 := blk_frozen BK213.out 1; have hfz7_2 := blk_frozen BK213.out 2))
   go_ret
   exact ⟨by first | rfl | (simp [errW_none, errW_some] <;> rfl) | (simp [*, errW_none, errW_some] <;> rfl) | (simp [isEmpty_ne_]; done) | (simp [*, isEmpty_ne_]; done), by repeat (first | (with_reducible first | exact HB.out | apply Ba_ | apply Bw_ | apply Bd_ | refine below_set ?_ GE213.out) | exact HB.out)⟩
  ·rw [if_neg c5] at H
   have c5b0 : (a0_1 == 0) = false := beq_eq_false_iff_ne.mpr c5
   have c5b1 : (a0_1 != 0) = true := bne_iff_ne.mpr c5
   obtain rfl := Option.some.inj H
   go_enter Try.func103, Try.ntmps103
   go_wp2_with (first | ((with_reducible refine gate_dst (N := 1) rfl ?_); (try (refine gate_guard (by rfl) ?_; dsimp only)); refine box_event ?hg (N := 1) ?hd (cs := #[.bool false, .int .i64 a0_1, .slice A0_2 l0_2.length c0_2]) (t := 29) ?hr ?_; (case hd => rfl); (case hg => rfl); (case hr => first | (go_simp; done) | (go_simp; rfl)); intro gb213 hg w8 hbox hb; have n0_ := Aside0.mk (below_step (by repeat (first | (with_reducible first | exact HB.out | apply Ba_ | apply Bw_ | apply Bd_) | exact HB.out)) hb); have n1_ := Aside0.mk (hbox); have n2_ := Aside0.mk ((by rw [hg]; exact (below_size (by repeat (first | (with_reducible first | exact HB.out | apply Ba_ | apply Bw_ | apply Bd_) | exact HB.out))) : w.heap.size ≤ gb213)); have n3_ := Aside0.mk ((by rw [hg]; exact (below_size (by repeat (first | (with_reducible first | exact HB.out | apply Ba_ | apply Bw_ | apply Bd_) | exact HB.out))) : w.heap.size ≤ gb213)); clear HB; have HB := n0_; have BK213 := n1_; have GW213 := n2_; have GE213 := n3_; clear n0_ n1_ n2_ n3_; clear hb hbox hg; have hcz9_0 : w8.cell? ⟨gb213, 0, none⟩ = some (.bool false) := (blk_cell BK213.out 0).trans rfl; have hcz9_1 : w8.cell? ⟨gb213, 1, none⟩ = some (.int .i64 a0_1) := (blk_cell BK213.out 1).trans rfl; have hcz9_2 : w8.cell? ⟨gb213, 2, none⟩ = some (.slice A0_2 l0_2.length c0_2) := (blk_cell BK213.out 2).trans rfl; have hfz9_0 := blk_frozen BK213.out 0; have hfz9_1 := blk_frozen BK213.out 1; have hfz9_2 := blk_frozen BK213.out 2))
   go_ret
   exact ⟨by first | rfl | (simp [errW_none, errW_some] <;> rfl) | (simp [*, errW_none, errW_some] <;> rfl) | (simp [isEmpty_ne_]; done) | (simp [*, isEmpty_ne_]; done), by repeat (first | (with_reducible first | exact HB.out | apply Ba_ | apply Bw_ | apply Bd_ | refine below_set ?_ GE213.out) | exact HB.out)⟩

/-! ### spec_l8Writable: function 104 -/
def spec_l8Writable.f (a0_0 : Bool) (a0_1 : Int) (l0_2 : List (S71)) : Option (Bool) := if a0_0 = true then (if a0_1 > 0 then (some true) else (some (decide ((l0_2.length : Int) > 0)))) else (if a0_1 > 0 then (some true) else (if 0 < (l0_2.length : Int) then (if ((rd_T71 l0_2 0).f0).toList = ([111, 114] : List UInt8) then (some false) else (some (((rd_T71 l0_2 0).f0).toList != ([97, 110, 100] : List UInt8)))) else (none)))
set_option maxHeartbeats 8000000 in
set_option maxRecDepth 100000 in
theorem spec_l8Writable.calls (a0_0 : Bool) (a0_1 : Int) (A0_2 : Option Addr) (c0_2 : Nat) (l0_2 : List (S71)) (r : Bool) (w : World) (hr0_2 : Kd.C k71 w A0_2 l0_2.length l0_2) (hc0_2 : l0_2.length ≤ c0_2) (h : spec_l8Writable.f a0_0 a0_1 l0_2 = some r) :
  Calls Try.prog 104 #[.agg #[.bool a0_0, .int .i64 a0_1, .slice A0_2 l0_2.length c0_2]] w fun e w' => e = .returned (.bool r) ∧ Below w.heap.size w w' := by
 have hu29 := Try.underlying29
 have HR0_2 := Aside0.mk hr0_2
 have HC0_2 := Aside0.mk hc0_2
 clear hr0_2 hc0_2
 have HB := Aside0.mk (Below.refl w.heap.size w)
 have H : (if a0_0 = true then (if a0_1 > 0 then (some true) else (some (decide ((l0_2.length : Int) > 0)))) else (if a0_1 > 0 then (some true) else (if 0 < (l0_2.length : Int) then (if ((rd_T71 l0_2 0).f0).toList = ([111, 114] : List UInt8) then (some false) else (some (((rd_T71 l0_2 0).f0).toList != ([97, 110, 100] : List UInt8)))) else (none)))) = some r := h
 clear h
 by_cases c2 : a0_0 = true
 ·subst c2
  have H1 : (if a0_1 > 0 then (some true) else (some (decide ((l0_2.length : Int) > 0)))) = some r := by rw [if_pos rfl] at H; exact H
  clear H
  have H := H1
  clear H1
  by_cases c3 : a0_1 > 0
  ·rw [if_pos c3] at H
   have c3b0 : decide (0 < a0_1) = true := decide_eq_true c3
   clear c3
   obtain rfl := Option.some.inj H
   go_enter Try.func104, Try.ntmps104
   go_wp2_with (first | ((with_reducible refine gate_dst (N := 1) rfl ?_); (try (refine gate_guard (by rfl) ?_; dsimp only)); refine box_event ?hg (N := 1) ?hd (cs := #[.bool true, .int .i64 a0_1, .slice A0_2 l0_2.length c0_2]) (t := 29) ?hr ?_; (case hd => rfl); (case hg => rfl); (case hr => first | (go_simp; done) | (go_simp; rfl)); intro gb214 hg w4 hbox hb; have n0_ := Aside0.mk (below_step (by repeat (first | (with_reducible first | exact HB.out | apply Ba_ | apply Bw_ | apply Bd_) | exact HB.out)) hb); have n1_ := Aside0.mk (hbox); have n2_ := Aside0.mk ((by rw [hg]; exact (below_size (by repeat (first | (with_reducible first | exact HB.out | apply Ba_ | apply Bw_ | apply Bd_) | exact HB.out))) : w.heap.size ≤ gb214)); have n3_ := Aside0.mk ((by rw [hg]; exact (below_size (by repeat (first | (with_reducible first | exact HB.out | apply Ba_ | apply Bw_ | apply Bd_) | exact HB.out))) : w.heap.size ≤ gb214)); clear HB; have HB := n0_; have BK214 := n1_; have GW214 := n2_; have GE214 := n3_; clear n0_ n1_ n2_ n3_; clear hb hbox hg; have hcz5_0 : w4.cell? ⟨gb214, 0, none⟩ = some (.bool true) := (blk_cell BK214.out 0).trans rfl; have hcz5_1 : w4.cell? ⟨gb214, 1, none⟩ = some (.int .i64 a0_1) := (blk_cell BK214.out 1).trans rfl; have hcz5_2 : w4.cell? ⟨gb214, 2, none⟩ = some (.slice A0_2 l0_2.length c0_2) := (blk_cell BK214.out 2).trans rfl; have hfz5_0 := blk_frozen BK214.out 0; have hfz5_1 := blk_frozen BK214.out 1; have hfz5_2 := blk_frozen BK214.out 2))
   go_ret
   exact ⟨by first | rfl | (simp [errW_none, errW_some] <;> rfl) | (simp [*, errW_none, errW_some] <;> rfl) | (simp [isEmpty_ne_]; done) | (simp [*, isEmpty_ne_]; done), by repeat (first | (with_reducible first | exact HB.out | apply Ba_ | apply Bw_ | apply Bd_ | refine below_set ?_ GE214.out) | exact HB.out)⟩
  ·rw [if_neg c3] at H
   have c3b0 : decide (0 < a0_1) = false := decide_eq_false c3
   clear c3
   obtain rfl := Option.some.inj H
   go_enter Try.func104, Try.ntmps104
   go_wp2_with (first | ((with_reducible refine gate_dst (N := 1) rfl ?_); (try (refine gate_guard (by rfl) ?_; dsimp only)); refine box_event ?hg (N := 1) ?hd (cs := #[.bool true, .int .i64 a0_1, .slice A0_2 l0_2.length c0_2]) (t := 29) ?hr ?_; (case hd => rfl); (case hg => rfl); (case hr => first | (go_simp; done) | (go_simp; rfl)); intro gb214 hg w6 hbox hb; have n0_ := Aside0.mk (below_step (by repeat (first | (with_reducible first | exact HB.out | apply Ba_ | apply Bw_ | apply Bd_) | exact HB.out)) hb); have n1_ := Aside0.mk (hbox); have n2_ := Aside0.mk ((by rw [hg]; exact (below_size (by repeat (first | (with_reducible first | exact HB.out | apply Ba_ | apply Bw_ | apply Bd_) | exact HB.out))) : w.heap.size ≤ gb214)); have n3_ := Aside0.mk ((by rw [hg]; exact (below_size (by repeat (first | (with_reducible first | exact HB.out | apply Ba_ | apply Bw_ | apply Bd_) | exact HB.out))) : w.heap.size ≤ gb214)); clear HB; have HB := n0_; have BK214 := n1_; have GW214 := n2_; have GE214 := n3_; clear n0_ n1_ n2_ n3_; clear hb hbox hg; have hcz7_0 : w6.cell? ⟨gb214, 0, none⟩ = some (.bool true) := (blk_cell BK214.out 0).trans rfl; have hcz7_1 : w6.cell? ⟨gb214, 1, none⟩ = some (.int .i64 a0_1) := (blk_cell BK214.out 1).trans rfl; have hcz7_2 : w6.cell? ⟨gb214, 2, none⟩ = some (.slice A0_2 l0_2.length c0_2) := (blk_cell BK214.out 2).trans rfl; have hfz7_0 := blk_frozen BK214.out 0; have hfz7_1 := blk_frozen BK214.out 1; have hfz7_2 := blk_frozen BK214.out 2))
   go_ret
   exact ⟨by first | rfl | (simp [errW_none, errW_some] <;> rfl) | (simp [*, errW_none, errW_some] <;> rfl) | (simp [isEmpty_ne_]; done) | (simp [*, isEmpty_ne_]; done), by repeat (first | (with_reducible first | exact HB.out | apply Ba_ | apply Bw_ | apply Bd_ | refine below_set ?_ GE214.out) | exact HB.out)⟩
 ·replace c2 := Bool.eq_false_iff.mpr c2
  subst c2
  have H1 : (if a0_1 > 0 then (some true) else (if 0 < (l0_2.length : Int) then (if ((rd_T71 l0_2 0).f0).toList = ([111, 114] : List UInt8) then (some false) else (some (((rd_T71 l0_2 0).f0).toList != ([97, 110, 100] : List UInt8)))) else (none))) = some r := by rw [if_neg (show ¬ (false = true) by decide)] at H; exact H
  clear H
  have H := H1
  clear H1
  by_cases c8 : a0_1 > 0
  ·rw [if_pos c8] at H
   have c8b0 : decide (0 < a0_1) = true := decide_eq_true c8
   clear c8
   obtain rfl := Option.some.inj H
   go_enter Try.func104, Try.ntmps104
   go_wp2_with (first | ((with_reducible refine gate_dst (N := 1) rfl ?_); (try (refine gate_guard (by rfl) ?_; dsimp only)); refine box_event ?hg (N := 1) ?hd (cs := #[.bool false, .int .i64 a0_1, .slice A0_2 l0_2.length c0_2]) (t := 29) ?hr ?_; (case hd => rfl); (case hg => rfl); (case hr => first | (go_simp; done) | (go_simp; rfl)); intro gb214 hg w9 hbox hb; have n0_ := Aside0.mk (below_step (by repeat (first | (with_reducible first | exact HB.out | apply Ba_ | apply Bw_ | apply Bd_) | exact HB.out)) hb); have n1_ := Aside0.mk (hbox); have n2_ := Aside0.mk ((by rw [hg]; exact (below_size (by repeat (first | (with_reducible first | exact HB.out | apply Ba_ | apply Bw_ | apply Bd_) | exact HB.out))) : w.heap.size ≤ gb214)); have n3_ := Aside0.mk ((by rw [hg]; exact (below_size (by repeat (first | (with_reducible first | exact HB.out | apply Ba_ | apply Bw_ | apply Bd_) | exact HB.out))) : w.heap.size ≤ gb214)); clear HB; have HB := n0_; have BK214 := n1_; have GW214 := n2_; have GE214 := n3_; clear n0_ n1_ n2_ n3_; clear hb hbox hg; have hcz10_0 : w9.cell? ⟨gb214, 0, none⟩ = some (.bool false) := (blk_cell BK214.out 0).trans rfl; have hcz10_1 : w9.cell? ⟨gb214, 1, none⟩ = some (.int .i64 a0_1) := (blk_cell BK214.out 1).trans rfl; have hcz10_2 : w9.cell? ⟨gb214, 2, none⟩ = some (.slice A0_2 l0_2.length c0_2) := (blk_cell BK214.out 2).trans rfl; have hfz10_0 := blk_frozen BK214.out 0; have hfz10_1 := blk_frozen BK214.out 1; have hfz10_2 := blk_frozen BK214.out 2))
   go_ret
   exact ⟨by first | rfl | (simp [errW_none, errW_some] <;> rfl) | (simp [*, errW_none, errW_some] <;> rfl) | (simp [isEmpty_ne_]; done) | (simp [*, isEmpty_ne_]; done), by repeat (first | (with_reducible first | exact HB.out | apply Ba_ | apply Bw_ | apply Bd_ | refine below_set ?_ GE214.out) | exact HB.out)⟩
  ·rw [if_neg c8] at H
   have c8b0 : decide (0 < a0_1) = false := decide_eq_false c8
   clear c8
   by_cases c11 : 0 < (l0_2.length : Int)
   ·rw [if_pos c11] at H
    have c11b0 : decide (0 < (l0_2.length : Int)) = true := decide_eq_true c11
    have c11b1 : decide (0 < l0_2.length) = true := decide_eq_true (by omega)
    clear c11
    by_cases c12 : ((rd_T71 l0_2 0).f0).toList = ([111, 114] : List UInt8)
    ·rw [if_pos c12] at H
     have c12b0 : (((rd_T71 l0_2 0).f0).toList == ([111, 114] : List UInt8)) = true := beq_iff_eq.mpr c12
     have c12b1 : (((rd_T71 l0_2 0).f0).toList != ([111, 114] : List UInt8)) = false := bne_eq_false_iff_eq.mpr c12
     clear c12
     obtain rfl := Option.some.inj H
     go_enter Try.func104, Try.ntmps104
     go_wp2_with (first | ((with_reducible refine gate_dst (N := 1) rfl ?_); (try (refine gate_guard (by rfl) ?_; dsimp only)); refine box_event ?hg (N := 1) ?hd (cs := #[.bool false, .int .i64 a0_1, .slice A0_2 l0_2.length c0_2]) (t := 29) ?hr ?_; (case hd => rfl); (case hg => rfl); (case hr => first | (go_simp; done) | (go_simp; rfl)); intro gb214 hg w13 hbox hb; have n0_ := Aside0.mk (below_step (by repeat (first | (with_reducible first | exact HB.out | apply Ba_ | apply Bw_ | apply Bd_) | exact HB.out)) hb); have n1_ := Aside0.mk (hbox); have n2_ := Aside0.mk ((by rw [hg]; exact (below_size (by repeat (first | (with_reducible first | exact HB.out | apply Ba_ | apply Bw_ | apply Bd_) | exact HB.out))) : w.heap.size ≤ gb214)); have n3_ := Aside0.mk ((by rw [hg]; exact (below_size (by repeat (first | (with_reducible first | exact HB.out | apply Ba_ | apply Bw_ | apply Bd_) | exact HB.out))) : w.heap.size ≤ gb214)); clear HB; have HB := n0_; have BK214 := n1_; have GW214 := n2_; have GE214 := n3_; clear n0_ n1_ n2_ n3_; clear hb hbox hg; have hcz14_0 : w13.cell? ⟨gb214, 0, none⟩ = some (.bool false) := (blk_cell BK214.out 0).trans rfl; have hcz14_1 : w13.cell? ⟨gb214, 1, none⟩ = some (.int .i64 a0_1) := (blk_cell BK214.out 1).trans rfl; have hcz14_2 : w13.cell? ⟨gb214, 2, none⟩ = some (.slice A0_2 l0_2.length c0_2) := (blk_cell BK214.out 2).trans rfl; have hfz14_0 := blk_frozen BK214.out 0; have hfz14_1 := blk_frozen BK214.out 1; have hfz14_2 := blk_frozen BK214.out 2; have p215 : 0 ≤ (0 : Int) := (by omega); have q215 : 0 < (l0_2.length : Int) := od_; obtain ⟨ad215, A215_1, c215_1, e215, hx215_0, hx215_1, hl215_1, hi215_1⟩ := at_T71 HR0_2.out 0 p215 q215; cases e215; have qi215 : (0 < l0_2.length) = True := eq_true (by omega); (try rw [show ((0 : Int)).toNat = 0 from rfl] at hx215_0); (try rw [show 0 * 2 = 0 from rfl] at hx215_0); (try rw [Addr.add_zero'] at hx215_0); (try rw [show ((0 : Int)).toNat = 0 from rfl] at hx215_1); (try rw [show 0 * 2 = 0 from rfl] at hx215_1); (try rw [Addr.add_zero'] at hx215_1); replace hx215_0 := (HB.out.cell (World.block_lt_of_cell? w _ hx215_0)).trans hx215_0; replace hx215_1 := (HB.out.cell (World.block_lt_of_cell? w _ hx215_1)).trans hx215_1; have HR215_1 := Aside0.mk hi215_1; have HC215_1 := Aside0.mk hl215_1; clear hi215_1 hl215_1; replace p215 := eq_true p215; replace q215 := eq_true q215))
     go_ret
     exact ⟨by first | rfl | (simp [errW_none, errW_some] <;> rfl) | (simp [*, errW_none, errW_some] <;> rfl) | (simp [isEmpty_ne_]; done) | (simp [*, isEmpty_ne_]; done), by repeat (first | (with_reducible first | exact HB.out | apply Ba_ | apply Bw_ | apply Bd_ | refine below_set ?_ GE214.out) | exact HB.out)⟩
    ·rw [if_neg c12] at H
     have c12b0 : (((rd_T71 l0_2 0).f0).toList == ([111, 114] : List UInt8)) = false := beq_eq_false_iff_ne.mpr c12
     have c12b1 : (((rd_T71 l0_2 0).f0).toList != ([111, 114] : List UInt8)) = true := bne_iff_ne.mpr c12
     obtain rfl := Option.some.inj H
     go_enter Try.func104, Try.ntmps104
     go_wp2_with (first | ((with_reducible refine gate_dst (N := 1) rfl ?_); (try (refine gate_guard (by rfl) ?_; dsimp only)); refine box_event ?hg (N := 1) ?hd (cs := #[.bool false, .int .i64 a0_1, .slice A0_2 l0_2.length c0_2]) (t := 29) ?hr ?_; (case hd => rfl); (case hg => rfl); (case hr => first | (go_simp; done) | (go_simp; rfl)); intro gb214 hg w15 hbox hb; have n0_ := Aside0.mk (below_step (by repeat (first | (with_reducible first | exact HB.out | apply Ba_ | apply Bw_ | apply Bd_) | exact HB.out)) hb); have n1_ := Aside0.mk (hbox); have n2_ := Aside0.mk ((by rw [hg]; exact (below_size (by repeat (first | (with_reducible first | exact HB.out | apply Ba_ | apply Bw_ | apply Bd_) | exact HB.out))) : w.heap.size ≤ gb214)); have n3_ := Aside0.mk ((by rw [hg]; exact (below_size (by repeat (first | (with_reducible first | exact HB.out | apply Ba_ | apply Bw_ | apply Bd_) | exact HB.out))) : w.heap.size ≤ gb214)); clear HB; have HB := n0_; have BK214 := n1_; have GW214 := n2_; have GE214 := n3_; clear n0_ n1_ n2_ n3_; clear hb hbox hg; have hcz16_0 : w15.cell? ⟨gb214, 0, none⟩ = some (.bool false) := (blk_cell BK214.out 0).trans rfl; have hcz16_1 : w15.cell? ⟨gb214, 1, none⟩ = some (.int .i64 a0_1) := (blk_cell BK214.out 1).trans rfl; have hcz16_2 : w15.cell? ⟨gb214, 2, none⟩ = some (.slice A0_2 l0_2.length c0_2) := (blk_cell BK214.out 2).trans rfl; have hfz16_0 := blk_frozen BK214.out 0; have hfz16_1 := blk_frozen BK214.out 1; have hfz16_2 := blk_frozen BK214.out 2; have p215 : 0 ≤ (0 : Int) := (by omega); have q215 : 0 < (l0_2.length : Int) := od_; obtain ⟨ad215, A215_1, c215_1, e215, hx215_0, hx215_1, hl215_1, hi215_1⟩ := at_T71 HR0_2.out 0 p215 q215; cases e215; have qi215 : (0 < l0_2.length) = True := eq_true (by omega); (try rw [show ((0 : Int)).toNat = 0 from rfl] at hx215_0); (try rw [show 0 * 2 = 0 from rfl] at hx215_0); (try rw [Addr.add_zero'] at hx215_0); (try rw [show ((0 : Int)).toNat = 0 from rfl] at hx215_1); (try rw [show 0 * 2 = 0 from rfl] at hx215_1); (try rw [Addr.add_zero'] at hx215_1); replace hx215_0 := (HB.out.cell (World.block_lt_of_cell? w _ hx215_0)).trans hx215_0; replace hx215_1 := (HB.out.cell (World.block_lt_of_cell? w _ hx215_1)).trans hx215_1; have HR215_1 := Aside0.mk hi215_1; have HC215_1 := Aside0.mk hl215_1; clear hi215_1 hl215_1; replace p215 := eq_true p215; replace q215 := eq_true q215))
     go_ret
     exact ⟨by first | rfl | (simp [errW_none, errW_some] <;> rfl) | (simp [*, errW_none, errW_some] <;> rfl) | (simp [isEmpty_ne_]; done) | (simp [*, isEmpty_ne_]; done), by repeat (first | (with_reducible first | exact HB.out | apply Ba_ | apply Bw_ | apply Bd_ | refine below_set ?_ GE214.out) | exact HB.out)⟩
   ·rw [if_neg c11] at H
    exact absurd H (by simp)

end Go.Proofs.Ytmkhoakhfdjplaa.PFnExactIsExpr
