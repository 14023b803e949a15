-- Written by a program of this session (wip/mkx.py), which extends the kit's print.
import Derived.Test.YtmkhoakhfdjplaaPFnExactFormatPathx0
import Derived.Test.YtmkhoakhfdjplaaPFnExactFormatPathx7
namespace Go.Proofs.Ytmkhoakhfdjplaa.PFnExactFormatPath
open Go.RowKit Go.Proofs.YtmkhoakhfdjplaaW.PrintWords Go.Proofs.YtmkhoakhfdjplaaW.PrintLast Go.Proofs.YtmkhoakhfdjplaaW.PrintMore
attribute [local go_sem] max2_int min2_int max_two min_two max_three min_three max_four min_four   -- for this text's walks alone
set_option linter.unusedVariables false
set_option linter.unusedSimpArgs false

/-! ### impl_FormatPath: function 34 -/
mutual
def impl_FormatPath.l0 : Nat → List ByteArray → Int → Bool → Int → List (S71) → Option (ByteArray)
  | 0, _, _, _, _, _ => none
  | k + 1, x3, x4, x251000, x251001, x251002 => if x4 < x251001 then (if x3.length < 8796093022208 then (impl_FormatPath.l0 k (x3 ++ [(⟨#[46, 46]⟩ : ByteArray)]) (wrap64 (x4 + 1)) x251000 x251001 x251002) else (none)) else (impl_FormatPath.l1 k x3 x251002 (x251002.length : Int) 0 x251000 x251001 x251002)
def impl_FormatPath.l1 : Nat → List ByteArray → List (S71) → Int → Int → Bool → Int → List (S71) → Option (ByteArray)
  | 0, _, _, _, _, _, _, _ => none
  | k + 1, x3, x24, x25, x26, x251000, x251001, x251002 => if x26 < x25 then (if 0 ≤ x26 then (if x26 < (x24.length : Int) then (impl_FormatPath.l2 k x3 ((rd_T71 x24 x26).f0) x24 x25 x26 ((rd_T71 x24 x26).f1) (((rd_T71 x24 x26).f1).length : Int) 0 x251000 x251001 x251002) else (none)) else (none)) else (if x251000 = true then ((strings_Join.f x3 (⟨#[47]⟩ : ByteArray)).bind fun t266 => (if 1 + t266.size ≤ 9223372036854775807 then (some ((⟨#[47]⟩ : ByteArray) ++ t266)) else (none))) else ((strings_Join.f x3 (⟨#[47]⟩ : ByteArray)).bind fun t267 => (some t267)))
def impl_FormatPath.l2 : Nat → List ByteArray → ByteArray → List (S71) → Int → Int → List (S73) → Int → Int → Bool → Int → List (S71) → Option (ByteArray)
  | 0, _, _, _, _, _, _, _, _, _, _, _ => none
  | k + 1, x3, x7, x24, x25, x26, x33, x34, x35, x251000, x251001, x251002 => if x35 < x34 then (if 0 ≤ x35 then (if x35 < (x33.length : Int) then (if 1 + ((rd_T73 x33 x35).f0).size ≤ 9223372036854775807 then (if ((⟨#[91]⟩ : ByteArray) ++ ((rd_T73 x33 x35).f0)).size + 1 ≤ 9223372036854775807 then ((impl_QuoteText.f k ((rd_T73 x33 x35).f1)).bind fun t262 => (if (((⟨#[91]⟩ : ByteArray) ++ ((rd_T73 x33 x35).f0)) ++ (⟨#[61]⟩ : ByteArray)).size + t262.size ≤ 9223372036854775807 then (if ((((⟨#[91]⟩ : ByteArray) ++ ((rd_T73 x33 x35).f0)) ++ (⟨#[61]⟩ : ByteArray)) ++ t262).size + 1 ≤ 9223372036854775807 then (if x7.size + (((((⟨#[91]⟩ : ByteArray) ++ ((rd_T73 x33 x35).f0)) ++ (⟨#[61]⟩ : ByteArray)) ++ t262) ++ (⟨#[93]⟩ : ByteArray)).size ≤ 9223372036854775807 then (impl_FormatPath.l2 k x3 (x7 ++ (((((⟨#[91]⟩ : ByteArray) ++ ((rd_T73 x33 x35).f0)) ++ (⟨#[61]⟩ : ByteArray)) ++ t262) ++ (⟨#[93]⟩ : ByteArray))) x24 x25 x26 x33 x34 (wrap64 (x35 + 1)) x251000 x251001 x251002) else (none)) else (none)) else (none))) else (none)) else (none)) else (none)) else (none)) else (if x3.length < 8796093022208 then (impl_FormatPath.l1 k (x3 ++ [x7]) x24 x25 (wrap64 (x26 + 1)) x251000 x251001 x251002) else (none))
end
def impl_FormatPath.f (k : Nat) (a0_0 : Bool) (a0_1 : Int) (l0_2 : List (S71)) : Option (ByteArray) := (impl_IsPath.f k a0_0 a0_1 l0_2).bind fun t251 => (if t251 = true then (impl_FormatPath.l0 k (([] : List ByteArray)) 0 a0_0 a0_1 l0_2) else (some (⟨#[]⟩ : ByteArray)))
theorem impl_FormatPath.mono_l : ∀ k, (∀ y0 y1 y2 y3 y4, LeO (impl_FormatPath.l0 k y0 y1 y2 y3 y4) (impl_FormatPath.l0 (k + 1) y0 y1 y2 y3 y4)) ∧ (∀ y0 y1 y2 y3 y4 y5 y6, LeO (impl_FormatPath.l1 k y0 y1 y2 y3 y4 y5 y6) (impl_FormatPath.l1 (k + 1) y0 y1 y2 y3 y4 y5 y6)) ∧ (∀ y0 y1 y2 y3 y4 y5 y6 y7 y8 y9 y10, LeO (impl_FormatPath.l2 k y0 y1 y2 y3 y4 y5 y6 y7 y8 y9 y10) (impl_FormatPath.l2 (k + 1) y0 y1 y2 y3 y4 y5 y6 y7 y8 y9 y10))
  | 0 => ⟨fun _ _ _ _ _ r h => by simp [impl_FormatPath.l0] at h, fun _ _ _ _ _ _ _ r h => by simp [impl_FormatPath.l1] at h, fun _ _ _ _ _ _ _ _ _ _ _ r h => by simp [impl_FormatPath.l2] at h⟩
  | k + 1 => by
    obtain ⟨ih0, ih1, ih2⟩ := impl_FormatPath.mono_l k
    refine ⟨?_, ?_, ?_⟩
    · intro y0 y1 y2 y3 y4
      unfold impl_FormatPath.l0
      repeat' first
      | (with_reducible exact ih0 _ _ _ _ _)
      | (with_reducible exact ih1 _ _ _ _ _ _ _)
      | (with_reducible exact ih2 _ _ _ _ _ _ _ _ _ _ _)
      | (with_reducible exact impl_IsPath.mono _ _ _ _)
      | (with_reducible exact impl_QuoteText.mono _ _)
      | (with_reducible exact LeO.refl _)
      | (with_reducible exact LeO.none _)
      | (with_reducible refine LeO.ite ?_ ?_)
      | (with_reducible refine LeO.bind ?_ (fun _ => ?_))
      | exact ih0 _ _ _ _ _
      | exact ih1 _ _ _ _ _ _ _
      | exact ih2 _ _ _ _ _ _ _ _ _ _ _
      | exact impl_IsPath.mono _ _ _ _
      | exact impl_QuoteText.mono _ _
      | exact LeO.none _
      | refine LeO.ite ?_ ?_
      | refine LeO.bind ?_ (fun _ => ?_)
    · intro y0 y1 y2 y3 y4 y5 y6
      unfold impl_FormatPath.l1
      repeat' first
      | (with_reducible exact ih0 _ _ _ _ _)
      | (with_reducible exact ih1 _ _ _ _ _ _ _)
      | (with_reducible exact ih2 _ _ _ _ _ _ _ _ _ _ _)
      | (with_reducible exact impl_IsPath.mono _ _ _ _)
      | (with_reducible exact impl_QuoteText.mono _ _)
      | (with_reducible exact LeO.refl _)
      | (with_reducible exact LeO.none _)
      | (with_reducible refine LeO.ite ?_ ?_)
      | (with_reducible refine LeO.bind ?_ (fun _ => ?_))
      | exact ih0 _ _ _ _ _
      | exact ih1 _ _ _ _ _ _ _
      | exact ih2 _ _ _ _ _ _ _ _ _ _ _
      | exact impl_IsPath.mono _ _ _ _
      | exact impl_QuoteText.mono _ _
      | exact LeO.none _
      | refine LeO.ite ?_ ?_
      | refine LeO.bind ?_ (fun _ => ?_)
    · intro y0 y1 y2 y3 y4 y5 y6 y7 y8 y9 y10
      unfold impl_FormatPath.l2
      repeat' first
      | (with_reducible exact ih0 _ _ _ _ _)
      | (with_reducible exact ih1 _ _ _ _ _ _ _)
      | (with_reducible exact ih2 _ _ _ _ _ _ _ _ _ _ _)
      | (with_reducible exact impl_IsPath.mono _ _ _ _)
      | (with_reducible exact impl_QuoteText.mono _ _)
      | (with_reducible exact LeO.refl _)
      | (with_reducible exact LeO.none _)
      | (with_reducible refine LeO.ite ?_ ?_)
      | (with_reducible refine LeO.bind ?_ (fun _ => ?_))
      | exact ih0 _ _ _ _ _
      | exact ih1 _ _ _ _ _ _ _
      | exact ih2 _ _ _ _ _ _ _ _ _ _ _
      | exact impl_IsPath.mono _ _ _ _
      | exact impl_QuoteText.mono _ _
      | exact LeO.none _
      | refine LeO.ite ?_ ?_
      | refine LeO.bind ?_ (fun _ => ?_)
theorem impl_FormatPath.mono : ∀ a0 a1 a2 k, LeO (impl_FormatPath.f k a0 a1 a2) (impl_FormatPath.f (k + 1) a0 a1 a2) := by
  intro a0 a1 a2 k
  obtain ⟨ih0, ih1, ih2⟩ := impl_FormatPath.mono_l k
  unfold impl_FormatPath.f
  repeat' first
      | (with_reducible exact ih0 _ _ _ _ _)
      | (with_reducible exact ih1 _ _ _ _ _ _ _)
      | (with_reducible exact ih2 _ _ _ _ _ _ _ _ _ _ _)
      | (with_reducible exact impl_IsPath.mono _ _ _ _)
      | (with_reducible exact impl_QuoteText.mono _ _)
      | (with_reducible exact LeO.refl _)
      | (with_reducible exact LeO.none _)
      | (with_reducible refine LeO.ite ?_ ?_)
      | (with_reducible refine LeO.bind ?_ (fun _ => ?_))
      | exact ih0 _ _ _ _ _
      | exact ih1 _ _ _ _ _ _ _
      | exact ih2 _ _ _ _ _ _ _ _ _ _ _
      | exact impl_IsPath.mono _ _ _ _
      | exact impl_QuoteText.mono _ _
      | exact LeO.none _
      | refine LeO.ite ?_ ?_
      | refine LeO.bind ?_ (fun _ => ?_)
def impl_FormatPath.T15 : Bool × List (List Nat × List Nat) := (true, [([], []), ([], []), ([1], [1]), ([2], [2]), ([3], [3]), ([], []), ([5], [5]), ([6], [6]), ([4, 7], [4, 7]), ([8], [8]), ([0, 9], [0, 9]), ([10, 7, 0, 1, 2, 3, 4, 5, 6, 7, 8, 9, 10], [0, 10])])
def impl_FormatPath.B15 : List Nat := [0, 0, 2, 6, 14, 0, 32, 96, 254, 510, 1023, 2047]
theorem impl_FormatPath.tab15 : rtab .any (opsOf Try.f34 15) = impl_FormatPath.T15 := by kernel_rfl
theorem impl_FormatPath.bits15 : waitsOk impl_FormatPath.T15.2 impl_FormatPath.B15 = true := by kernel_rfl
set_option maxHeartbeats 8000000 in
set_option maxRecDepth 100000 in
theorem impl_FormatPath.calls (k : Nat) (a0_0 : Bool) (a0_1 : Int) (A0_2 : Option Addr) (c0_2 : Nat) (l0_2 : List (S71)) (r : ByteArray) (w : World) (hr0_2 : Kd.C k71 w A0_2 l0_2.length l0_2) (hc0_2 : l0_2.length ≤ c0_2) (h : impl_FormatPath.f k a0_0 a0_1 l0_2 = some r) :
    Calls Try.prog 34 #[.agg #[.bool a0_0, .int .i64 a0_1, .slice A0_2 l0_2.length c0_2]] w fun e w' => e = .returned (.string r) ∧ Below w.heap.size w w' := by
  have hu29 := Try.underlying29
  have hu71 := Try.underlying71
  have hu73 := Try.underlying73
  have HR0_2 := Aside0.mk hr0_2
  have HC0_2 := Aside0.mk hc0_2
  clear hr0_2 hc0_2
  have HB := Aside0.mk (Below.refl w.heap.size w)
  have H : ((impl_IsPath.f k a0_0 a0_1 l0_2).bind fun t251 => (if t251 = true then (impl_FormatPath.l0 k (([] : List ByteArray)) 0 a0_0 a0_1 l0_2) else (some (⟨#[]⟩ : ByteArray)))) = some r := h
  clear h
  replace H := Option.bind_eq_some_iff.mp H
  obtain ⟨t251, A20, H⟩ := H
  replace H : (if t251 = true then (impl_FormatPath.l0 k (([] : List ByteArray)) 0 a0_0 a0_1 l0_2) else (some (⟨#[]⟩ : ByteArray))) = some r := H
  have A2 := Aside0.mk A20
  clear A20
  by_cases c3 : t251 = true
  · subst c3
    have H1 : (impl_FormatPath.l0 k (([] : List ByteArray)) 0 a0_0 a0_1 l0_2) = some r := by rw [if_pos rfl] at H; exact H
    clear H
    have H := H1
    clear H1
    obtain ⟨y252, hy252⟩ : ∃ y_ : List ByteArray, y_ = (([] : List ByteArray)) := ⟨_, rfl⟩
    replace H : (impl_FormatPath.l0 k y252 0 a0_0 a0_1 l0_2) = some r := by first | (rw [hy252]; with_reducible exact H) | (have H2_ := (Option.bind_some _ _).symm.trans H; rw [hy252]; with_reducible exact H2_) | (have H2_ := (Option.bind_some _ _).symm.trans H; with_reducible exact H2_) | with_reducible exact H | (rw [hy252]; exact H) | exact H
    have Ny252 := Aside0.mk hy252
    clear hy252
    have H' := Aside0.mk H
    clear H
    go_enter Try.func34, Try.ntmps34
    go_wp2_with (first | ((with_reducible refine gate_dst (N := 1) rfl ?_); refine box_event ?hg (N := 1) ?hd (cs := #[.bool a0_0, .int .i64 a0_1, .slice A0_2 l0_2.length c0_2]) (t := 29) ?hr ?_; (case hd => rfl); (case hg => rfl); (case hr => first | (go_simp; done) | (go_simp; rfl)); intro gb250 hg w4 hbox hb; have n0_ := Aside0.mk (below_step (by repeat (first | (with_reducible first | exact HB.out | apply below_alloc | apply pw_below_drewN | apply below_drew1) | exact HB.out)) hb); have n1_ := Aside0.mk (hbox); have n2_ := Aside0.mk ((by rw [hg]; exact (below_size (by repeat (first | (with_reducible first | exact HB.out | apply below_alloc | apply pw_below_drewN | apply below_drew1) | exact HB.out))) : w.heap.size ≤ gb250)); have n3_ := Aside0.mk ((by rw [hg]; exact (below_size (by repeat (first | (with_reducible first | exact HB.out | apply below_alloc | apply pw_below_drewN | apply below_drew1) | exact HB.out))) : w.heap.size ≤ gb250)); clear HB; have HB := n0_; have BK250 := n1_; have GW250 := n2_; have GE250 := n3_; clear n0_ n1_ n2_ n3_; clear hb hbox hg; have hcz5_0 : w4.cell? ⟨gb250, 0, none⟩ = some (.bool a0_0) := (blk_cell BK250.out 0).trans rfl; have hcz5_1 : w4.cell? ⟨gb250, 1, none⟩ = some (.int .i64 a0_1) := (blk_cell BK250.out 1).trans rfl; have hcz5_2 : w4.cell? ⟨gb250, 2, none⟩ = some (.slice A0_2 l0_2.length c0_2) := (blk_cell BK250.out 2).trans rfl; have hfz5_0 := blk_frozen BK250.out 0; have hfz5_1 := blk_frozen BK250.out 1; have hfz5_2 := blk_frozen BK250.out 2) | ((with_reducible refine gate_callee (f := 13) rfl ?_); refine goesL_ (some 11) rfl rfl Try.func13 (by kernel_rfl) rfl #[.agg #[.bool a0_0, .int .i64 a0_1, .slice A0_2 l0_2.length c0_2]] rfl (by (try simp only [List.map_toArray, List.map_cons, List.map_nil]); first | done | rfl | (simp only [List.length_drop, List.length_take]; rfl)) ?_; (with_reducible refine (impl_IsPath.calls k a0_0 a0_1 _ _ l0_2 true _ ?side1 ?side2 A2.out).mono ?_); (case side1 => repeat (first | exact (Kd.C_below HR0_2.out HB.out) | (with_reducible refine Kd.C_alloc ?_ _) | (with_reducible refine Kd.C_drewN ?_ _) | (with_reducible refine Kd.C_drew ?_))); (case side2 => exact HC0_2.out); rintro e w6 ⟨rfl, hb⟩; refine ⟨_, rfl, ?_⟩; have n0_ := Aside0.mk (blk_below (g := gb250) (o := .cells #[.bool a0_0, .int .i64 a0_1, .slice A0_2 l0_2.length c0_2] 29 (0, 0)) (by (with_reducible repeat (first | refine blk_drewN ?_ _ | refine blk_drew ?_ | refine blk_alloc ?_ _)); exact BK250.out) hb); have n1_ := Aside0.mk (below_step (by repeat (first | (with_reducible first | exact HB.out | apply below_alloc | apply pw_below_drewN | apply below_drew1 | refine below_set ?_ GE250.out) | exact HB.out)) hb); clear BK250; clear HB; have BK250 := n0_; have HB := n1_; clear n0_ n1_; (try clear hb); (try clear hb2); (try clear hk); (try clear hi)) | ((with_reducible refine gate_dst (N := 13) rfl ?_); refine Kd.R_lit Kd.string _ 9 ?hg (N := 13) ?hd (xs := ([] : List ByteArray)) (inner := []) (ok := fun _ => True) (okp := fun _ => True) ?hr ?hp (fun _ hk => hk) trivial (Below.refl _ _) (Nat.le_refl _) (by simp) ?_; (case hd => rfl); (case hg => rfl); (case hr => first | (go_simp; done) | (go_simp; rfl)); (case hp => exact (Reps.none _ _)); intro v253 w7 ho8 hb hg_ hnew_; clear hg_ hnew_; (first | rw [← Ny252.out] at ho8 | (simp only [Int.reduceToNat] at ho8; rw [← Ny252.out] at ho8)); have n0_ := Aside0.mk (Kd.R_lower ho8 (below_size (by repeat (first | (with_reducible first | exact HB.out | apply below_alloc | apply pw_below_drewN | apply below_drew1 | refine below_set ?_ GE250.out) | exact HB.out)))); have n1_ := Aside0.mk (blk_below (g := gb250) (o := .cells #[.bool a0_0, .int .i64 a0_1, .slice A0_2 l0_2.length c0_2] 29 (0, 0)) (by (with_reducible repeat (first | refine blk_drewN ?_ _ | refine blk_drew ?_ | refine blk_alloc ?_ _)); exact BK250.out) hb); have n2_ := Aside0.mk (below_step (by repeat (first | (with_reducible first | exact HB.out | apply below_alloc | apply pw_below_drewN | apply below_drew1 | refine below_set ?_ GE250.out) | exact HB.out)) hb); clear BK250; clear HB; have HO254 := n0_; have BK250 := n1_; have HB := n2_; clear n0_ n1_ n2_; clear hb ho8))
    go_loopg [3, 4] k (fun kq v3 v4 w' => ∃ (x3_1 : List ByteArray) (x4_1 : Int), v4 = .int .i64 x4_1 ∧ Aside0 (impl_FormatPath.l0 kq x3_1 x4_1 a0_0 a0_1 l0_2 = some r) ∧ Aside0 (kq ≤ k) ∧ Aside0 (Kd.R Kd.string 9 w' w.heap.size (fun _ => True) v3 x3_1) ∧ Aside0 (w'.heap[gb250]? = some (.cells #[.bool a0_0, .int .i64 a0_1, (.slice A0_2 l0_2.length c0_2)] 29 (0, 0))) ∧ Aside0 (Below w.heap.size w w'))
    case atStart => exact ⟨(y252), (0), (by first | rfl | (simp; done) | (simp [*]; done)), H', ⟨Nat.le_refl _⟩, ⟨by (with_reducible repeat (first | apply Kd.R_alloc | apply Kd.R_drewN | apply Kd.R_drew)); exact HO254.out⟩, ⟨by (with_reducible repeat (first | refine blk_drewN ?_ _ | refine blk_drew ?_ | refine blk_alloc ?_ _)); exact BK250.out⟩, ⟨by repeat (first | (with_reducible first | exact HB.out | apply below_alloc | apply pw_below_drewN | apply below_drew1 | refine below_set ?_ GE250.out) | exact HB.out)⟩⟩
    case round =>
      clear H'
      try clear c1
      try clear p2
      try clear c3
      try clear hcz5_0
      try clear hcz5_1
      try clear hcz5_2
      try clear hfz5_0
      try clear hfz5_1
      try clear hfz5_2
      obtain ⟨x3_1, x4_1, rfl, HA, HK1, HO_3, BK250, HB⟩ := hrel
      cases gk with
      | zero => exact absurd HA.out (by simp [impl_FormatPath.l0])
      | succ k1 =>
        have H := HA.out
        clear HA
        simp only [impl_FormatPath.l0] at H
        by_cases c9 : x4_1 < a0_1
        · rw [if_pos c9] at H
          have c9b0 : decide (x4_1 < a0_1) = true := decide_eq_true c9
          clear c9
          by_cases c10 : x3_1.length < 8796093022208
          · rw [if_pos c10] at H
            have LMc10 := Aside0.mk c10
            clear c10
            obtain ⟨y255, hy255⟩ : ∃ y_ : List ByteArray, y_ = (x3_1 ++ [(⟨#[46, 46]⟩ : ByteArray)]) := ⟨_, rfl⟩
            replace H : (impl_FormatPath.l0 k1 y255 (wrap64 (x4_1 + 1)) a0_0 a0_1 l0_2) = some r := by first | (rw [hy255]; with_reducible exact H) | (have H2_ := (Option.bind_some _ _).symm.trans H; rw [hy255]; with_reducible exact H2_) | (have H2_ := (Option.bind_some _ _).symm.trans H; with_reducible exact H2_) | with_reducible exact H | (rw [hy255]; exact H) | exact H
            have Ny255 := Aside0.mk hy255
            clear hy255
            have H' := Aside0.mk H
            clear H
            have hcz11_0 : wr.cell? ⟨gb250, 0, none⟩ = some (.bool a0_0) := (blk_cell BK250.out 0).trans rfl
            have hcz11_1 : wr.cell? ⟨gb250, 1, none⟩ = some (.int .i64 a0_1) := (blk_cell BK250.out 1).trans rfl
            have hcz11_2 : wr.cell? ⟨gb250, 2, none⟩ = some (.slice A0_2 l0_2.length c0_2) := (blk_cell BK250.out 2).trans rfl
            have hfz11_0 := blk_frozen BK250.out 0
            have hfz11_1 := blk_frozen BK250.out 1
            have hfz11_2 := blk_frozen BK250.out 2
            go_wp2_with (first | ((with_reducible refine gate_builtin (b := .append) (xs := #[.tmp 20, .tmp 21]) rfl ?_); at_builtin; refine Kd.R_append Kd.string (w0 := w) w.heap.size rfl (.tmp 20) (.tmp 21) 63 9 (.string ⟨#[]⟩) 16 rfl Try.underlying63 info9 rfl (by decide) (by omega) u3 x3_1 (⟨#[46, 46]⟩ : ByteArray) [.string (⟨#[46, 46]⟩ : ByteArray)] (fun _ => True) (fun _ => False) rfl rfl ?aP (fun _ hk => hk.elim) ?aF ?aO ?aB ?aS ?aL ?_; (case aP => exact rfl); (case aB => exact (by repeat (first | (with_reducible first | exact HB.out | apply below_alloc | apply pw_below_drewN | apply below_drew1 | refine below_set ?_ GE250.out) | exact HB.out))); (case aF => exact (fun _ _ => trivial)); (case aO => exact (by (with_reducible repeat (first | apply Kd.R_alloc | apply Kd.R_drewN | apply Kd.R_drew)); exact HO_3.out)); (case aS => exact (below_size (by repeat (first | (with_reducible first | exact HB.out | apply below_alloc | apply pw_below_drewN | apply below_drew1 | refine below_set ?_ GE250.out) | exact HB.out)))); (case aL => have := LMc10.out; omega); intro v256 w12 ho hb hg hat; rw [← Ny255.out] at ho; have n0_ := Aside0.mk (blk_grown (g := gb250) (o := .cells #[.bool a0_0, .int .i64 a0_1, .slice A0_2 l0_2.length c0_2] 29 (0, 0)) (by (with_reducible repeat (first | refine blk_drewN ?_ _ | refine blk_drew ?_ | refine blk_alloc ?_ _)); exact BK250.out) hg (Kd.R_ne HO_3.out BK250.out (by decide))); have n1_ := Aside0.mk (hb); have n2_ := Aside0.mk (ho); clear BK250; clear HB; clear HO_3; have BK250 := n0_; have HB := n1_; have HO257 := n2_; clear n0_ n1_ n2_; clear ho hb hg hat))
            go_roundg k1
            case measure => have := HK1.out; omega
            case rel => exact ⟨(y255), (wrap64 (x4_1 + 1)), (by first | rfl | (simp; done) | (simp [*]; done)), H', ⟨by have := HK1.out; omega⟩, ⟨by (with_reducible repeat (first | apply Kd.R_alloc | apply Kd.R_drewN | apply Kd.R_drew)); exact HO257.out⟩, ⟨by (with_reducible repeat (first | refine blk_drewN ?_ _ | refine blk_drew ?_ | refine blk_alloc ?_ _)); exact BK250.out⟩, ⟨by repeat (first | (with_reducible first | exact HB.out | apply below_alloc | apply pw_below_drewN | apply below_drew1 | refine below_set ?_ GE250.out) | exact HB.out)⟩⟩
          · rw [if_neg c10] at H
            exact absurd H (by simp)
        · rw [if_neg c9] at H
          have c9b0 : decide (x4_1 < a0_1) = false := decide_eq_false c9
          clear c9
          have H' := Aside0.mk H
          clear H
          have hcz13_0 : wr.cell? ⟨gb250, 0, none⟩ = some (.bool a0_0) := (blk_cell BK250.out 0).trans rfl
          have hcz13_1 : wr.cell? ⟨gb250, 1, none⟩ = some (.int .i64 a0_1) := (blk_cell BK250.out 1).trans rfl
          have hcz13_2 : wr.cell? ⟨gb250, 2, none⟩ = some (.slice A0_2 l0_2.length c0_2) := (blk_cell BK250.out 2).trans rfl
          have hfz13_0 := blk_frozen BK250.out 0
          have hfz13_1 := blk_frozen BK250.out 1
          have hfz13_2 := blk_frozen BK250.out 2
          go_wp2
          go_loopg [3, 26] k1 (fun kq v3 v26 w' => ∃ (x3_2 : List ByteArray) (x26_2 : Int), v26 = .int .i64 x26_2 ∧ Aside0 (impl_FormatPath.l1 kq x3_2 l0_2 (l0_2.length : Int) x26_2 a0_0 a0_1 l0_2 = some r) ∧ Aside0 (kq ≤ k1) ∧ Aside0 (Kd.R Kd.string 9 w' w.heap.size (fun _ => True) v3 x3_2) ∧ Aside0 (w'.heap[gb250]? = some (.cells #[.bool a0_0, .int .i64 a0_1, (.slice A0_2 l0_2.length c0_2)] 29 (0, 0))) ∧ Aside0 (Below w.heap.size w w'))
          case atStart => exact ⟨(x3_1), (0), (by first | rfl | (simp; done) | (simp [*]; done)), H', ⟨Nat.le_refl _⟩, ⟨by (with_reducible repeat (first | apply Kd.R_alloc | apply Kd.R_drewN | apply Kd.R_drew)); exact HO_3.out⟩, ⟨by (with_reducible repeat (first | refine blk_drewN ?_ _ | refine blk_drew ?_ | refine blk_alloc ?_ _)); exact BK250.out⟩, ⟨by repeat (first | (with_reducible first | exact HB.out | apply below_alloc | apply pw_below_drewN | apply below_drew1 | refine below_set ?_ GE250.out) | exact HB.out)⟩⟩
          case round =>
            clear H'
            try clear c1
            try clear p2
            try clear c3
            try clear p6
            try clear c9
            try clear c9b0
            try clear c10
            try clear c13
            try clear hcz11_0
            try clear hcz11_1
            try clear hcz11_2
            try clear hcz13_0
            try clear hcz13_1
            try clear hcz13_2
            try clear hcz5_0
            try clear hcz5_1
            try clear hcz5_2
            try clear hfz11_0
            try clear hfz11_1
            try clear hfz11_2
            try clear hfz13_0
            try clear hfz13_1
            try clear hfz13_2
            try clear hfz5_0
            try clear hfz5_1
            try clear hfz5_2
            try clear p2
            obtain ⟨x3_2, x26_2, rfl, HA, HK2, HO_3, BK250, HB⟩ := hrel
            cases gk with
            | zero => exact absurd HA.out (by simp [impl_FormatPath.l1])
            | succ k2 =>
              have H := HA.out
              clear HA
              simp only [impl_FormatPath.l1] at H
              by_cases c14 : x26_2 < (l0_2.length : Int)
              · rw [if_pos c14] at H
                have c14b0 : decide (x26_2 < (l0_2.length : Int)) = true := decide_eq_true c14
                clear c14
                by_cases c15 : 0 ≤ x26_2
                · rw [if_pos c15] at H
                  have c15b0 : decide (0 ≤ x26_2) = true := decide_eq_true c15
                  clear c15
                  by_cases c16 : x26_2 < (l0_2.length : Int)
                  · rw [if_pos c16] at H
                    have c16b0 : decide (x26_2 < (l0_2.length : Int)) = true := decide_eq_true c16
                    clear c16
                    have H' := Aside0.mk H
                    clear H
                    have p258 : 0 ≤ (x26_2 : Int) := of_decide_eq_true (by first | (with_reducible assumption) | assumption)
                    have q258 : x26_2 < (l0_2.length : Int) := of_decide_eq_true (by first | (with_reducible assumption) | assumption)
                    obtain ⟨ad258, A258_1, c258_1, e258, hx258_0, hx258_1, hl258_1, hi258_1⟩ := at_T71 HR0_2.out x26_2 p258 q258
                    cases e258
                    replace hx258_0 := (HB.out.cell (World.block_lt_of_cell? w _ hx258_0)).trans hx258_0
                    replace hx258_1 := (HB.out.cell (World.block_lt_of_cell? w _ hx258_1)).trans hx258_1
                    have HR258_1 := Aside0.mk hi258_1
                    have HC258_1 := Aside0.mk hl258_1
                    clear hi258_1 hl258_1
                    replace p258 := eq_true p258
                    replace q258 := eq_true q258
                    go_wp2_with (first | ((with_reducible refine gate_dst (N := 6) rfl ?_); refine box_event ?hg (N := 6) ?hd (cs := #[.string (⟨#[]⟩ : ByteArray), .slice none 0 0]) (t := 71) ?hr ?_; (case hd => rfl); (case hg => rfl); (case hr => first | (go_simp; done) | (go_simp; rfl)); intro gb259 hg w17 hbox hb; have n0_ := Aside0.mk (Kd.R_below (by (with_reducible repeat (first | apply Kd.R_alloc | apply Kd.R_drewN | apply Kd.R_drew)); exact HO_3.out) hb); have n1_ := Aside0.mk (blk_below (g := gb250) (o := .cells #[.bool a0_0, .int .i64 a0_1, .slice (some ad258) l0_2.length c0_2] 29 (0, 0)) (by (with_reducible repeat (first | refine blk_drewN ?_ _ | refine blk_drew ?_ | refine blk_alloc ?_ _)); exact BK250.out) hb); have n2_ := Aside0.mk (below_step (by repeat (first | (with_reducible first | exact HB.out | apply below_alloc | apply pw_below_drewN | apply below_drew1 | refine below_set ?_ GE250.out) | exact HB.out)) hb); have n3_ := Aside0.mk (hbox); have n4_ := Aside0.mk ((by rw [hg]; exact (below_size (by repeat (first | (with_reducible first | exact HB.out | apply below_alloc | apply pw_below_drewN | apply below_drew1 | refine below_set ?_ GE250.out) | exact HB.out))) : w.heap.size ≤ gb259)); have n5_ := Aside0.mk ((by rw [hg]; exact (below_size (by repeat (first | (with_reducible first | exact HB.out | apply below_alloc | apply pw_below_drewN | apply below_drew1 | refine below_set ?_ GE250.out) | exact HB.out))) : w.heap.size ≤ gb259)); have n6_ := Aside0.mk ((by rw [hg]; exact Nat.ne_of_lt (blk_lt (g := gb250) (o := .cells #[.bool a0_0, .int .i64 a0_1, .slice (some ad258) l0_2.length c0_2] 29 (0, 0)) (by (with_reducible repeat (first | refine blk_drewN ?_ _ | refine blk_drew ?_ | refine blk_alloc ?_ _)); exact BK250.out)) : gb250 ≠ gb259)); have n7_ := Aside0.mk ((by rw [hg]; exact Nat.ne_of_gt (blk_lt (g := gb250) (o := .cells #[.bool a0_0, .int .i64 a0_1, .slice (some ad258) l0_2.length c0_2] 29 (0, 0)) (by (with_reducible repeat (first | refine blk_drewN ?_ _ | refine blk_drew ?_ | refine blk_alloc ?_ _)); exact BK250.out)) : gb259 ≠ gb250)); clear HO_3; clear BK250; clear HB; have HO_3 := n0_; have BK250 := n1_; have HB := n2_; have BK259 := n3_; have GW259 := n4_; have GE259 := n5_; have NB250_259 := n6_; have NB259_250 := n7_; clear n0_ n1_ n2_ n3_ n4_ n5_ n6_ n7_; clear hb hbox hg; have hnb18 := NB259_250.out; have hnc18 := NB250_259.out; have hcz19_0 : w17.cell? ⟨gb259, 0, none⟩ = some (.string (⟨#[]⟩ : ByteArray)) := (blk_cell BK259.out 0).trans rfl; have hcz19_1 : w17.cell? ⟨gb259, 1, none⟩ = some (.slice none 0 0) := (blk_cell BK259.out 1).trans rfl; have hfz19_0 := blk_frozen BK259.out 0; have hfz19_1 := blk_frozen BK259.out 1))
                    go_loopg [7, 35] k2 (fun kq v7 v35 w' => ∃ (x7_3 : ByteArray) (x35_3 : Int), v7 = .string x7_3 ∧ v35 = .int .i64 x35_3 ∧ Aside0 (impl_FormatPath.l2 kq x3_2 x7_3 l0_2 (l0_2.length : Int) x26_2 ((rd_T71 l0_2 x26_2).f1) (((rd_T71 l0_2 x26_2).f1).length : Int) x35_3 a0_0 a0_1 l0_2 = some r) ∧ Aside0 (kq ≤ k2) ∧ Aside0 (Kd.R Kd.string 9 w' w.heap.size (fun _ => True) u3 x3_2) ∧ Aside0 (w'.heap[gb250]? = some (.cells #[.bool a0_0, .int .i64 a0_1, (.slice (some ad258) l0_2.length c0_2)] 29 (0, 0))) ∧ Aside0 (w'.heap[gb259]? = some (.cells #[.string ((rd_T71 l0_2 x26_2).f0), (.slice A258_1 ((rd_T71 l0_2 x26_2).f1).length c258_1)] 71 (0, 0))) ∧ Aside0 (Below w.heap.size w w'))
                    case atStart => exact ⟨((rd_T71 l0_2 x26_2).f0), (0), (by first | rfl | (simp; done) | (simp [*]; done)), (by first | rfl | (simp; done) | (simp [*]; done)), H', ⟨Nat.le_refl _⟩, ⟨by (with_reducible repeat (first | apply Kd.R_alloc | apply Kd.R_drewN | apply Kd.R_drew)); exact Kd.R_mono (Kd.R_far (p := ⟨gb259, 1, none⟩) (Kd.R_far (p := ⟨gb259, 0, none⟩) (Kd.R_types HO_3.out BK259.out (by decide)) (fun _ hk => hk.2) (.string ((rd_T71 l0_2 x26_2).f0))) (fun _ hk => hk.2) (.slice A258_1 ((rd_T71 l0_2 x26_2).f1).length c258_1)) (fun _ hk => trivial)⟩, ⟨by (with_reducible repeat (first | refine blk_drewN ?_ _ | refine blk_drew ?_ | refine blk_alloc ?_ _)); refine blk_far ?_ NB250_259.out _; (with_reducible repeat (first | refine blk_drewN ?_ _ | refine blk_drew ?_ | refine blk_alloc ?_ _)); refine blk_far ?_ NB250_259.out _; (with_reducible repeat (first | refine blk_drewN ?_ _ | refine blk_drew ?_ | refine blk_alloc ?_ _)); exact BK250.out⟩, ⟨by (with_reducible repeat (first | refine blk_drewN ?_ _ | refine blk_drew ?_ | refine blk_alloc ?_ _)); refine blk_put (cs := #[.string ((rd_T71 l0_2 x26_2).f0), .slice none 0 0]) ?_ 1 _ rfl; (with_reducible repeat (first | refine blk_drewN ?_ _ | refine blk_drew ?_ | refine blk_alloc ?_ _)); refine blk_put (cs := #[.string (⟨#[]⟩ : ByteArray), .slice none 0 0]) ?_ 0 _ rfl; (with_reducible repeat (first | refine blk_drewN ?_ _ | refine blk_drew ?_ | refine blk_alloc ?_ _)); exact BK259.out⟩, ⟨by repeat (first | (with_reducible first | exact HB.out | apply below_alloc | apply pw_below_drewN | apply below_drew1 | refine below_set ?_ GE250.out | refine below_set ?_ GE259.out) | exact HB.out)⟩⟩
                    case round =>
                      clear H'
                      try clear c1
                      try clear c2
                      try clear p2
                      try clear q2
                      try clear hx2
                      try clear c3
                      try clear p6
                      try clear c9
                      try clear c9b0
                      try clear c10
                      try clear c13
                      try clear c14
                      try clear c14b0
                      try clear c15
                      try clear c15b0
                      try clear c16
                      try clear c16b0
                      try clear c18
                      try clear hcz11_0
                      try clear hcz11_1
                      try clear hcz11_2
                      try clear hcz13_0
                      try clear hcz13_1
                      try clear hcz13_2
                      try clear hcz19_0
                      try clear hcz19_1
                      try clear hcz5_0
                      try clear hcz5_1
                      try clear hcz5_2
                      try clear hfz11_0
                      try clear hfz11_1
                      try clear hfz11_2
                      try clear hfz13_0
                      try clear hfz13_1
                      try clear hfz13_2
                      try clear hfz19_0
                      try clear hfz19_1
                      try clear hfz5_0
                      try clear hfz5_1
                      try clear hfz5_2
                      try clear hx258_0
                      try clear hx258_1
                      try clear p2
                      try clear p258
                      try clear p6
                      try clear q258
                      obtain ⟨x7_3, x35_3, rfl, rfl, HA, HK3, HO_3, BK250, BK259, HB⟩ := hrel
                      cases gk with
                      | zero => exact absurd HA.out (by simp [impl_FormatPath.l2])
                      | succ k3 =>
                        have H := HA.out
                        clear HA
                        simp only [impl_FormatPath.l2] at H
                        by_cases c20 : x35_3 < (((rd_T71 l0_2 x26_2).f1).length : Int)
                        · rw [if_pos c20] at H
                          have c20b0 : decide (x35_3 < (((rd_T71 l0_2 x26_2).f1).length : Int)) = true := decide_eq_true c20
                          clear c20
                          by_cases c21 : 0 ≤ x35_3
                          · rw [if_pos c21] at H
                            have c21b0 : decide (0 ≤ x35_3) = true := decide_eq_true c21
                            clear c21
                            by_cases c22 : x35_3 < (((rd_T71 l0_2 x26_2).f1).length : Int)
                            · rw [if_pos c22] at H
                              have c22b0 : decide (x35_3 < (((rd_T71 l0_2 x26_2).f1).length : Int)) = true := decide_eq_true c22
                              clear c22
                              by_cases c23 : 1 + ((rd_T73 ((rd_T71 l0_2 x26_2).f1) x35_3).f0).size ≤ 9223372036854775807
                              · rw [if_pos c23] at H
                                have c23b0 := eq_true c23
                                have c23b1 : decide (1 + ((rd_T73 ((rd_T71 l0_2 x26_2).f1) x35_3).f0).size ≤ 9223372036854775807) = true := decide_eq_true c23
                                try have c23b2 : (9223372036854775807 < 1 + ((rd_T73 ((rd_T71 l0_2 x26_2).f1) x35_3).f0).size) = False := eq_false (Nat.not_lt.2 c23)
                                by_cases c24 : ((⟨#[91]⟩ : ByteArray) ++ ((rd_T73 ((rd_T71 l0_2 x26_2).f1) x35_3).f0)).size + 1 ≤ 9223372036854775807
                                · rw [if_pos c24] at H
                                  have c24b0 := eq_true c24
                                  have c24b1 : decide (((⟨#[91]⟩ : ByteArray) ++ ((rd_T73 ((rd_T71 l0_2 x26_2).f1) x35_3).f0)).size + 1 ≤ 9223372036854775807) = true := decide_eq_true c24
                                  (try (have c24s := c24; simp only [ByteArray.size_append, size_lit_, List.length_cons, List.length_nil, Nat.zero_add, Nat.reduceAdd] at c24s; have c24n := eq_true c24s; have c24m := eq_false (Nat.not_lt.2 c24s); clear c24s))
                                  (try (have c24s := c24; simp at c24s; have c24o := eq_true c24s; have c24p := eq_false (Nat.not_lt.2 c24s); clear c24s))
                                  try have c24b2 : (9223372036854775807 < ((⟨#[91]⟩ : ByteArray) ++ ((rd_T73 ((rd_T71 l0_2 x26_2).f1) x35_3).f0)).size + 1) = False := eq_false (Nat.not_lt.2 c24)
                                  replace H := Option.bind_eq_some_iff.mp H
                                  obtain ⟨t262, A250, H⟩ := H
                                  replace H : (if (((⟨#[91]⟩ : ByteArray) ++ ((rd_T73 ((rd_T71 l0_2 x26_2).f1) x35_3).f0)) ++ (⟨#[61]⟩ : ByteArray)).size + t262.size ≤ 9223372036854775807 then (if ((((⟨#[91]⟩ : ByteArray) ++ ((rd_T73 ((rd_T71 l0_2 x26_2).f1) x35_3).f0)) ++ (⟨#[61]⟩ : ByteArray)) ++ t262).size + 1 ≤ 9223372036854775807 then (if x7_3.size + (((((⟨#[91]⟩ : ByteArray) ++ ((rd_T73 ((rd_T71 l0_2 x26_2).f1) x35_3).f0)) ++ (⟨#[61]⟩ : ByteArray)) ++ t262) ++ (⟨#[93]⟩ : ByteArray)).size ≤ 9223372036854775807 then (impl_FormatPath.l2 k3 x3_2 (x7_3 ++ (((((⟨#[91]⟩ : ByteArray) ++ ((rd_T73 ((rd_T71 l0_2 x26_2).f1) x35_3).f0)) ++ (⟨#[61]⟩ : ByteArray)) ++ t262) ++ (⟨#[93]⟩ : ByteArray))) l0_2 (l0_2.length : Int) x26_2 ((rd_T71 l0_2 x26_2).f1) (((rd_T71 l0_2 x26_2).f1).length : Int) (wrap64 (x35_3 + 1)) a0_0 a0_1 l0_2) else (none)) else (none)) else (none)) = some r := H
                                  have A25 := Aside0.mk A250
                                  clear A250
                                  by_cases c26 : (((⟨#[91]⟩ : ByteArray) ++ ((rd_T73 ((rd_T71 l0_2 x26_2).f1) x35_3).f0)) ++ (⟨#[61]⟩ : ByteArray)).size + t262.size ≤ 9223372036854775807
                                  · rw [if_pos c26] at H
                                    have c26b0 := eq_true c26
                                    have c26b1 : decide ((((⟨#[91]⟩ : ByteArray) ++ ((rd_T73 ((rd_T71 l0_2 x26_2).f1) x35_3).f0)) ++ (⟨#[61]⟩ : ByteArray)).size + t262.size ≤ 9223372036854775807) = true := decide_eq_true c26
                                    (try (have c26s := c26; simp only [ByteArray.size_append, size_lit_, List.length_cons, List.length_nil, Nat.zero_add, Nat.reduceAdd] at c26s; have c26n := eq_true c26s; have c26m := eq_false (Nat.not_lt.2 c26s); clear c26s))
                                    (try (have c26s := c26; simp at c26s; have c26o := eq_true c26s; have c26p := eq_false (Nat.not_lt.2 c26s); clear c26s))
                                    try have c26b2 : (9223372036854775807 < (((⟨#[91]⟩ : ByteArray) ++ ((rd_T73 ((rd_T71 l0_2 x26_2).f1) x35_3).f0)) ++ (⟨#[61]⟩ : ByteArray)).size + t262.size) = False := eq_false (Nat.not_lt.2 c26)
                                    by_cases c27 : ((((⟨#[91]⟩ : ByteArray) ++ ((rd_T73 ((rd_T71 l0_2 x26_2).f1) x35_3).f0)) ++ (⟨#[61]⟩ : ByteArray)) ++ t262).size + 1 ≤ 9223372036854775807
                                    · rw [if_pos c27] at H
                                      have c27b0 := eq_true c27
                                      have c27b1 : decide (((((⟨#[91]⟩ : ByteArray) ++ ((rd_T73 ((rd_T71 l0_2 x26_2).f1) x35_3).f0)) ++ (⟨#[61]⟩ : ByteArray)) ++ t262).size + 1 ≤ 9223372036854775807) = true := decide_eq_true c27
                                      (try (have c27s := c27; simp only [ByteArray.size_append, size_lit_, List.length_cons, List.length_nil, Nat.zero_add, Nat.reduceAdd] at c27s; have c27n := eq_true c27s; have c27m := eq_false (Nat.not_lt.2 c27s); clear c27s))
                                      (try (have c27s := c27; simp at c27s; have c27o := eq_true c27s; have c27p := eq_false (Nat.not_lt.2 c27s); clear c27s))
                                      try have c27b2 : (9223372036854775807 < ((((⟨#[91]⟩ : ByteArray) ++ ((rd_T73 ((rd_T71 l0_2 x26_2).f1) x35_3).f0)) ++ (⟨#[61]⟩ : ByteArray)) ++ t262).size + 1) = False := eq_false (Nat.not_lt.2 c27)
                                      by_cases c28 : x7_3.size + (((((⟨#[91]⟩ : ByteArray) ++ ((rd_T73 ((rd_T71 l0_2 x26_2).f1) x35_3).f0)) ++ (⟨#[61]⟩ : ByteArray)) ++ t262) ++ (⟨#[93]⟩ : ByteArray)).size ≤ 9223372036854775807
                                      · rw [if_pos c28] at H
                                        have c28b0 := eq_true c28
                                        have c28b1 : decide (x7_3.size + (((((⟨#[91]⟩ : ByteArray) ++ ((rd_T73 ((rd_T71 l0_2 x26_2).f1) x35_3).f0)) ++ (⟨#[61]⟩ : ByteArray)) ++ t262) ++ (⟨#[93]⟩ : ByteArray)).size ≤ 9223372036854775807) = true := decide_eq_true c28
                                        (try (have c28s := c28; simp only [ByteArray.size_append, size_lit_, List.length_cons, List.length_nil, Nat.zero_add, Nat.reduceAdd] at c28s; have c28n := eq_true c28s; have c28m := eq_false (Nat.not_lt.2 c28s); clear c28s))
                                        (try (have c28s := c28; simp at c28s; have c28o := eq_true c28s; have c28p := eq_false (Nat.not_lt.2 c28s); clear c28s))
                                        try have c28b2 : (9223372036854775807 < x7_3.size + (((((⟨#[91]⟩ : ByteArray) ++ ((rd_T73 ((rd_T71 l0_2 x26_2).f1) x35_3).f0)) ++ (⟨#[61]⟩ : ByteArray)) ++ t262) ++ (⟨#[93]⟩ : ByteArray)).size) = False := eq_false (Nat.not_lt.2 c28)
                                        have H' := Aside0.mk H
                                        clear H
                                        have p260 : 0 ≤ (x35_3 : Int) := of_decide_eq_true (by first | (with_reducible assumption) | assumption)
                                        have q260 : x35_3 < (((rd_T71 l0_2 x26_2).f1).length : Int) := of_decide_eq_true (by first | (with_reducible assumption) | assumption)
                                        obtain ⟨ad260, e260, hx260_0, hx260_1⟩ := at_T73 HR258_1.out x35_3 p260 q260
                                        cases e260
                                        replace hx260_0 := (HB.out.cell (World.block_lt_of_cell? w _ hx260_0)).trans hx260_0
                                        replace hx260_1 := (HB.out.cell (World.block_lt_of_cell? w _ hx260_1)).trans hx260_1
                                        replace p260 := eq_true p260
                                        replace q260 := eq_true q260
                                        try go_wp2_with (first | ((with_reducible refine gate_dst (N := 9) rfl ?_); refine box_event ?hg (N := 9) ?hd (cs := #[.string (⟨#[]⟩ : ByteArray), .string (⟨#[]⟩ : ByteArray)]) (t := 73) ?hr ?_; (case hd => rfl); (case hg => rfl); (case hr => first | (go_simp; done) | (go_simp; rfl)); intro gb261 hg w29 hbox hb; have n0_ := Aside0.mk (Kd.R_below (by (with_reducible repeat (first | apply Kd.R_alloc | apply Kd.R_drewN | apply Kd.R_drew)); exact HO_3.out) hb); have n1_ := Aside0.mk (blk_below (g := gb250) (o := .cells #[.bool a0_0, .int .i64 a0_1, .slice (some ad258) l0_2.length c0_2] 29 (0, 0)) (by (with_reducible repeat (first | refine blk_drewN ?_ _ | refine blk_drew ?_ | refine blk_alloc ?_ _)); exact BK250.out) hb); have n2_ := Aside0.mk (blk_below (g := gb259) (o := .cells #[.string ((rd_T71 l0_2 x26_2).f0), .slice (some ad260) ((rd_T71 l0_2 x26_2).f1).length c258_1] 71 (0, 0)) (by (with_reducible repeat (first | refine blk_drewN ?_ _ | refine blk_drew ?_ | refine blk_alloc ?_ _)); exact BK259.out) hb); have n3_ := Aside0.mk (below_step (by repeat (first | (with_reducible first | exact HB.out | apply below_alloc | apply pw_below_drewN | apply below_drew1 | refine below_set ?_ GE250.out | refine below_set ?_ GE259.out) | exact HB.out)) hb); have n4_ := Aside0.mk (hbox); have n5_ := Aside0.mk ((by rw [hg]; exact (below_size (by repeat (first | (with_reducible first | exact HB.out | apply below_alloc | apply pw_below_drewN | apply below_drew1 | refine below_set ?_ GE250.out | refine below_set ?_ GE259.out) | exact HB.out))) : w.heap.size ≤ gb261)); have n6_ := Aside0.mk ((by rw [hg]; exact (below_size (by repeat (first | (with_reducible first | exact HB.out | apply below_alloc | apply pw_below_drewN | apply below_drew1 | refine below_set ?_ GE250.out | refine below_set ?_ GE259.out) | exact HB.out))) : w.heap.size ≤ gb261)); have n7_ := Aside0.mk ((by rw [hg]; exact Nat.ne_of_lt (blk_lt (g := gb250) (o := .cells #[.bool a0_0, .int .i64 a0_1, .slice (some ad258) l0_2.length c0_2] 29 (0, 0)) (by (with_reducible repeat (first | refine blk_drewN ?_ _ | refine blk_drew ?_ | refine blk_alloc ?_ _)); exact BK250.out)) : gb250 ≠ gb261)); have n8_ := Aside0.mk ((by rw [hg]; exact Nat.ne_of_gt (blk_lt (g := gb250) (o := .cells #[.bool a0_0, .int .i64 a0_1, .slice (some ad258) l0_2.length c0_2] 29 (0, 0)) (by (with_reducible repeat (first | refine blk_drewN ?_ _ | refine blk_drew ?_ | refine blk_alloc ?_ _)); exact BK250.out)) : gb261 ≠ gb250)); have n9_ := Aside0.mk ((by rw [hg]; exact Nat.ne_of_lt (blk_lt (g := gb259) (o := .cells #[.string ((rd_T71 l0_2 x26_2).f0), .slice (some ad260) ((rd_T71 l0_2 x26_2).f1).length c258_1] 71 (0, 0)) (by (with_reducible repeat (first | refine blk_drewN ?_ _ | refine blk_drew ?_ | refine blk_alloc ?_ _)); exact BK259.out)) : gb259 ≠ gb261)); have n10_ := Aside0.mk ((by rw [hg]; exact Nat.ne_of_gt (blk_lt (g := gb259) (o := .cells #[.string ((rd_T71 l0_2 x26_2).f0), .slice (some ad260) ((rd_T71 l0_2 x26_2).f1).length c258_1] 71 (0, 0)) (by (with_reducible repeat (first | refine blk_drewN ?_ _ | refine blk_drew ?_ | refine blk_alloc ?_ _)); exact BK259.out)) : gb261 ≠ gb259)); clear HO_3; clear BK250; clear BK259; clear HB; have HO_3 := n0_; have BK250 := n1_; have BK259 := n2_; have HB := n3_; have BK261 := n4_; have GW261 := n5_; have GE261 := n6_; have NB250_261 := n7_; have NB261_250 := n8_; have NB259_261 := n9_; have NB261_259 := n10_; clear n0_ n1_ n2_ n3_ n4_ n5_ n6_ n7_ n8_ n9_ n10_; clear hb hbox hg; have hnb30 := NB261_250.out; have hnc30 := NB250_261.out; have hnb31 := NB261_259.out; have hnc31 := NB259_261.out; have hcz32_0 : w29.cell? ⟨gb261, 0, none⟩ = some (.string (⟨#[]⟩ : ByteArray)) := (blk_cell BK261.out 0).trans rfl; have hcz32_1 : w29.cell? ⟨gb261, 1, none⟩ = some (.string (⟨#[]⟩ : ByteArray)) := (blk_cell BK261.out 1).trans rfl; have hfz32_0 := blk_frozen BK261.out 0; have hfz32_1 := blk_frozen BK261.out 1))
                                        have n0_ : Aside0 (Kd.R Kd.string 9 ((w29.setCell ⟨gb261, 0, none⟩ (.string ((rd_T73 ((rd_T71 l0_2 x26_2).f1) x35_3).f0))).setCell ⟨gb261, 1, none⟩ (.string ((rd_T73 ((rd_T71 l0_2 x26_2).f1) x35_3).f1))) w.heap.size (fun _ => True) u3 x3_2) := ⟨by (with_reducible repeat (first | apply Kd.R_alloc | apply Kd.R_drewN | apply Kd.R_drew)); exact Kd.R_mono (Kd.R_far (p := ⟨gb261, 1, none⟩) (Kd.R_far (p := ⟨gb261, 0, none⟩) (Kd.R_types HO_3.out BK261.out (by decide)) (fun _ hk => hk.2) (.string ((rd_T73 ((rd_T71 l0_2 x26_2).f1) x35_3).f0))) (fun _ hk => hk.2) (.string ((rd_T73 ((rd_T71 l0_2 x26_2).f1) x35_3).f1))) (fun _ hk => trivial)⟩
                                        have n1_ : Aside0 (((w29.setCell ⟨gb261, 0, none⟩ (.string ((rd_T73 ((rd_T71 l0_2 x26_2).f1) x35_3).f0))).setCell ⟨gb261, 1, none⟩ (.string ((rd_T73 ((rd_T71 l0_2 x26_2).f1) x35_3).f1))).heap[gb250]? = some (.cells #[.bool a0_0, .int .i64 a0_1, .slice (some ad258) l0_2.length c0_2] 29 (0, 0))) := ⟨by (with_reducible repeat (first | refine blk_drewN ?_ _ | refine blk_drew ?_ | refine blk_alloc ?_ _)); refine blk_far ?_ NB250_261.out _; (with_reducible repeat (first | refine blk_drewN ?_ _ | refine blk_drew ?_ | refine blk_alloc ?_ _)); refine blk_far ?_ NB250_261.out _; (with_reducible repeat (first | refine blk_drewN ?_ _ | refine blk_drew ?_ | refine blk_alloc ?_ _)); exact BK250.out⟩
                                        have n2_ : Aside0 (((w29.setCell ⟨gb261, 0, none⟩ (.string ((rd_T73 ((rd_T71 l0_2 x26_2).f1) x35_3).f0))).setCell ⟨gb261, 1, none⟩ (.string ((rd_T73 ((rd_T71 l0_2 x26_2).f1) x35_3).f1))).heap[gb259]? = some (.cells #[.string ((rd_T71 l0_2 x26_2).f0), .slice (some ad260) ((rd_T71 l0_2 x26_2).f1).length c258_1] 71 (0, 0))) := ⟨by (with_reducible repeat (first | refine blk_drewN ?_ _ | refine blk_drew ?_ | refine blk_alloc ?_ _)); refine blk_far ?_ NB259_261.out _; (with_reducible repeat (first | refine blk_drewN ?_ _ | refine blk_drew ?_ | refine blk_alloc ?_ _)); refine blk_far ?_ NB259_261.out _; (with_reducible repeat (first | refine blk_drewN ?_ _ | refine blk_drew ?_ | refine blk_alloc ?_ _)); exact BK259.out⟩
                                        have n3_ : Aside0 (((w29.setCell ⟨gb261, 0, none⟩ (.string ((rd_T73 ((rd_T71 l0_2 x26_2).f1) x35_3).f0))).setCell ⟨gb261, 1, none⟩ (.string ((rd_T73 ((rd_T71 l0_2 x26_2).f1) x35_3).f1))).heap[gb261]? = some (.cells #[.string ((rd_T73 ((rd_T71 l0_2 x26_2).f1) x35_3).f0), .string ((rd_T73 ((rd_T71 l0_2 x26_2).f1) x35_3).f1)] 73 (0, 0))) := ⟨by (with_reducible repeat (first | refine blk_drewN ?_ _ | refine blk_drew ?_ | refine blk_alloc ?_ _)); refine blk_put (cs := #[.string ((rd_T73 ((rd_T71 l0_2 x26_2).f1) x35_3).f0), .string (⟨#[]⟩ : ByteArray)]) ?_ 1 _ rfl; (with_reducible repeat (first | refine blk_drewN ?_ _ | refine blk_drew ?_ | refine blk_alloc ?_ _)); refine blk_put (cs := #[.string (⟨#[]⟩ : ByteArray), .string (⟨#[]⟩ : ByteArray)]) ?_ 0 _ rfl; (with_reducible repeat (first | refine blk_drewN ?_ _ | refine blk_drew ?_ | refine blk_alloc ?_ _)); exact BK261.out⟩
                                        have n4_ : Aside0 (Below w.heap.size w ((w29.setCell ⟨gb261, 0, none⟩ (.string ((rd_T73 ((rd_T71 l0_2 x26_2).f1) x35_3).f0))).setCell ⟨gb261, 1, none⟩ (.string ((rd_T73 ((rd_T71 l0_2 x26_2).f1) x35_3).f1)))) := ⟨by repeat (first | (with_reducible first | exact HB.out | apply below_alloc | apply pw_below_drewN | apply below_drew1 | refine below_set ?_ GE250.out | refine below_set ?_ GE259.out | refine below_set ?_ GE261.out) | exact HB.out)⟩
                                        (try clear HO_3)
                                        (try clear BK250)
                                        (try clear BK259)
                                        (try clear BK261)
                                        (try clear HB)
                                        generalize ((w29.setCell ⟨gb261, 0, none⟩ (.string ((rd_T73 ((rd_T71 l0_2 x26_2).f1) x35_3).f0))).setCell ⟨gb261, 1, none⟩ (.string ((rd_T73 ((rd_T71 l0_2 x26_2).f1) x35_3).f1))) = w33 at n0_ n1_ n2_ n3_ n4_ ⊢
                                        have HO_3 := n0_
                                        have BK250 := n1_
                                        have BK259 := n2_
                                        have BK261 := n3_
                                        have HB := n4_
                                        clear n0_ n1_ n2_ n3_ n4_
                                        have n0_ := Aside0.mk (Kd.R_drew HO_3.out)
                                        have n1_ := Aside0.mk (blk_drew BK250.out)
                                        have n2_ := Aside0.mk (blk_drew BK259.out)
                                        have n3_ := Aside0.mk (blk_drew BK261.out)
                                        have n4_ := Aside0.mk (below_drew1 HB.out)
                                        clear HO_3
                                        clear BK250
                                        clear BK259
                                        clear BK261
                                        clear HB
                                        have HO_3 := n0_
                                        have BK250 := n1_
                                        have BK259 := n2_
                                        have BK261 := n3_
                                        have HB := n4_
                                        clear n0_ n1_ n2_ n3_ n4_
                                        refine start_ (n := 12) (S := fun w' => w'.cell? ⟨gb261, 0, none⟩ = some (.string ((rd_T73 ((rd_T71 l0_2 x26_2).f1) x35_3).f0)) ∧ w'.cell? ⟨gb261, 1, none⟩ = some (.string ((rd_T73 ((rd_T71 l0_2 x26_2).f1) x35_3).f1))) (ds := []) #[false, false, false, false, false, false, false, false, false, false, false, false] (by kernel_rfl) rfl rfl ⟨(blk_cell BK261.out 0).trans rfl, (blk_cell BK261.out 1).trans rfl⟩ (fun hHeld => ?_); refine with_tabW impl_FormatPath.tab15 impl_FormatPath.bits15 (fun HT_ HW_ => ?_)
                                        generalize w33.drew = w34 at HO_3 BK250 BK259 BK261 HB hHeld ⊢
                                        refine pure_ (i := 0) (N := some 39) (v := ?_) (a' := ?_) #[true, false, false, false, false, false, false, false, false, false, false, false] rfl rfl (any_of HT_.out (by kernel_rfl)) (fun _ _ _ h => h) (Or.inl ⟨by rfl, ?_⟩) ?_ ?_
                                        rotate_left
                                        · intro w'
                                          go_simp
                                          with_reducible rfl
                                        rotate_left
                                        · simp only [Act.put, List.setIfInBounds_toArray, List.set_cons_zero, List.set_cons_succ, i64_w, i32_w]
                                          rfl
                                        refine pure_ (i := 1) (N := some 40) (v := ?_) (a' := ?_) #[true, true, false, false, false, false, false, false, false, false, false, false] rfl rfl (any_of HT_.out (by kernel_rfl)) (fun _ _ _ h => h) (Or.inl ⟨by rfl, ?_⟩) ?_ ?_
                                        rotate_left
                                        · intro w'
                                          go_simp
                                          with_reducible rfl
                                        rotate_left
                                        · simp only [Act.put, List.setIfInBounds_toArray, List.set_cons_zero, List.set_cons_succ, i64_w, i32_w]
                                          rfl
                                        refine pure_ (i := 5) (N := some 44) (v := ?_) (a' := ?_) #[true, true, false, false, false, true, false, false, false, false, false, false] rfl rfl (any_of HT_.out (by kernel_rfl)) (fun _ _ _ h => h) (Or.inl ⟨by rfl, ?_⟩) ?_ ?_
                                        rotate_left
                                        · intro w'
                                          go_simp
                                          with_reducible rfl
                                        rotate_left
                                        · simp only [Act.put, List.setIfInBounds_toArray, List.set_cons_zero, List.set_cons_succ, i64_w, i32_w]
                                          rfl
                                        refine take_ (i := 2) (N := some 41) (v := ?_) (a' := ?_) #[true, true, true, false, false, true, false, false, false, false, false, false] rfl rfl (take_ofW HT_.out HW_.out (by kernel_rfl)) (fun _ _ _ h => h) (Or.inl ⟨by rfl, ?_⟩) hHeld ?_ ?_
                                        rotate_left
                                        · rintro w' ⟨s0, s1⟩
                                          go_simp
                                          with_reducible rfl
                                        rotate_left
                                        · simp only [Act.put, List.setIfInBounds_toArray, List.set_cons_zero, List.set_cons_succ, i64_w, i32_w]
                                          rfl
                                        refine pure_ (i := 3) (N := some 42) (v := ?_) (a' := ?_) #[true, true, true, true, false, true, false, false, false, false, false, false] rfl rfl (any_of HT_.out (by kernel_rfl)) (fun _ _ _ h => h) (Or.inl ⟨by rfl, ?_⟩) ?_ ?_
                                        rotate_left
                                        · intro w'
                                          go_simp
                                          with_reducible rfl
                                        rotate_left
                                        · simp only [Act.put, List.setIfInBounds_toArray, List.set_cons_zero, List.set_cons_succ, i64_w, i32_w]
                                          rfl
                                        refine pure_ (i := 4) (N := some 43) (v := ?_) (a' := ?_) #[true, true, true, true, true, true, false, false, false, false, false, false] rfl rfl (any_of HT_.out (by kernel_rfl)) (fun _ _ _ h => h) (Or.inl ⟨by rfl, ?_⟩) ?_ ?_
                                        rotate_left
                                        · intro w'
                                          go_simp
                                          with_reducible rfl
                                        rotate_left
                                        · simp only [Act.put, List.setIfInBounds_toArray, List.set_cons_zero, List.set_cons_succ, i64_w, i32_w]
                                          rfl
                                        refine take_ (i := 6) (N := some 45) (v := ?_) (a' := ?_) #[true, true, true, true, true, true, true, false, false, false, false, false] rfl rfl (take_ofW HT_.out HW_.out (by kernel_rfl)) (fun _ _ _ h => h) (Or.inl ⟨by rfl, ?_⟩) hHeld ?_ ?_
                                        rotate_left
                                        · rintro w' ⟨s0, s1⟩
                                          go_simp
                                          with_reducible rfl
                                        rotate_left
                                        · simp only [Act.put, List.setIfInBounds_toArray, List.set_cons_zero, List.set_cons_succ, i64_w, i32_w]
                                          rfl
                                        refine one_ (i := 7) (N := some 46) #[true, true, true, true, true, true, true, true, false, false, false, false] rfl rfl (one_of HT_.out (by kernel_rfl)) (by decide) (fun K hK => ?_)
                                        refine goes_ Try.func63 (by kernel_rfl) rfl #[.string ((rd_T73 ((rd_T71 l0_2 x26_2).f1) x35_3).f1)] (by rfl) rfl rfl (by (try simp only [List.map_toArray, List.map_cons, List.map_nil]); first | done | rfl | (simp only [List.length_drop, List.length_take]; rfl)) ?_
                                        with_reducible refine (impl_QuoteText.calls k3 ((rd_T73 ((rd_T71 l0_2 x26_2).f1) x35_3).f1) t262 _ A25.out).mono ?_
                                        rintro e w35 ⟨rfl, hb⟩
                                        refine ⟨_, rfl, ?_⟩
                                        have n0_ := Aside0.mk (Kd.R_below (by (with_reducible repeat (first | apply Kd.R_alloc | apply Kd.R_drewN | apply Kd.R_drew)); exact HO_3.out) hb)
                                        have n1_ := Aside0.mk (blk_below (g := gb250) (o := .cells #[.bool a0_0, .int .i64 a0_1, .slice (some ad258) l0_2.length c0_2] 29 (0, 0)) (by (with_reducible repeat (first | refine blk_drewN ?_ _ | refine blk_drew ?_ | refine blk_alloc ?_ _)); exact BK250.out) hb)
                                        have n2_ := Aside0.mk (blk_below (g := gb259) (o := .cells #[.string ((rd_T71 l0_2 x26_2).f0), .slice (some ad260) ((rd_T71 l0_2 x26_2).f1).length c258_1] 71 (0, 0)) (by (with_reducible repeat (first | refine blk_drewN ?_ _ | refine blk_drew ?_ | refine blk_alloc ?_ _)); exact BK259.out) hb)
                                        have n3_ := Aside0.mk (blk_below (g := gb261) (o := .cells #[.string ((rd_T73 ((rd_T71 l0_2 x26_2).f1) x35_3).f0), .string ((rd_T73 ((rd_T71 l0_2 x26_2).f1) x35_3).f1)] 73 (0, 0)) (by (with_reducible repeat (first | refine blk_drewN ?_ _ | refine blk_drew ?_ | refine blk_alloc ?_ _)); exact BK261.out) hb)
                                        have n4_ := Aside0.mk (below_step (by repeat (first | (with_reducible first | exact HB.out | apply below_alloc | apply pw_below_drewN | apply below_drew1 | refine below_set ?_ GE250.out | refine below_set ?_ GE259.out | refine below_set ?_ GE261.out) | exact HB.out)) hb)
                                        clear HO_3
                                        clear BK250
                                        clear BK259
                                        clear BK261
                                        clear HB
                                        have HO_3 := n0_
                                        have BK250 := n1_
                                        have BK259 := n2_
                                        have BK261 := n3_
                                        have HB := n4_
                                        clear n0_ n1_ n2_ n3_ n4_
                                        (try clear hb)
                                        (try clear hb2)
                                        (try clear hk)
                                        (try clear hi)
                                        refine hK.out _ _ ⟨(blk_cell BK261.out 0).trans rfl, (blk_cell BK261.out 1).trans rfl⟩ (fun hHeld => ?_)
                                        clear hK K
                                        refine norm_ (a' := ?_) ?_ ?_
                                        rotate_left
                                        · show Act.put _ (some 46) _ = _
                                          simp only [Act.put, List.setIfInBounds_toArray, List.set_cons_zero, List.set_cons_succ, i64_w, i32_w]
                                          rfl
                                        refine pure_ (i := 8) (N := some 47) (v := ?_) (a' := ?_) #[true, true, true, true, true, true, true, true, true, false, false, false] rfl rfl (any_of HT_.out (by kernel_rfl)) (fun _ _ _ h => h) (Or.inl ⟨by rfl, ?_⟩) ?_ ?_
                                        rotate_left
                                        · intro w'
                                          go_simp
                                          with_reducible rfl
                                        rotate_left
                                        · simp only [Act.put, List.setIfInBounds_toArray, List.set_cons_zero, List.set_cons_succ, i64_w, i32_w]
                                          rfl
                                        refine pure_ (i := 9) (N := some 48) (v := ?_) (a' := ?_) #[true, true, true, true, true, true, true, true, true, true, false, false] rfl rfl (any_of HT_.out (by kernel_rfl)) (fun _ _ _ h => h) (Or.inl ⟨by rfl, ?_⟩) ?_ ?_
                                        rotate_left
                                        · intro w'
                                          go_simp
                                          with_reducible rfl
                                        rotate_left
                                        · simp only [Act.put, List.setIfInBounds_toArray, List.set_cons_zero, List.set_cons_succ, i64_w, i32_w]
                                          rfl
                                        refine pure_ (i := 10) (N := some 49) (v := ?_) (a' := ?_) #[true, true, true, true, true, true, true, true, true, true, true, false] rfl rfl (any_of HT_.out (by kernel_rfl)) (fun _ _ _ h => h) (Or.inl ⟨by rfl, ?_⟩) ?_ ?_
                                        rotate_left
                                        · intro w'
                                          go_simp
                                          with_reducible rfl
                                        rotate_left
                                        · simp only [Act.put, List.setIfInBounds_toArray, List.set_cons_zero, List.set_cons_succ, i64_w, i32_w]
                                          rfl
                                        refine pure_ (i := 11) (N := some 7) (v := ?_) (a' := ?_) #[true, true, true, true, true, true, true, true, true, true, true, true] rfl rfl (any_of HT_.out (by kernel_rfl)) (fun _ _ _ h => h) (Or.inl ⟨by rfl, ?_⟩) ?_ ?_
                                        rotate_left
                                        · intro w'
                                          go_simp
                                          with_reducible rfl
                                        rotate_left
                                        · simp only [Act.put, List.setIfInBounds_toArray, List.set_cons_zero, List.set_cons_succ, i64_w, i32_w]
                                          rfl
                                        refine done_ (done_of HT_.out (by kernel_rfl)) ?_
                                        try go_wp2
                                        go_roundg k3
                                        case measure => have := HK1.out; have := HK2.out; have := HK3.out; omega
                                        case rel => exact ⟨(x7_3 ++ (((((⟨#[91]⟩ : ByteArray) ++ ((rd_T73 ((rd_T71 l0_2 x26_2).f1) x35_3).f0)) ++ (⟨#[61]⟩ : ByteArray)) ++ t262) ++ (⟨#[93]⟩ : ByteArray))), (wrap64 (x35_3 + 1)), (by first | rfl | (simp; done) | (simp [*]; done)), (by first | rfl | (simp; done) | (simp [*]; done)), H', ⟨by have := HK1.out; have := HK2.out; have := HK3.out; omega⟩, ⟨by (with_reducible repeat (first | apply Kd.R_alloc | apply Kd.R_drewN | apply Kd.R_drew)); exact HO_3.out⟩, ⟨by (with_reducible repeat (first | refine blk_drewN ?_ _ | refine blk_drew ?_ | refine blk_alloc ?_ _)); exact BK250.out⟩, ⟨by (with_reducible repeat (first | refine blk_drewN ?_ _ | refine blk_drew ?_ | refine blk_alloc ?_ _)); exact BK259.out⟩, ⟨by repeat (first | (with_reducible first | exact HB.out | apply below_alloc | apply pw_below_drewN | apply below_drew1 | refine below_set ?_ GE250.out | refine below_set ?_ GE259.out | refine below_set ?_ GE261.out) | exact HB.out)⟩⟩
                                      · rw [if_neg c28] at H
                                        exact absurd H (by simp)
                                    · rw [if_neg c27] at H
                                      exact absurd H (by simp)
                                  · rw [if_neg c26] at H
                                    exact absurd H (by simp)
                                · rw [if_neg c24] at H
                                  exact absurd H (by simp)
                              · rw [if_neg c23] at H
                                exact absurd H (by simp)
                            · rw [if_neg c22] at H
                              exact absurd H (by simp)
                          · rw [if_neg c21] at H
                            exact absurd H (by simp)
                        · rw [if_neg c20] at H
                          have c20b0 : decide (x35_3 < (((rd_T71 l0_2 x26_2).f1).length : Int)) = false := decide_eq_false c20
                          clear c20
                          by_cases c36 : x3_2.length < 8796093022208
                          · rw [if_pos c36] at H
                            have LMc36 := Aside0.mk c36
                            clear c36
                            obtain ⟨y263, hy263⟩ : ∃ y_ : List ByteArray, y_ = (x3_2 ++ [x7_3]) := ⟨_, rfl⟩
                            replace H : (impl_FormatPath.l1 k3 y263 l0_2 (l0_2.length : Int) (wrap64 (x26_2 + 1)) a0_0 a0_1 l0_2) = some r := by first | (rw [hy263]; with_reducible exact H) | (have H2_ := (Option.bind_some _ _).symm.trans H; rw [hy263]; with_reducible exact H2_) | (have H2_ := (Option.bind_some _ _).symm.trans H; with_reducible exact H2_) | with_reducible exact H | (rw [hy263]; exact H) | exact H
                            have Ny263 := Aside0.mk hy263
                            clear hy263
                            have H' := Aside0.mk H
                            clear H
                            go_wp2_with (first | ((with_reducible refine gate_builtin (b := .append) (xs := #[.tmp 51, .tmp 53]) rfl ?_); at_builtin; refine Kd.R_append Kd.string (w0 := w) w.heap.size rfl (.tmp 51) (.tmp 53) 63 9 (.string ⟨#[]⟩) 16 rfl Try.underlying63 info9 rfl (by decide) (by omega) u3 x3_2 x7_3 [.string x7_3] (fun _ => True) (fun _ => False) rfl rfl ?aP (fun _ hk => hk.elim) ?aF ?aO ?aB ?aS ?aL ?_; (case aP => exact rfl); (case aB => exact (by repeat (first | (with_reducible first | exact HB.out | apply below_alloc | apply pw_below_drewN | apply below_drew1 | refine below_set ?_ GE250.out | refine below_set ?_ GE259.out) | exact HB.out))); (case aF => exact (fun _ _ => trivial)); (case aO => exact (by (with_reducible repeat (first | apply Kd.R_alloc | apply Kd.R_drewN | apply Kd.R_drew)); exact HO_3.out)); (case aS => exact (below_size (by repeat (first | (with_reducible first | exact HB.out | apply below_alloc | apply pw_below_drewN | apply below_drew1 | refine below_set ?_ GE250.out | refine below_set ?_ GE259.out) | exact HB.out)))); (case aL => have := LMc36.out; omega); intro v264 w37 ho hb hg hat; rw [← Ny263.out] at ho; have n0_ := Aside0.mk (blk_grown (g := gb250) (o := .cells #[.bool a0_0, .int .i64 a0_1, .slice (some ad258) l0_2.length c0_2] 29 (0, 0)) (by (with_reducible repeat (first | refine blk_drewN ?_ _ | refine blk_drew ?_ | refine blk_alloc ?_ _)); exact BK250.out) hg (Kd.R_ne HO_3.out BK250.out (by decide))); have n1_ := Aside0.mk (blk_grown (g := gb259) (o := .cells #[.string ((rd_T71 l0_2 x26_2).f0), .slice A258_1 ((rd_T71 l0_2 x26_2).f1).length c258_1] 71 (0, 0)) (by (with_reducible repeat (first | refine blk_drewN ?_ _ | refine blk_drew ?_ | refine blk_alloc ?_ _)); exact BK259.out) hg (Kd.R_ne HO_3.out BK259.out (by decide))); have n2_ := Aside0.mk (hb); have n3_ := Aside0.mk (ho); clear BK250; clear BK259; clear HB; clear HO_3; have BK250 := n0_; have BK259 := n1_; have HB := n2_; have HO265 := n3_; clear n0_ n1_ n2_ n3_; clear ho hb hg hat))
                            go_roundg k3
                            case measure => have := HK1.out; have := HK2.out; have := HK3.out; omega
                            case rel => exact ⟨(y263), (wrap64 (x26_2 + 1)), (by first | rfl | (simp; done) | (simp [*]; done)), H', ⟨by have := HK1.out; have := HK2.out; have := HK3.out; omega⟩, ⟨by (with_reducible repeat (first | apply Kd.R_alloc | apply Kd.R_drewN | apply Kd.R_drew)); exact HO265.out⟩, ⟨by (with_reducible repeat (first | refine blk_drewN ?_ _ | refine blk_drew ?_ | refine blk_alloc ?_ _)); exact BK250.out⟩, ⟨by repeat (first | (with_reducible first | exact HB.out | apply below_alloc | apply pw_below_drewN | apply below_drew1 | refine below_set ?_ GE250.out | refine below_set ?_ GE259.out) | exact HB.out)⟩⟩
                          · rw [if_neg c36] at H
                            exact absurd H (by simp)
                  · rw [if_neg c16] at H
                    exact absurd H (by simp)
                · rw [if_neg c15] at H
                  exact absurd H (by simp)
              · rw [if_neg c14] at H
                have c14b0 : decide (x26_2 < (l0_2.length : Int)) = false := decide_eq_false c14
                clear c14
                by_cases c38 : a0_0 = true
                · subst c38
                  have H1 : ((strings_Join.f x3_2 (⟨#[47]⟩ : ByteArray)).bind fun t266 => (if 1 + t266.size ≤ 9223372036854775807 then (some ((⟨#[47]⟩ : ByteArray) ++ t266)) else (none))) = some r := by rw [if_pos rfl] at H; exact H
                  clear H
                  have H := H1
                  clear H1
                  replace H := Option.bind_eq_some_iff.mp H
                  obtain ⟨t266, A390, H⟩ := H
                  replace H : (if 1 + t266.size ≤ 9223372036854775807 then (some ((⟨#[47]⟩ : ByteArray) ++ t266)) else (none)) = some r := H
                  have A39 := Aside0.mk A390
                  clear A390
                  by_cases c40 : 1 + t266.size ≤ 9223372036854775807
                  · rw [if_pos c40] at H
                    have c40b0 := eq_true c40
                    have c40b1 : decide (1 + t266.size ≤ 9223372036854775807) = true := decide_eq_true c40
                    try have c40b2 : (9223372036854775807 < 1 + t266.size) = False := eq_false (Nat.not_lt.2 c40)
                    obtain rfl := Option.some.inj H
                    have hcz41_0 : wr.cell? ⟨gb250, 0, none⟩ = some (.bool true) := (blk_cell BK250.out 0).trans rfl
                    have hcz41_1 : wr.cell? ⟨gb250, 1, none⟩ = some (.int .i64 a0_1) := (blk_cell BK250.out 1).trans rfl
                    have hcz41_2 : wr.cell? ⟨gb250, 2, none⟩ = some (.slice A0_2 l0_2.length c0_2) := (blk_cell BK250.out 2).trans rfl
                    have hfz41_0 := blk_frozen BK250.out 0
                    have hfz41_1 := blk_frozen BK250.out 1
                    have hfz41_2 := blk_frozen BK250.out 2
                    obtain ⟨Ao42, co42, eo42⟩ := Kd.R_slice HO_3.out
                    subst eo42
                    go_wp2_with (first | ((with_reducible refine gate_callee (f := 62) rfl ?_); refine goesL_ (some 59) rfl rfl Try.func62 (by kernel_rfl) rfl #[.slice Ao42 x3_2.length co42, .string (⟨#[47]⟩ : ByteArray)] rfl (by (try simp only [List.map_toArray, List.map_cons, List.map_nil]); first | done | rfl | (simp only [List.length_drop, List.length_take]; rfl)) ?_; (with_reducible refine (strings_Join.calls _ _ x3_2 (⟨#[47]⟩ : ByteArray) t266 _ ?side1 ?side2 A39.out).mono ?_); (case side1 => repeat (first | exact (Kd.R_reads' HO_3.out).2.2 | (with_reducible refine Kd.C_alloc ?_ _) | (with_reducible refine Kd.C_drewN ?_ _) | (with_reducible refine Kd.C_drew ?_))); (case side2 => exact (Kd.R_reads' HO_3.out).2.1); rintro e w43 ⟨rfl, hb⟩; refine ⟨_, rfl, ?_⟩; have n0_ := Aside0.mk (Kd.R_below (by (with_reducible repeat (first | apply Kd.R_alloc | apply Kd.R_drewN | apply Kd.R_drew)); exact HO_3.out) hb); have n1_ := Aside0.mk (blk_below (g := gb250) (o := .cells #[.bool true, .int .i64 a0_1, .slice A0_2 l0_2.length c0_2] 29 (0, 0)) (by (with_reducible repeat (first | refine blk_drewN ?_ _ | refine blk_drew ?_ | refine blk_alloc ?_ _)); exact BK250.out) hb); have n2_ := Aside0.mk (below_step (by repeat (first | (with_reducible first | exact HB.out | apply below_alloc | apply pw_below_drewN | apply below_drew1 | refine below_set ?_ GE250.out) | exact HB.out)) hb); clear HO_3; clear BK250; clear HB; have HO_3 := n0_; have BK250 := n1_; have HB := n2_; clear n0_ n1_ n2_; (try clear hb); (try clear hb2); (try clear hk); (try clear hi)))
                    go_ret
                    exact ⟨by first | rfl | (simp [errW_none, errW_some] <;> rfl) | (simp [*, errW_none, errW_some] <;> rfl) | (simp [isEmpty_ne_]; done) | (simp [*, isEmpty_ne_]; done), by repeat (first | (with_reducible first | exact HB.out | apply below_alloc | apply pw_below_drewN | apply below_drew1 | refine below_set ?_ GE250.out) | exact HB.out)⟩
                  · rw [if_neg c40] at H
                    exact absurd H (by simp)
                · replace c38 := Bool.eq_false_iff.mpr c38
                  subst c38
                  have H1 : ((strings_Join.f x3_2 (⟨#[47]⟩ : ByteArray)).bind fun t267 => (some t267)) = some r := by rw [if_neg (show ¬ (false = true) by decide)] at H; exact H
                  clear H
                  have H := H1
                  clear H1
                  replace H := Option.bind_eq_some_iff.mp H
                  obtain ⟨t267, A440, H⟩ := H
                  replace H : (some t267) = some r := H
                  have A44 := Aside0.mk A440
                  clear A440
                  obtain rfl := Option.some.inj H
                  have hcz45_0 : wr.cell? ⟨gb250, 0, none⟩ = some (.bool false) := (blk_cell BK250.out 0).trans rfl
                  have hcz45_1 : wr.cell? ⟨gb250, 1, none⟩ = some (.int .i64 a0_1) := (blk_cell BK250.out 1).trans rfl
                  have hcz45_2 : wr.cell? ⟨gb250, 2, none⟩ = some (.slice A0_2 l0_2.length c0_2) := (blk_cell BK250.out 2).trans rfl
                  have hfz45_0 := blk_frozen BK250.out 0
                  have hfz45_1 := blk_frozen BK250.out 1
                  have hfz45_2 := blk_frozen BK250.out 2
                  obtain ⟨Ao46, co46, eo46⟩ := Kd.R_slice HO_3.out
                  subst eo46
                  go_wp2_with (first | ((with_reducible refine gate_callee (f := 62) rfl ?_); refine goesL_ (some 62) rfl rfl Try.func62 (by kernel_rfl) rfl #[.slice Ao46 x3_2.length co46, .string (⟨#[47]⟩ : ByteArray)] rfl (by (try simp only [List.map_toArray, List.map_cons, List.map_nil]); first | done | rfl | (simp only [List.length_drop, List.length_take]; rfl)) ?_; (with_reducible refine (strings_Join.calls _ _ x3_2 (⟨#[47]⟩ : ByteArray) t267 _ ?side1 ?side2 A44.out).mono ?_); (case side1 => repeat (first | exact (Kd.R_reads' HO_3.out).2.2 | (with_reducible refine Kd.C_alloc ?_ _) | (with_reducible refine Kd.C_drewN ?_ _) | (with_reducible refine Kd.C_drew ?_))); (case side2 => exact (Kd.R_reads' HO_3.out).2.1); rintro e w47 ⟨rfl, hb⟩; refine ⟨_, rfl, ?_⟩; have n0_ := Aside0.mk (Kd.R_below (by (with_reducible repeat (first | apply Kd.R_alloc | apply Kd.R_drewN | apply Kd.R_drew)); exact HO_3.out) hb); have n1_ := Aside0.mk (blk_below (g := gb250) (o := .cells #[.bool false, .int .i64 a0_1, .slice A0_2 l0_2.length c0_2] 29 (0, 0)) (by (with_reducible repeat (first | refine blk_drewN ?_ _ | refine blk_drew ?_ | refine blk_alloc ?_ _)); exact BK250.out) hb); have n2_ := Aside0.mk (below_step (by repeat (first | (with_reducible first | exact HB.out | apply below_alloc | apply pw_below_drewN | apply below_drew1 | refine below_set ?_ GE250.out) | exact HB.out)) hb); clear HO_3; clear BK250; clear HB; have HO_3 := n0_; have BK250 := n1_; have HB := n2_; clear n0_ n1_ n2_; (try clear hb); (try clear hb2); (try clear hk); (try clear hi)))
                  go_ret
                  exact ⟨by first | rfl | (simp [errW_none, errW_some] <;> rfl) | (simp [*, errW_none, errW_some] <;> rfl) | (simp [isEmpty_ne_]; done) | (simp [*, isEmpty_ne_]; done), by repeat (first | (with_reducible first | exact HB.out | apply below_alloc | apply pw_below_drewN | apply below_drew1 | refine below_set ?_ GE250.out) | exact HB.out)⟩
  · replace c3 := Bool.eq_false_iff.mpr c3
    subst c3
    have H1 : (some (⟨#[]⟩ : ByteArray)) = some r := by rw [if_neg (show ¬ (false = true) by decide)] at H; exact H
    clear H
    have H := H1
    clear H1
    obtain rfl := Option.some.inj H
    go_enter Try.func34, Try.ntmps34
    go_wp2_with (first | ((with_reducible refine gate_dst (N := 1) rfl ?_); refine box_event ?hg (N := 1) ?hd (cs := #[.bool a0_0, .int .i64 a0_1, .slice A0_2 l0_2.length c0_2]) (t := 29) ?hr ?_; (case hd => rfl); (case hg => rfl); (case hr => first | (go_simp; done) | (go_simp; rfl)); intro gb250 hg w48 hbox hb; have n0_ := Aside0.mk (below_step (by repeat (first | (with_reducible first | exact HB.out | apply below_alloc | apply pw_below_drewN | apply below_drew1) | exact HB.out)) hb); have n1_ := Aside0.mk (hbox); have n2_ := Aside0.mk ((by rw [hg]; exact (below_size (by repeat (first | (with_reducible first | exact HB.out | apply below_alloc | apply pw_below_drewN | apply below_drew1) | exact HB.out))) : w.heap.size ≤ gb250)); have n3_ := Aside0.mk ((by rw [hg]; exact (below_size (by repeat (first | (with_reducible first | exact HB.out | apply below_alloc | apply pw_below_drewN | apply below_drew1) | exact HB.out))) : w.heap.size ≤ gb250)); clear HB; have HB := n0_; have BK250 := n1_; have GW250 := n2_; have GE250 := n3_; clear n0_ n1_ n2_ n3_; clear hb hbox hg; have hcz49_0 : w48.cell? ⟨gb250, 0, none⟩ = some (.bool a0_0) := (blk_cell BK250.out 0).trans rfl; have hcz49_1 : w48.cell? ⟨gb250, 1, none⟩ = some (.int .i64 a0_1) := (blk_cell BK250.out 1).trans rfl; have hcz49_2 : w48.cell? ⟨gb250, 2, none⟩ = some (.slice A0_2 l0_2.length c0_2) := (blk_cell BK250.out 2).trans rfl; have hfz49_0 := blk_frozen BK250.out 0; have hfz49_1 := blk_frozen BK250.out 1; have hfz49_2 := blk_frozen BK250.out 2) | ((with_reducible refine gate_callee (f := 13) rfl ?_); refine goesL_ (some 11) rfl rfl Try.func13 (by kernel_rfl) rfl #[.agg #[.bool a0_0, .int .i64 a0_1, .slice A0_2 l0_2.length c0_2]] rfl (by (try simp only [List.map_toArray, List.map_cons, List.map_nil]); first | done | rfl | (simp only [List.length_drop, List.length_take]; rfl)) ?_; (with_reducible refine (impl_IsPath.calls k a0_0 a0_1 _ _ l0_2 false _ ?side1 ?side2 A2.out).mono ?_); (case side1 => repeat (first | exact (Kd.C_below HR0_2.out HB.out) | (with_reducible refine Kd.C_alloc ?_ _) | (with_reducible refine Kd.C_drewN ?_ _) | (with_reducible refine Kd.C_drew ?_))); (case side2 => exact HC0_2.out); rintro e w50 ⟨rfl, hb⟩; refine ⟨_, rfl, ?_⟩; have n0_ := Aside0.mk (blk_below (g := gb250) (o := .cells #[.bool a0_0, .int .i64 a0_1, .slice A0_2 l0_2.length c0_2] 29 (0, 0)) (by (with_reducible repeat (first | refine blk_drewN ?_ _ | refine blk_drew ?_ | refine blk_alloc ?_ _)); exact BK250.out) hb); have n1_ := Aside0.mk (below_step (by repeat (first | (with_reducible first | exact HB.out | apply below_alloc | apply pw_below_drewN | apply below_drew1 | refine below_set ?_ GE250.out) | exact HB.out)) hb); clear BK250; clear HB; have BK250 := n0_; have HB := n1_; clear n0_ n1_; (try clear hb); (try clear hb2); (try clear hk); (try clear hi)))
    go_ret
    exact ⟨by first | rfl | (simp [errW_none, errW_some] <;> rfl) | (simp [*, errW_none, errW_some] <;> rfl) | (simp [isEmpty_ne_]; done) | (simp [*, isEmpty_ne_]; done), by repeat (first | (with_reducible first | exact HB.out | apply below_alloc | apply pw_below_drewN | apply below_drew1 | refine below_set ?_ GE250.out) | exact HB.out)⟩

end Go.Proofs.Ytmkhoakhfdjplaa.PFnExactFormatPath
