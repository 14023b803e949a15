/- For every string, the program's IsText returns what the reference's IsText returns. -/
import Derived.Test.YtokoikpafnbblaaPFnExactIsTextx1
import Derived.Test.YtokoikpafnbblaaBase
namespace Go.Proofs.Ytokoikpafnbblaa.Pure
open Go.RowKit Go.Proofs.Ytokoikpafnbblaa.PFnExactIsText Go.Proofs.YtokoikpafnbblaaW.PrintWords Go.Proofs.YtokoikpafnbblaaW.PrintLast Go.Proofs.Ytokoikpafnbblaa.Base

theorem spec_l1In_eq (a b c : Int) : spec_l1In.f a b c = some (decide (b ≤ a) && decide (a ≤ c)) := by
  unfold spec_l1In.f
  by_cases h : a ≥ b
  · rw [if_pos h, decide_eq_true h, Bool.true_and]
  · rw [if_neg h, decide_eq_false h, Bool.false_and]

def okT (c : Int) : Bool := decide (32 ≤ c) && decide (c ≤ 126)
def mIsText (s : ByteArray) : Bool := (bts s).all okT && decide ((s.size : Int) ≤ 40)

theorem spec_IsText_l0 (s : ByteArray) (hs : s.size ≤ 4611686018427387904) : ∀ (n i : Nat), i + n = s.size → Ev (fun k => spec_IsText.l0 k s i) (((bts s).drop i).all okT && decide ((s.size : Int) ≤ 40)) := by
  intro n
  induction n with
  | zero =>
    intro i hi
    refine Ev.step (fun k => by rw [spec_IsText.l0]) ?_
    refine ev_neg (by omega) (ev_const ?_)
    rw [List.drop_eq_nil_of_le (by rw [bts_length]; omega), List.all_nil, Bool.true_and]
  | succ n ih =>
    intro i hi
    have hb := bt_range s i
    have e1 : wrap64 (bt s i) = bt s i := w64 (by omega) (by omega)
    have e2 : wrap64 ((i : Int) + 1) = ((i + 1 : Nat) : Int) := by rw [w64 (by omega) (by omega)]; omega
    refine Ev.step (fun k => by rw [spec_IsText.l0]) ?_
    refine ev_pos (by omega) (ev_pos (by omega) ?_)
    refine ev_let _ (spec_l1In_eq _ _ _) ?_
    rw [e1, e2, drop_cons (z := 0) (by rw [bts_length]; omega), List.all_cons, ← Int.toNat_natCast i, ← bt_eq, Int.toNat_natCast]
    refine ev_ite (fun h => ?_) (fun h => ?_)
    · rw [show okT (bt s i) = true from h, Bool.true_and]
      exact ih (i + 1) (by omega)
    · rw [show okT (bt s i) = false from Bool.eq_false_iff.mpr h]
      exact ev_const rfl

theorem spec_IsText_ev (s : ByteArray) (hs : s.size ≤ 4611686018427387904) : Ev (fun k => spec_IsText.f k s) (mIsText s) := spec_IsText_l0 s hs s.size 0 (by omega)

theorem impl_IsText_l0 (s : ByteArray) (hs : s.size ≤ 4611686018427387904) : ∀ (n i : Nat), i + n = s.size → Ev (fun k => impl_IsText.l0 k s i) (((bts s).drop i).all okT && decide ((s.size : Int) ≤ 40)) := by
  intro n
  induction n with
  | zero =>
    intro i hi
    refine Ev.step (fun k => by rw [impl_IsText.l0]) ?_
    refine ev_neg (by omega) (ev_const ?_)
    rw [List.drop_eq_nil_of_le (by rw [bts_length]; omega), List.all_nil, Bool.true_and]
  | succ n ih =>
    intro i hi
    have hb := bt_range s i
    have e2 : wrap64 ((i : Int) + 1) = ((i + 1 : Nat) : Int) := by rw [w64 (by omega) (by omega)]; omega
    refine Ev.step (fun k => by rw [impl_IsText.l0]) ?_
    refine ev_pos (by omega) (ev_pos (by omega) ?_)
    rw [e2, drop_cons (z := 0) (by rw [bts_length]; omega), List.all_cons, ← Int.toNat_natCast i, ← bt_eq, Int.toNat_natCast]
    refine ev_ite (fun h => ?_) (fun h => ev_ite (fun h2 => ?_) (fun h2 => ?_))
    · rw [show okT (bt s i) = false from by simp only [okT, Bool.and_eq_false_iff, decide_eq_false_iff_not]; omega]
      exact ev_const rfl
    · rw [show okT (bt s i) = false from by simp only [okT, Bool.and_eq_false_iff, decide_eq_false_iff_not]; omega]
      exact ev_const rfl
    · rw [show okT (bt s i) = true from by simp only [okT, Bool.and_eq_true, decide_eq_true_eq]; omega, Bool.true_and]
      exact ih (i + 1) (by omega)

theorem impl_IsText_ev (s : ByteArray) (hs : s.size ≤ 4611686018427387904) : Ev (fun k => impl_IsText.f k s) (mIsText s) := impl_IsText_l0 s hs s.size 0 (by omega)

theorem FnExactIsText : laws_FnExactIsText.Pure := by
  intro s hs
  refine Ev.rounds ?_
  refine Ev.congr (fun k => by rw [laws_FnExactIsText.f]) ?_
  refine ev_ite (fun _ => ev_const rfl) (fun _ => ?_)
  refine ev_bind _ (spec_IsText_ev s (by omega)) ?_
  refine ev_bind _ (impl_IsText_ev s (by omega)) ?_
  exact ev_neg (by simp) (ev_const rfl)

end Go.Proofs.Ytokoikpafnbblaa.Pure
