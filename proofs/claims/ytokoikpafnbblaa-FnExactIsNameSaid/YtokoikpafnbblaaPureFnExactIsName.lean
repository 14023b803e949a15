/- For every string, the program's IsName returns what the reference's IsName returns. -/
import Derived.Test.YtokoikpafnbblaaPFnExactIsNamex0
import Derived.Test.YtokoikpafnbblaaPFnExactIsNamex1
import Derived.Test.YtokoikpafnbblaaBase
namespace Go.Proofs.Ytokoikpafnbblaa.Pure.LFnExactIsName
open Go.RowKit Go.Proofs.Ytokoikpafnbblaa.PFnExactIsName Go.Proofs.YtokoikpafnbblaaW.PrintWords Go.Proofs.YtokoikpafnbblaaW.PrintLast Go.Proofs.YtokoikpafnbblaaW.PrintMore Go.Proofs.Ytokoikpafnbblaa.Base
set_option linter.unusedVariables false
set_option linter.unusedSimpArgs false

/-! #### l1In -/
theorem spec_l1In_eq (a b c : Int) : spec_l1In.f a b c = some (decide (b ≤ a) && decide (a ≤ c)) := by
  unfold spec_l1In.f
  by_cases h : a ≥ b
  · rw [if_pos h, decide_eq_true h, Bool.true_and]
  · rw [if_neg h, decide_eq_false h, Bool.false_and]

/-! #### mName -/
def lowerB (c : Int) : Bool := decide (97 ≤ c) && decide (c ≤ 122)
def digitB (c : Int) : Bool := decide (48 ≤ c) && decide (c ≤ 57)
def nameB (c : Int) : Bool := lowerB c || (digitB c || decide (c = 45))
def lastOk (s : ByteArray) : Bool := decide ((bts s).getD (s.size - 1) 0 ≠ 45)
def mIsName (s : ByteArray) : Bool :=
  match bts s with
  | [] => false
  | c :: l => (lowerB c && l.all nameB) && (decide (s.size ≤ 16) && lastOk s)

/-! #### spec_IsName -/
theorem spec_IsName_l0 (s : ByteArray) (hs : s.size ≤ 4611686018427387904) : ∀ (n i : Nat), 1 ≤ i → i + n = s.size → Ev (fun k => spec_IsName.l0 k s i) (((bts s).drop i).all nameB && (decide (s.size ≤ 16) && lastOk s)) := by
  intro n
  induction n with
  | zero =>
    intro i h1 hi
    refine Ev.step (fun k => by rw [spec_IsName.l0]) ?_
    refine ev_neg (by omega) ?_
    rw [List.drop_eq_nil_of_le (by rw [bts_length]; omega), List.all_nil, Bool.true_and]
    refine ev_let _ (spec_l1In_eq _ _ _) ?_
    have e : wrap64 ((s.size : Int) - 1) = ((s.size - 1 : Nat) : Int) := by rw [w64 (by omega) (by omega)]; omega
    rw [e]
    refine ev_ite (fun h => ?_) (fun h => ?_)
    · refine ev_pos (by omega) (ev_pos (by omega) (ev_const ?_))
      simp only [Bool.and_eq_true, decide_eq_true_eq] at h
      rw [decide_eq_true (by omega), Bool.true_and, bt_eq, lastOk, Int.toNat_natCast]
      congr 1
      simp [bne, BEq.beq]
    · refine ev_const ?_
      simp only [Bool.and_eq_true, decide_eq_true_eq] at h
      rw [decide_eq_false (by omega), Bool.false_and]
  | succ n ih =>
    intro i h1 hi
    have hb := bt_range s i
    have e1 : wrap64 (bt s i) = bt s i := w64 (by omega) (by omega)
    have e2 : wrap64 ((i : Int) + 1) = ((i + 1 : Nat) : Int) := by rw [w64 (by omega) (by omega)]; omega
    refine Ev.step (fun k => by rw [spec_IsName.l0]) ?_
    refine ev_pos (by omega) (ev_pos (by omega) ?_)
    refine ev_let _ (spec_l1In_eq _ _ _) ?_
    rw [e1, e2, drop_cons (z := 0) (by rw [bts_length]; omega), List.all_cons, ← Int.toNat_natCast i, ← bt_eq, Int.toNat_natCast]
    have z := ih (i + 1) (by omega) (by omega)
    refine ev_ite (fun h => ?_) (fun h => ?_)
    · rw [show nameB (bt s i) = true from by rw [nameB, lowerB, h, Bool.true_or], Bool.true_and]
      exact z
    · have h' := Bool.eq_false_iff.mpr h
      refine ev_neg (by omega) (ev_let _ (spec_l1In_eq _ _ _) ?_)
      refine ev_ite (fun h2 => ?_) (fun h2 => ?_)
      · rw [show nameB (bt s i) = true from by rw [nameB, digitB, h2, Bool.true_or, Bool.or_true], Bool.true_and]
        exact z
      · have h2' := Bool.eq_false_iff.mpr h2
        refine ev_ite (fun h3 => ?_) (fun h3 => ?_)
        · rw [show nameB (bt s i) = true from by rw [nameB, decide_eq_true h3, Bool.or_true, Bool.or_true], Bool.true_and]
          exact z
        · rw [show nameB (bt s i) = false from by rw [nameB, lowerB, digitB, h', h2', decide_eq_false h3]; rfl, Bool.false_and, Bool.false_and]
          exact ev_const rfl
theorem spec_IsName_ev (s : ByteArray) (hs : s.size ≤ 4611686018427387904) : Ev (fun k => spec_IsName.f k s) (mIsName s) := by
  show Ev (fun k => spec_IsName.l0 k s 0) _
  have hl := bts_length s
  have hb := bt_range s 0
  refine Ev.step (fun k => by rw [spec_IsName.l0]) ?_
  unfold mIsName
  cases hc : bts s with
  | nil =>
    rw [hc] at hl
    simp only [List.length_nil] at hl
    refine ev_neg (by omega) (ev_let _ (spec_l1In_eq _ _ _) ?_)
    exact ev_neg (by simp; omega) (ev_const rfl)
  | cons c l =>
    rw [hc] at hl
    simp only [List.length_cons] at hl
    show Ev _ ((lowerB c && l.all nameB) && (decide (s.size ≤ 16) && lastOk s))
    have ec : bt s 0 = c := by rw [bt_eq, hc]; rfl
    have hd : (bts s).drop 1 = l := by rw [hc]; rfl
    have e1 : wrap64 (bt s 0) = c := by rw [w64 (by omega) (by omega), ec]
    have e2 : wrap64 ((0 : Int) + 1) = ((1 : Nat) : Int) := by rw [w64 (by omega) (by omega)]; rfl
    refine ev_pos (by omega) (ev_pos (by omega) ?_)
    refine ev_let _ (spec_l1In_eq _ _ _) ?_
    rw [e1, e2]
    refine ev_ite (fun h => ?_) (fun h => ?_)
    · rw [show lowerB c = true from h, Bool.true_and]
      have z := spec_IsName_l0 s hs (s.size - 1) 1 (by omega) (by omega)
      rw [hd] at z
      exact z
    · rw [show lowerB c = false from Bool.eq_false_iff.mpr h, Bool.false_and, Bool.false_and]
      exact ev_pos rfl (ev_const rfl)

/-! #### isByte -/
theorem isLower_eq (c : Int) : impl_isLower.f c = some (lowerB c) := by
  unfold impl_isLower.f lowerB
  by_cases h : c ≥ 97
  · rw [if_pos h, decide_eq_true h, Bool.true_and]
  · rw [if_neg h, decide_eq_false h, Bool.false_and]
theorem isDigit_eq (c : Int) : impl_isDigit.f c = some (digitB c) := by
  unfold impl_isDigit.f digitB
  by_cases h : c ≥ 48
  · rw [if_pos h, decide_eq_true h, Bool.true_and]
  · rw [if_neg h, decide_eq_false h, Bool.false_and]
theorem isNameByte_eq (c : Int) : impl_isNameByte.f c = some (nameB c) := by
  unfold impl_isNameByte.f nameB
  rw [isLower_eq, isDigit_eq]
  simp only [Option.bind_some]
  cases lowerB c <;> cases digitB c <;> simp [BEq.beq]

/-! #### impl_IsName -/
theorem impl_IsName_l0 (s : ByteArray) (hs : s.size ≤ 16) : ∀ (n i : Nat), 1 ≤ i → i + n = s.size → Ev (fun k => impl_IsName.l0 k s i) (((bts s).drop i).all nameB && (decide (s.size ≤ 16) && lastOk s)) := by
  intro n
  induction n with
  | zero =>
    intro i h1 hi
    refine Ev.step (fun k => by rw [impl_IsName.l0]) ?_
    refine ev_neg (by omega) ?_
    rw [List.drop_eq_nil_of_le (by rw [bts_length]; omega), List.all_nil, Bool.true_and]
    have e : wrap64 ((s.size : Int) - 1) = ((s.size - 1 : Nat) : Int) := by rw [w64 (by omega) (by omega)]; omega
    rw [e]
    refine ev_pos (by omega) (ev_pos (by omega) (ev_const ?_))
    rw [decide_eq_true (by omega), Bool.true_and, bt_eq, lastOk, Int.toNat_natCast]
    congr 1
    simp [bne, BEq.beq]
  | succ n ih =>
    intro i h1 hi
    have e2 : wrap64 ((i : Int) + 1) = ((i + 1 : Nat) : Int) := by rw [w64 (by omega) (by omega)]; omega
    refine Ev.step (fun k => by rw [impl_IsName.l0]) ?_
    refine ev_pos (by omega) (ev_pos (by omega) ?_)
    refine ev_let _ (isNameByte_eq _) ?_
    rw [e2, drop_cons (z := 0) (by rw [bts_length]; omega), List.all_cons, ← Int.toNat_natCast i, ← bt_eq, Int.toNat_natCast]
    refine ev_ite (fun h => ?_) (fun h => ?_)
    · rw [h, Bool.true_and]
      exact ih (i + 1) (by omega) (by omega)
    · rw [Bool.eq_false_iff.mpr h, Bool.false_and, Bool.false_and]
      exact ev_const rfl
theorem impl_IsName_ev (s : ByteArray) (hs : s.size ≤ 4611686018427387904) : Ev (fun k => impl_IsName.f k s) (mIsName s) := by
  have hl := bts_length s
  simp only [impl_IsName.f]
  unfold mIsName
  cases hc : bts s with
  | nil =>
    rw [hc] at hl
    simp only [List.length_nil] at hl
    refine ev_pos (by omega) (Ev.step (fun k => by rw [impl_IsName.j0]) ?_)
    exact ev_pos rfl (ev_const rfl)
  | cons c l =>
    rw [hc] at hl
    simp only [List.length_cons] at hl
    show Ev _ ((lowerB c && l.all nameB) && (decide (s.size ≤ 16) && lastOk s))
    have ec : bt s 0 = c := by rw [bt_eq, hc]; rfl
    have hd : (bts s).drop 1 = l := by rw [hc]; rfl
    refine ev_neg (by omega) (ev_ite (fun h => ?_) (fun h => ?_))
    · rw [decide_eq_false (by omega), Bool.false_and, Bool.and_false]
      exact Ev.step (fun k => by rw [impl_IsName.j0]) (ev_pos rfl (ev_const rfl))
    · refine ev_pos (by omega) (ev_let _ (isLower_eq _) ?_)
      rw [ec]
      refine Ev.step (fun k => by rw [impl_IsName.j0]) (ev_ite (fun h2 => ?_) (fun h2 => ?_))
      · rw [show lowerB c = false from by simpa using h2, Bool.false_and, Bool.false_and]
        exact ev_const rfl
      · rw [show lowerB c = true from by simpa using h2, Bool.true_and]
        have z := impl_IsName_l0 s (by omega) (s.size - 1) 1 (by omega) (by omega)
        rw [hd] at z
        exact z

theorem FnExactIsName : laws_FnExactIsName.Pure := by
  intro s hs
  refine Ev.rounds ?_
  simp only [laws_FnExactIsName.f]
  refine ev_ite (fun _ => ev_const rfl) (fun _ => ?_)
  refine ev_bind _ (spec_IsName_ev s (by omega)) (ev_bind _ (impl_IsName_ev s (by omega)) ?_)
  exact ev_neg (by simp) (ev_const rfl)

end Go.Proofs.Ytokoikpafnbblaa.Pure.LFnExactIsName
namespace Go.Proofs.Ytokoikpafnbblaa.Pure
theorem FnExactIsName : PFnExactIsName.laws_FnExactIsName.Pure := LFnExactIsName.FnExactIsName
end Go.Proofs.Ytokoikpafnbblaa.Pure
