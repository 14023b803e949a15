/- For every string, the program's ReadInt returns what the reference's ReadInt returns. -/
import Derived.Test.YtokoikpafnbblaaPFnExactReadIntx0
import Derived.Test.YtokoikpafnbblaaPFnExactReadIntx1
import Derived.Test.YtokoikpafnbblaaPFnExactReadIntx2
import Derived.Test.YtokoikpafnbblaaBase
namespace Go.Proofs.Ytokoikpafnbblaa.Pure.LFnExactReadInt
open Go.RowKit Go.Proofs.Ytokoikpafnbblaa.PFnExactReadInt Go.Proofs.YtokoikpafnbblaaW.PrintWords Go.Proofs.YtokoikpafnbblaaW.PrintLast Go.Proofs.YtokoikpafnbblaaW.PrintMore Go.Proofs.Ytokoikpafnbblaa.Base
set_option linter.unusedVariables false
set_option linter.unusedSimpArgs false

/-! #### l1In -/
theorem spec_l1In_eq (a b c : Int) : spec_l1In.f a b c = some (decide (b ≤ a) && decide (a ≤ c)) := by
  unfold spec_l1In.f
  by_cases h : a ≥ b
  · rw [if_pos h, decide_eq_true h, Bool.true_and]
  · rw [if_neg h, decide_eq_false h, Bool.false_and]

/-! #### mRead -/
/-- The number that some digits stand for, behind others that stand for n; none where a byte is no digit, or the number is too great. -/
def mDig : Int → List Int → Option Int
  | n, [] => some n
  | n, c :: l => if 48 ≤ c ∧ c ≤ 57 then (if 10 * n + (c - 48) > 1000000000 then none else mDig (10 * n + (c - 48)) l) else none
theorem mDig_bound : ∀ (l : List Int) (n v : Int), 0 ≤ n → n ≤ 1000000000 → mDig n l = some v → 0 ≤ v ∧ v ≤ 1000000000
  | [], n, v, h0, h1, h => by
    simp only [mDig, Option.some.injEq] at h
    omega
  | c :: l, n, v, h0, h1, h => by
    simp only [mDig] at h
    split at h
    · split at h
      · cases h
      · exact mDig_bound l _ v (by omega) (by omega) h
    · cases h
def signB (c : Int) : Bool := decide (c = 45 ∨ c = 43)
/-- A number's sign and what stands behind it. -/
def mSplit : List Int → Bool × List Int
  | [] => (false, [])
  | c :: l => if c = 45 then (true, l) else if c = 43 then (false, l) else (false, c :: l)
def mEnd (b : Bool) : Option Int → Int × Bool
  | none => (0, false)
  | some v => (if b = true then -v else v, true)
def mFin (b : Bool) : List Int → Int × Bool
  | [] => (0, false)
  | c :: r => mEnd b (mDig 0 (c :: r))
def mReadL (l : List Int) : Int × Bool := mFin (mSplit l).1 (mSplit l).2
theorem bts_tail (s : ByteArray) (c : Int) (l : List Int) (h : bts s = c :: l) : bts (s.extract 1 s.size) = l := by
  rw [bts_extract, List.take_of_length_le (by rw [bts_length]; omega), h]; rfl

/-! #### spec_l1Digits -/
theorem spec_l1Digits_l0 (s : ByteArray) (hs : s.size ≤ 4611686018427387904) : ∀ (d i : Nat) (n : Int), i + d = s.size → 0 ≤ n → n ≤ 1000000000 → Ev (fun k => spec_l1Digits.l0 k s n i) (match mDig n ((bts s).drop i) with | none => (0, false) | some v => (v, decide ((s.size : Int) > 0))) := by
  intro d
  induction d with
  | zero =>
    intro i n hi h0 h1
    refine Ev.step (fun k => by rw [spec_l1Digits.l0]) ?_
    refine ev_neg (by omega) (ev_const ?_)
    rw [List.drop_eq_nil_of_le (by rw [bts_length]; omega)]; rfl
  | succ d ih =>
    intro i n hi h0 h1
    have hb := bt_range s i
    have e1 : wrap64 (bt s i) = bt s i := w64 (by omega) (by omega)
    have e2 : wrap64 ((i : Int) + 1) = ((i + 1 : Nat) : Int) := by rw [w64 (by omega) (by omega)]; omega
    refine Ev.step (fun k => by rw [spec_l1Digits.l0]) ?_
    refine ev_pos (by omega) (ev_pos (by omega) ?_)
    refine ev_let _ (spec_l1In_eq _ _ _) ?_
    rw [e1, e2, drop_cons (z := 0) (by rw [bts_length]; omega), ← Int.toNat_natCast i, ← bt_eq, Int.toNat_natCast, mDig]
    refine ev_ite (fun h => ?_) (fun h => ?_)
    · simp only [Bool.and_eq_true, decide_eq_true_eq] at h
      have e3 : wrap64 (wrap64 (10 * n) + (bt s i - 48) % 256) = 10 * n + (bt s i - 48) := by
        rw [w64 (x := 10 * n) (by omega) (by omega), Int.emod_eq_of_lt (by omega) (by omega), w64 (by omega) (by omega)]
      rw [if_pos h, e3]
      refine ev_ite (fun h2 => ?_) (fun h2 => ?_)
      · rw [if_pos h2]; exact ev_const rfl
      · rw [if_neg h2]; exact ih (i + 1) _ (by omega) (by omega) (by omega)
    · simp only [Bool.and_eq_true, decide_eq_true_eq] at h
      rw [if_neg h]; exact ev_const rfl
def mDigits (l : List Int) : Int × Bool := match mDig 0 l with | none => (0, false) | some v => (v, decide (l ≠ []))
theorem spec_l1Digits_ev (s : ByteArray) (hs : s.size ≤ 4611686018427387904) : Ev (fun k => spec_l1Digits.f k s) (mDigits (bts s)) := by
  have z := spec_l1Digits_l0 s hs s.size 0 0 (by omega) (by omega) (by omega)
  rw [List.drop_zero] at z
  have e : decide ((s.size : Int) > 0) = decide (bts s ≠ []) := by
    have := bts_length s
    cases hc : bts s with
    | nil => rw [hc, List.length_nil] at this; rw [decide_eq_false (by omega), decide_eq_false (by simp)]
    | cons c l => rw [hc, List.length_cons] at this; rw [decide_eq_true (by omega), decide_eq_true (by simp)]
  rw [e] at z
  exact z

/-! #### spec_ReadInt -/
theorem spec_ReadInt_j1 (s t : ByteArray) (b : Bool) (hb : b = decide (bt s 0 = 45)) (ht : t.size ≤ 4611686018427387904) (h : bts t ≠ [] → 0 < s.size) : Ev (fun k => spec_ReadInt.j1 k s t) (mFin b (bts t)) := by
  refine Ev.step (fun k => by rw [spec_ReadInt.j1]) ?_
  refine ev_bind _ (spec_l1Digits_ev t ht) ?_
  unfold mDigits
  cases hc : bts t with
  | nil => exact ev_neg (by simp [mDig]) (ev_const rfl)
  | cons c r =>
    rw [mFin]
    cases hd : mDig 0 (c :: r) with
    | none => exact ev_neg (by simp) (ev_const rfl)
    | some v =>
      have hv := mDig_bound (c :: r) 0 v (by omega) (by omega) hd
      have hs := h (by simp [hc])
      refine ev_pos (by simp) ?_
      refine ev_pos (by omega) ?_
      refine ev_ite (fun h2 => ?_) (fun h2 => ?_)
      · refine ev_const ?_
        rw [mEnd, if_pos (by rw [hb]; exact decide_eq_true h2)]
        simp only []
        rw [w64 (by omega) (by omega)]
      · refine ev_const ?_
        rw [mEnd, if_neg (by rw [hb, decide_eq_false h2]; decide)]
theorem spec_ReadInt_ev (s : ByteArray) (hs : s.size ≤ 4611686018427387904) : Ev (fun k => spec_ReadInt.f k s) (mReadL (bts s)) := by
  have hl := bts_length s
  simp only [spec_ReadInt.f]
  cases hc : bts s with
  | nil =>
    rw [hc, List.length_nil] at hl
    refine ev_neg (by omega) (Ev.step (fun k => by rw [spec_ReadInt.j0]) ?_)
    refine ev_neg (by simp) ?_
    have z := spec_ReadInt_j1 s s _ rfl hs (by rw [hc]; exact fun h => absurd rfl h)
    rw [hc] at z
    exact z
  | cons c l =>
    rw [hc, List.length_cons] at hl
    have ec : bt s 0 = c := by rw [bt_eq, hc]; rfl
    have e1 : (1 : Nat) ≤ s.size := by omega
    have ht := bts_tail s c l hc
    have hts : (s.extract 1 s.size).size ≤ 4611686018427387904 := by rw [← bts_length, ht]; omega
    refine ev_pos (by omega) (ev_pos (by omega) ?_)
    rw [ec]
    have hz := spec_ReadInt_j1 s (s.extract 1 s.size) _ rfl hts (fun _ => by omega)
    rw [ht, ec] at hz
    by_cases h : c = 45
    · refine ev_pos h (Ev.step (fun k => by rw [spec_ReadInt.j0]) ?_)
      refine ev_pos rfl (ev_pos (by omega) ?_)
      rw [decide_eq_true h] at hz
      rw [mReadL, mSplit, if_pos h]
      exact hz
    · refine ev_neg h (Ev.step (fun k => by rw [spec_ReadInt.j0]) ?_)
      rw [decide_eq_false h] at hz
      by_cases h2 : c = 43
      · refine ev_pos (by simp [h2]) (ev_pos (by omega) ?_)
        rw [mReadL, mSplit, if_neg h, if_pos h2]
        exact hz
      · refine ev_neg (by simp [h2]) ?_
        have z := spec_ReadInt_j1 s s _ rfl hs (fun _ => by omega)
        rw [hc, ec, decide_eq_false h] at z
        rw [mReadL, mSplit, if_neg h, if_neg h2]
        exact z

/-! #### impl_ReadInt -/
theorem impl_ReadInt_l0 (s : ByteArray) (b : Bool) (hs : s.size ≤ 4611686018427387904) : ∀ (d i : Nat) (n : Int), i + d = s.size → 0 ≤ n → n ≤ 10000000009 → Ev (fun k => impl_ReadInt.l0 k s b n i) (mEnd b (if n ≤ 1000000000 then mDig n ((bts s).drop i) else none)) := by
  intro d
  induction d with
  | zero =>
    intro i n hi h0 h1
    refine Ev.step (fun k => by rw [impl_ReadInt.l0]) ?_
    refine ev_neg (by omega) ?_
    rw [List.drop_eq_nil_of_le (by rw [bts_length]; omega)]
    refine ev_ite (fun h => ?_) (fun h => ?_)
    · rw [if_neg (show ¬ n ≤ 1000000000 by omega)]; exact ev_const rfl
    · rw [if_pos (show n ≤ 1000000000 by omega), mDig]
      cases b with
      | true =>
        refine ev_pos rfl (ev_const ?_)
        rw [w64 (by omega) (by omega)]; rfl
      | false => exact ev_neg (by simp) (ev_const rfl)
  | succ d ih =>
    intro i n hi h0 h1
    have hb := bt_range s i
    have e2 : wrap64 ((i : Int) + 1) = ((i + 1 : Nat) : Int) := by rw [w64 (by omega) (by omega)]; omega
    refine Ev.step (fun k => by rw [impl_ReadInt.l0]) ?_
    refine ev_pos (by omega) (ev_pos (by omega) ?_)
    rw [drop_cons (z := 0) (by rw [bts_length]; omega), ← Int.toNat_natCast i, ← bt_eq, Int.toNat_natCast, mDig]
    have bad : ¬ (48 ≤ bt s i ∧ bt s i ≤ 57) → Ev (fun k => impl_ReadInt.j3 k s b n i true) (mEnd b (if n ≤ 1000000000 then (if 48 ≤ bt s i ∧ bt s i ≤ 57 then (if 10 * n + (bt s i - 48) > 1000000000 then none else mDig (10 * n + (bt s i - 48)) ((bts s).drop (i + 1))) else none) else none)) := by
      intro hh
      rw [if_neg hh, ite_self]
      refine Ev.step (fun k => by rw [impl_ReadInt.j3]) ?_
      exact ev_pos rfl (ev_const rfl)
    refine ev_ite (fun h => bad (by omega)) (fun h => ?_)
    by_cases h2 : bt s i > 57
    · rw [decide_eq_true h2]; exact bad (by omega)
    · rw [decide_eq_false h2, if_pos (show 48 ≤ bt s i ∧ bt s i ≤ 57 by omega)]
      refine Ev.step (fun k => by rw [impl_ReadInt.j3]) ?_
      rw [e2]
      refine ev_neg (by simp) (ev_ite (fun h3 => ?_) (fun h3 => ?_))
      · have e3 : wrap64 (wrap64 (n * 10) + (bt s i - 48) % 256) = 10 * n + (bt s i - 48) := by
          rw [w64 (x := n * 10) (by omega) (by omega), Int.emod_eq_of_lt (by omega) (by omega), w64 (by omega) (by omega)]; omega
        rw [if_pos h3, e3]
        refine ev_pos (by omega) (ev_pos (by omega) ?_)
        have z := ih (i + 1) (10 * n + (bt s i - 48)) (by omega) (by omega) (by omega)
        by_cases h4 : 10 * n + (bt s i - 48) > 1000000000
        · rw [if_neg (by omega)] at z; rw [if_pos h4]; exact z
        · rw [if_pos (by omega)] at z; rw [if_neg h4]; exact z
      · rw [if_neg h3]
        have z := ih (i + 1) n (by omega) (by omega) (by omega)
        rw [if_neg h3] at z
        exact z
theorem impl_ReadInt_j1 (s : ByteArray) (b : Bool) (hs : s.size ≤ 4611686018427387904) : Ev (fun k => impl_ReadInt.j1 k s b) (mFin b (bts s)) := by
  have hl := bts_length s
  refine Ev.step (fun k => by rw [impl_ReadInt.j1]) ?_
  cases hc : bts s with
  | nil =>
    rw [hc, List.length_nil] at hl
    exact ev_pos (toList_nil.2 (by omega)) (ev_const rfl)
  | cons c r =>
    rw [hc, List.length_cons] at hl
    refine ev_neg (fun h => by have := toList_nil.1 h; omega) ?_
    have z := impl_ReadInt_l0 s b hs s.size 0 0 (by omega) (by omega) (by omega)
    rw [if_pos (by omega), List.drop_zero, hc] at z
    exact z
theorem impl_ReadInt_ev (s : ByteArray) (hs : s.size ≤ 4611686018427387904) : Ev (fun k => impl_ReadInt.f k s) (mReadL (bts s)) := by
  have hl := bts_length s
  simp only [impl_ReadInt.f]
  cases hc : bts s with
  | nil =>
    rw [hc, List.length_nil] at hl
    refine ev_pos (toList_nil.2 (by omega)) (Ev.step (fun k => by rw [impl_ReadInt.j0]) ?_)
    refine ev_neg (by simp) ?_
    have z := impl_ReadInt_j1 s false hs
    rw [hc] at z
    exact z
  | cons c l =>
    rw [hc, List.length_cons] at hl
    have ec : bt s 0 = c := by rw [bt_eq, hc]; rfl
    have ht := bts_tail s c l hc
    have hts : (s.extract 1 s.size).size ≤ 4611686018427387904 := by rw [← bts_length, ht]; omega
    have hz := fun b => impl_ReadInt_j1 (s.extract 1 s.size) b hts
    rw [ht] at hz
    refine ev_neg (fun h => by have := toList_nil.1 h; omega) (ev_pos (by omega) ?_)
    rw [ec]
    by_cases h : c = 45
    · refine ev_pos h (Ev.step (fun k => by rw [impl_ReadInt.j0]) ?_)
      refine ev_pos rfl (ev_pos (by omega) (ev_pos (by omega) ?_))
      rw [ec, h, mReadL, mSplit, if_pos rfl]
      exact hz true
    · refine ev_neg h (Ev.step (fun k => by rw [impl_ReadInt.j0]) ?_)
      by_cases h2 : c = 43
      · refine ev_pos (by simp [h2]) (ev_pos (by omega) (ev_pos (by omega) ?_))
        rw [ec, h2, mReadL, mSplit, if_neg (show ¬ (43 : Int) = 45 by decide), if_pos rfl]
        exact hz false
      · refine ev_neg (by simp [h2]) ?_
        have z := impl_ReadInt_j1 s false hs
        rw [hc] at z
        rw [mReadL, mSplit, if_neg h, if_neg h2]
        exact z

theorem FnExactReadInt : laws_FnExactReadInt.Pure := by
  intro s hs
  refine Ev.rounds ?_
  simp only [laws_FnExactReadInt.f]
  refine ev_ite (fun _ => ev_const rfl) (fun _ => ?_)
  refine ev_bind _ (spec_ReadInt_ev s (by omega)) (ev_bind _ (impl_ReadInt_ev s (by omega)) ?_)
  exact ev_pos (by simp) (ev_neg (by simp) (ev_const rfl))

end Go.Proofs.Ytokoikpafnbblaa.Pure.LFnExactReadInt
namespace Go.Proofs.Ytokoikpafnbblaa.Pure
theorem FnExactReadInt : PFnExactReadInt.laws_FnExactReadInt.Pure := LFnExactReadInt.FnExactReadInt
end Go.Proofs.Ytokoikpafnbblaa.Pure
