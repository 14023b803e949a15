/- For every number of an operator and every two strings, the program's CompareAtoms returns what the reference's CompareAtoms returns. -/
import Derived.Test.YtmkhoakhfdjplaaDoorPFnExactCompareAtomsx0
import Derived.Test.YtmkhoakhfdjplaaDoorPFnExactCompareAtomsx1
import Derived.Test.YtmkhoakhfdjplaaDoorPFnExactCompareAtomsx2
import Derived.Test.YtmkhoakhfdjplaaDoorPFnExactCompareAtomsx3
import Derived.Test.YtmkhoakhfdjplaaDoorQFnExactCompareAtoms
import Derived.Test.YtmkhoakhfdjplaaDoorBase
import Derived.Test.YtmkhoakhfdjplaaDoorExt
namespace Go.Proofs.YtmkhoakhfdjplaaDoor.Pure.LFnExactCompareAtoms
open Go.RowKit Go.Proofs.YtmkhoakhfdjplaaDoor.PFnExactCompareAtoms Go.Proofs.YtmkhoakhfdjplaaDoorW.PrintWords Go.Proofs.YtmkhoakhfdjplaaDoorW.PrintLast Go.Proofs.YtmkhoakhfdjplaaDoorW.PrintMore Go.Proofs.YtmkhoakhfdjplaaDoor.Base
set_option linter.unusedVariables false
set_option linter.unusedSimpArgs false

/-! #### mRead -/
/-- The number that some digits stand for, behind others that stand for n; none where a byte is no digit, or the number is too great. -/
def mDig : Int → List Int → Option Int
  | n, [] => some n
  | n, c :: l => if 48 ≤ c ∧ c ≤ 57 then (if 10 * n + (c - 48) > 1000000000 then none else mDig (10 * n + (c - 48)) l) else none
theorem mDig_bound : ∀ (l : List Int) (n v : Int), 0 ≤ n → n ≤ 1000000000 → mDig n l = some v → 0 ≤ v ∧ v ≤ 1000000000
  | [], n, v, h0, h1, h => by
    simp only [mDig, Option.some.injEq] at h
    omega
  | c :: l, n, v, h0, h1, h => by
    simp only [mDig] at h
    split at h
    · split at h
      · cases h
      · exact mDig_bound l _ v (by omega) (by omega) h
    · cases h
def signB (c : Int) : Bool := decide (c = 45 ∨ c = 43)
/-- A number's sign and what stands behind it. -/
def mSplit : List Int → Bool × List Int
  | [] => (false, [])
  | c :: l => if c = 45 then (true, l) else if c = 43 then (false, l) else (false, c :: l)
def mEnd (b : Bool) : Option Int → Int × Bool
  | none => (0, false)
  | some v => (if b = true then -v else v, true)
def mFin (b : Bool) : List Int → Int × Bool
  | [] => (0, false)
  | c :: r => mEnd b (mDig 0 (c :: r))
def mReadL (l : List Int) : Int × Bool := mFin (mSplit l).1 (mSplit l).2
theorem bts_tail (s : ByteArray) (c : Int) (l : List Int) (h : bts s = c :: l) : bts (s.extract 1 s.size) = l := by
  rw [bts_extract, List.take_of_length_le (by rw [bts_length]; omega), h]; rfl

/-! #### mItoa -/
/-! decimal numerals -/
def itoaS (n : Int) : ByteArray := ⟨(Lib.itoa n).toArray⟩
def digs (u : Nat) : List UInt8 := if u = 0 then [] else Lib.decDigits u
theorem digs_step {u : Nat} (h : u ≠ 0) : digs u = digs (u / 10) ++ [UInt8.ofNat (48 + u % 10)] := by
  unfold digs
  rw [if_neg h]
  by_cases h2 : u < 10
  · rw [if_pos (show u / 10 = 0 by omega), Lib.decDigits_one h2, Nat.mod_eq_of_lt h2]; rfl
  · rw [if_neg (show ¬ u / 10 = 0 by omega), Lib.decDigits, dif_neg h2]
theorem impl_FormatInt_eq (n : Int) (h0 : -9223372036854775808 ≤ n) (h1 : n ≤ 9223372036854775807) : impl_FormatInt.f n = some (itoaS n) := by
  unfold impl_FormatInt.f strconv_Itoa.f
  rw [if_pos h0, if_pos h1]; rfl

/-! #### mParse -/
theorem mReadL_bound (l : List Int) : -1000000000 ≤ (mReadL l).1 ∧ (mReadL l).1 ≤ 1000000000 := by
  unfold mReadL
  generalize (mSplit l).1 = b
  cases (mSplit l).2 with
  | nil => simp [mFin]
  | cons c r =>
    simp only [mFin]
    cases h : mDig 0 (c :: r) with
    | none => simp [mEnd]
    | some v =>
      have := mDig_bound _ _ _ (by omega) (by omega) h
      cases b <;> simp [mEnd] <;> omega
/-- The number that a string stands for, written as the program writes numbers. -/
def mParse (s : ByteArray) : Int × Bool := if (mReadL (bts s)).2 = true ∧ itoaS (mReadL (bts s)).1 = s then ((mReadL (bts s)).1, true) else (0, false)
theorem mParse_bound (s : ByteArray) : -1000000000 ≤ (mParse s).1 ∧ (mParse s).1 ≤ 1000000000 := by
  have := mReadL_bound (bts s)
  unfold mParse
  split <;> simp <;> omega
theorem decDigits_mem : ∀ (n u : Nat), u ≤ n → ∀ c ∈ Lib.decDigits u, 48 ≤ c.toNat ∧ c.toNat ≤ 57 := by
  have one : ∀ d : Nat, d < 10 → 48 ≤ (UInt8.ofNat (48 + d)).toNat ∧ (UInt8.ofNat (48 + d)).toNat ≤ 57 := by
    intro d hd
    rw [UInt8.toNat_ofNat']
    omega
  intro n
  induction n with
  | zero =>
    intro u hu c hc
    rw [Lib.decDigits_one (by omega), List.mem_singleton] at hc
    subst hc
    exact one u (by omega)
  | succ n ih =>
    intro u hu c hc
    by_cases h : u < 10
    · rw [Lib.decDigits_one h, List.mem_singleton] at hc
      subst hc
      exact one u h
    · rw [Lib.decDigits, dif_neg h, List.mem_append, List.mem_singleton] at hc
      rcases hc with hc | rfl
      · exact ih (u / 10) (by omega) c hc
      · exact one (u % 10) (by omega)
theorem bts_itoaS (n : Int) : bts (itoaS n) = (Lib.itoa n).map fun c => (c.toNat : Int) := rfl
theorem itoaS_no_plus (n : Int) (l : List Int) : bts (itoaS n) ≠ 43 :: l := by
  rw [bts_itoaS]
  unfold Lib.itoa
  split
  · intro h
    simp only [List.map_cons, List.cons.injEq] at h
    exact absurd h.1 (by decide)
  · intro h
    cases hd : Lib.decDigits n.toNat with
    | nil => rw [hd] at h; cases h
    | cons c r =>
      have := decDigits_mem _ _ (Nat.le_refl _) c (by rw [hd]; exact List.mem_cons_self)
      rw [hd, List.map_cons, List.cons.injEq] at h
      omega

/-! #### l1In -/
theorem spec_l1In_eq (a b c : Int) : spec_l1In.f a b c = some (decide (b ≤ a) && decide (a ≤ c)) := by
  unfold spec_l1In.f
  by_cases h : a ≥ b
  · rw [if_pos h, decide_eq_true h, Bool.true_and]
  · rw [if_neg h, decide_eq_false h, Bool.false_and]

/-! #### spec_l1Digits -/
theorem spec_l1Digits_l0 (s : ByteArray) (hs : s.size ≤ 4611686018427387904) : ∀ (d i : Nat) (n : Int), i + d = s.size → 0 ≤ n → n ≤ 1000000000 → Ev (fun k => spec_l1Digits.l0 k s n i) (match mDig n ((bts s).drop i) with | none => (0, false) | some v => (v, decide ((s.size : Int) > 0))) := by
  intro d
  induction d with
  | zero =>
    intro i n hi h0 h1
    refine Ev.step (fun k => by rw [spec_l1Digits.l0]) ?_
    refine ev_neg (by omega) (ev_const ?_)
    rw [List.drop_eq_nil_of_le (by rw [bts_length]; omega)]; rfl
  | succ d ih =>
    intro i n hi h0 h1
    have hb := bt_range s i
    have e1 : wrap64 (bt s i) = bt s i := w64 (by omega) (by omega)
    have e2 : wrap64 ((i : Int) + 1) = ((i + 1 : Nat) : Int) := by rw [w64 (by omega) (by omega)]; omega
    refine Ev.step (fun k => by rw [spec_l1Digits.l0]) ?_
    refine ev_pos (by omega) (ev_pos (by omega) ?_)
    refine ev_let _ (spec_l1In_eq _ _ _) ?_
    rw [e1, e2, drop_cons (z := 0) (by rw [bts_length]; omega), ← Int.toNat_natCast i, ← bt_eq, Int.toNat_natCast, mDig]
    refine ev_ite (fun h => ?_) (fun h => ?_)
    · simp only [Bool.and_eq_true, decide_eq_true_eq] at h
      have e3 : wrap64 (wrap64 (10 * n) + (bt s i - 48) % 256) = 10 * n + (bt s i - 48) := by
        rw [w64 (x := 10 * n) (by omega) (by omega), Int.emod_eq_of_lt (by omega) (by omega), w64 (by omega) (by omega)]
      rw [if_pos h, e3]
      refine ev_ite (fun h2 => ?_) (fun h2 => ?_)
      · rw [if_pos h2]; exact ev_const rfl
      · rw [if_neg h2]; exact ih (i + 1) _ (by omega) (by omega) (by omega)
    · simp only [Bool.and_eq_true, decide_eq_true_eq] at h
      rw [if_neg h]; exact ev_const rfl
def mDigits (l : List Int) : Int × Bool := match mDig 0 l with | none => (0, false) | some v => (v, decide (l ≠ []))
theorem spec_l1Digits_ev (s : ByteArray) (hs : s.size ≤ 4611686018427387904) : Ev (fun k => spec_l1Digits.f k s) (mDigits (bts s)) := by
  have z := spec_l1Digits_l0 s hs s.size 0 0 (by omega) (by omega) (by omega)
  rw [List.drop_zero] at z
  have e : decide ((s.size : Int) > 0) = decide (bts s ≠ []) := by
    have := bts_length s
    cases hc : bts s with
    | nil => rw [hc, List.length_nil] at this; rw [decide_eq_false (by omega), decide_eq_false (by simp)]
    | cons c l => rw [hc, List.length_cons] at this; rw [decide_eq_true (by omega), decide_eq_true (by simp)]
  rw [e] at z
  exact z

/-! #### spec_FormatInt -/
def finS (n : Int) (l : List UInt8) : ByteArray := ⟨((if n < 0 then [45] else []) ++ l).toArray⟩
theorem data_app (a b : ByteArray) : (a ++ b).data.toList = a.data.toList ++ b.data.toList := by rw [ByteArray.data_append]; simp
theorem spec_FormatInt_l0 (n : Int) : ∀ (d : Nat) (x : Int) (s : ByteArray), x.natAbs < 10 ^ d → x.natAbs ≤ 9223372036854775808 → s.size + d ≤ 100 → Ev (fun k => spec_FormatInt.l0 k n s x) (finS n (digs x.natAbs ++ s.data.toList)) := by
  have done : ∀ (s : ByteArray), s.size ≤ 100 → Ev (fun k => spec_FormatInt.l0 k n s 0) (finS n (digs (0 : Int).natAbs ++ s.data.toList)) := by
    intro s hs
    refine Ev.step (fun k => by rw [spec_FormatInt.l0]) (ev_pos rfl ?_)
    refine ev_ite (fun h => ev_pos (by omega) (ev_const ?_)) (fun h => ev_const ?_)
    · refine congrArg some (bytes_ext ?_)
      rw [data_app]; simp [finS, h, digs]
    · refine congrArg some (bytes_ext ?_)
      simp [finS, h, digs]
  intro d
  induction d with
  | zero =>
    intro x s hx hb hs
    have : x = 0 := by simp at hx; omega
    subst this
    exact done s (by omega)
  | succ d ih =>
    intro x s hx hb hs
    by_cases h0 : x = 0
    · subst h0; exact done s (by omega)
    have hc : ∀ c : Int, c = ((48 + x.natAbs % 10 : Nat) : Int) → (strOfNums [c] ++ s).data.toList = UInt8.ofNat (48 + x.natAbs % 10) :: s.data.toList ∧ (strOfNums [c]).size = 1 ∧ (strOfNums [c] ++ s).size = s.size + 1 := by
      intro c hc
      subst hc
      have e1 : (strOfNums [((48 + x.natAbs % 10 : Nat) : Int)]).size = 1 := by rw [size_str]; rfl
      refine ⟨?_, e1, by rw [ByteArray.size_append, e1]; omega⟩
      rw [data_app]
      show [UInt8.ofNat (((48 + x.natAbs % 10 : Nat) : Int)).toNat] ++ _ = _
      rw [Int.toNat_natCast]; rfl
    have hd : (Int.tdiv x 10).natAbs = x.natAbs / 10 := by rw [Int.natAbs_tdiv]; rfl
    have hp : x.natAbs / 10 < 10 ^ d := by rw [Nat.pow_succ] at hx; omega
    have next : ∀ c : Int, c = ((48 + x.natAbs % 10 : Nat) : Int) → wrap64 (Int.tdiv x 10) = Int.tdiv x 10 → Ev (fun k => (some ([c] : List Int)).bind fun y => (if (strOfNums y).size + s.size ≤ 9223372036854775807 then spec_FormatInt.l0 k n (strOfNums y ++ s) (wrap64 (Int.tdiv x 10)) else none)) (finS n (digs x.natAbs ++ s.data.toList)) := by
      intro c hc' hw
      obtain ⟨h1, h2, h3⟩ := hc c hc'
      refine ev_let _ rfl (ev_pos (by rw [h2]; omega) ?_)
      rw [hw]
      have z := ih (Int.tdiv x 10) (strOfNums [c] ++ s) (by rw [hd]; exact hp) (by rw [hd]; omega) (by rw [h3]; omega)
      rw [hd, h1] at z
      rw [digs_step (show x.natAbs ≠ 0 by omega), List.append_assoc]
      exact z
    refine Ev.step (fun k => by rw [spec_FormatInt.l0]) (ev_neg h0 ?_)
    have q1 : ∀ m : Nat, Int.tmod (m : Int) 10 = ((m % 10 : Nat) : Int) := fun _ => rfl
    have q2 : ∀ m : Nat, Int.tdiv (m : Int) 10 = ((m / 10 : Nat) : Int) := fun _ => rfl
    rcases Int.natAbs_eq x with hx' | hx'
    · have e1 : Int.tmod x 10 = ((x.natAbs % 10 : Nat) : Int) := by conv => lhs; rw [hx', q1]
      have e2 : Int.tdiv x 10 = ((x.natAbs / 10 : Nat) : Int) := by conv => lhs; rw [hx', q2]
      rw [e1]
      refine ev_neg (by omega) (next _ ?_ (by rw [e2]; exact w64 (by omega) (by omega)))
      rw [w64 (by omega) (by omega)]; omega
    · have e1 : Int.tmod x 10 = -((x.natAbs % 10 : Nat) : Int) := by conv => lhs; rw [hx', Int.neg_tmod, q1]
      have e2 : Int.tdiv x 10 = -((x.natAbs / 10 : Nat) : Int) := by conv => lhs; rw [hx', Int.neg_tdiv, q2]
      rw [e1]
      by_cases h1 : x.natAbs % 10 = 0
      · rw [h1]
        refine ev_neg (by omega) (next _ ?_ (by rw [e2]; exact w64 (by omega) (by omega)))
        rw [h1, w64 (by omega) (by omega)]; omega
      · refine ev_pos (by omega) (next _ ?_ (by rw [e2]; exact w64 (by omega) (by omega)))
        rw [Int.neg_neg, w64 (x := ((x.natAbs % 10 : Nat) : Int)) (by omega) (by omega), w64 (by omega) (by omega)]; omega
theorem finS_eq {n : Int} (h : n ≠ 0) : finS n (digs n.natAbs ++ (⟨#[]⟩ : ByteArray).data.toList) = itoaS n := by
  unfold finS itoaS Lib.itoa digs
  rw [if_neg (show ¬ n.natAbs = 0 by omega)]
  by_cases h1 : n < 0
  · simp [h1]
  · simp [h1, show n.natAbs = n.toNat by omega]
theorem itoaS_zero : itoaS 0 = ⟨#[48]⟩ := by
  unfold itoaS Lib.itoa
  rw [if_neg (by decide), show (0 : Int).toNat = 0 from rfl, Lib.decDigits_one (by decide)]; rfl
theorem spec_FormatInt_ev (n : Int) (h0 : -9223372036854775808 ≤ n) (h1 : n ≤ 9223372036854775807) : Ev (fun k => spec_FormatInt.f k n) (itoaS n) := by
  simp only [spec_FormatInt.f]
  by_cases h : n = 0
  · subst h
    exact ev_pos rfl (ev_const (by rw [itoaS_zero]))
  · refine ev_neg h ?_
    rw [← finS_eq h]
    exact spec_FormatInt_l0 n 19 n ⟨#[]⟩ (by have e : (10 : Nat) ^ 19 = 10000000000000000000 := by decide
                                             omega) (by omega) (by show 0 + 19 ≤ 100; omega)

/-! #### spec_ParseInt -/
def sgn (b : Bool) (v : Int) : Int := if b = true then -v else v
def mPar (b : Bool) (s : ByteArray) (r : Int × Bool) : Int × Bool := if r.2 = true ∧ itoaS (sgn b r.1) = s then (sgn b r.1, true) else (0, false)
theorem mDigits_bound (l : List Int) : 0 ≤ (mDigits l).1 ∧ (mDigits l).1 ≤ 1000000000 := by
  unfold mDigits
  cases h : mDig 0 l with
  | none => simp
  | some v =>
    have := mDig_bound _ _ _ (by omega) (by omega) h
    simp; omega
theorem spec_ParseInt_j1 (s t : ByteArray) (b : Bool) (ht : t.size ≤ 4611686018427387904) : Ev (fun k => spec_ParseInt.j1 k s b t) (mPar b s (mDigits (bts t))) := by
  have hb := mDigits_bound (bts t)
  refine Ev.step (fun k => by rw [spec_ParseInt.j1]) ?_
  refine ev_bind _ (spec_l1Digits_ev t ht) ?_
  have en : wrap64 (-(mDigits (bts t)).1) = -(mDigits (bts t)).1 := w64 (by omega) (by omega)
  rw [en]
  have fin : ∀ v : Int, sgn b (mDigits (bts t)).1 = v → Ev (fun k => if (mDigits (bts t)).2 = true then ((spec_FormatInt.f k v).bind fun y => (if y.toList = s.toList then (some (v, true)) else (some (0, false)))) else (some (0, false))) (mPar b s (mDigits (bts t))) := by
    intro v hv
    unfold mPar
    rw [hv]
    have hv2 : -1000000000 ≤ v ∧ v ≤ 1000000000 := by rw [← hv]; unfold sgn; split <;> omega
    by_cases h : (mDigits (bts t)).2 = true
    · refine ev_pos h (ev_bind _ (spec_FormatInt_ev v (by omega) (by omega)) ?_)
      by_cases h2 : itoaS v = s
      · rw [if_pos (show (mDigits (bts t)).2 = true ∧ itoaS v = s from ⟨h, h2⟩)]; exact ev_pos (toList_eq.2 h2) (ev_const rfl)
      · rw [if_neg (show ¬ ((mDigits (bts t)).2 = true ∧ itoaS v = s) from fun z => h2 z.2)]; exact ev_neg (fun z => h2 (toList_eq.1 z)) (ev_const rfl)
    · rw [if_neg (show ¬ ((mDigits (bts t)).2 = true ∧ itoaS v = s) from fun z => h z.1)]; exact ev_neg h (ev_const rfl)
  cases b with
  | true => exact ev_pos rfl (fin _ rfl)
  | false => exact ev_neg (by simp) (fin _ rfl)
theorem mPar_nil (b : Bool) (s : ByteArray) : mPar b s (mDigits []) = (0, false) := by simp [mPar, mDigits, mDig]
theorem mPar_cons (b : Bool) (s : ByteArray) (c : Int) (r : List Int) : mPar b s (mDigits (c :: r)) = if (mFin b (c :: r)).2 = true ∧ itoaS (mFin b (c :: r)).1 = s then ((mFin b (c :: r)).1, true) else (0, false) := by
  have hx : mDig 0 (c :: r) = none ∨ ∃ v, mDig 0 (c :: r) = some v := by cases mDig 0 (c :: r) <;> simp
  rcases hx with h | ⟨v, h⟩
  · simp [mPar, mDigits, mFin, h, mEnd]
  · simp [mPar, mDigits, mFin, h, mEnd, sgn]
theorem spec_ParseInt_ev (s : ByteArray) (hs : s.size ≤ 4611686018427387904) : Ev (fun k => spec_ParseInt.f k s) (mParse s) := by
  have hl := bts_length s
  simp only [spec_ParseInt.f]
  cases hc : bts s with
  | nil =>
    rw [hc, List.length_nil] at hl
    refine ev_neg (by omega) (Ev.step (fun k => by rw [spec_ParseInt.j0]) (ev_neg (by simp) ?_))
    have z := spec_ParseInt_j1 s s false hs
    rw [hc, mPar_nil] at z
    have e : mParse s = (0, false) := by simp [mParse, hc, mReadL, mSplit, mFin]
    rw [e]; exact z
  | cons c l =>
    rw [hc, List.length_cons] at hl
    have ec : bt s 0 = c := by rw [bt_eq, hc]; rfl
    refine ev_pos (by omega) (ev_pos (by omega) ?_)
    rw [ec]
    have hm : mParse s = if (mReadL (c :: l)).2 = true ∧ itoaS (mReadL (c :: l)).1 = s then ((mReadL (c :: l)).1, true) else (0, false) := by unfold mParse; rw [hc]
    by_cases h : c = 45
    · subst h
      refine Ev.step (fun k => by rw [spec_ParseInt.j0]) (ev_pos (by simp) (ev_pos (by omega) ?_))
      have ht := bts_tail s 45 l hc
      have hts : (s.extract 1 s.size).size ≤ 4611686018427387904 := by rw [← bts_length, ht]; omega
      have z := spec_ParseInt_j1 s (s.extract 1 s.size) true hts
      rw [ht] at z
      rw [hm]
      have e : mReadL (45 :: l) = mFin true l := rfl
      rw [e]
      cases l with
      | nil => rw [mPar_nil] at z; simpa [mFin] using z
      | cons c r => rw [mPar_cons] at z; exact z
    · refine Ev.step (fun k => by rw [spec_ParseInt.j0]) (ev_neg (by simp [h]) ?_)
      have z := spec_ParseInt_j1 s s false hs
      rw [hc] at z
      have hq : (c == 45) = false := by simp [h]
      rw [hq]
      by_cases h2 : c = 43
      · subst h2
        have e : mPar false s (mDigits (43 :: l)) = (0, false) := by simp [mPar, mDigits, mDig]
        rw [e] at z
        rw [hm, if_neg (fun q => itoaS_no_plus _ l (by rw [q.2, hc]))]
        exact z
      · rw [mPar_cons] at z
        have e : mReadL (c :: l) = mFin false (c :: l) := by rw [mReadL, mSplit, if_neg h, if_neg h2]
        rw [hm, e]
        exact z

/-! #### impl_ReadInt -/
theorem impl_ReadInt_l0 (s : ByteArray) (b : Bool) (hs : s.size ≤ 4611686018427387904) : ∀ (d i : Nat) (n : Int), i + d = s.size → 0 ≤ n → n ≤ 10000000009 → Ev (fun k => impl_ReadInt.l0 k s b n i) (mEnd b (if n ≤ 1000000000 then mDig n ((bts s).drop i) else none)) := by
  intro d
  induction d with
  | zero =>
    intro i n hi h0 h1
    refine Ev.step (fun k => by rw [impl_ReadInt.l0]) ?_
    refine ev_neg (by omega) ?_
    rw [List.drop_eq_nil_of_le (by rw [bts_length]; omega)]
    refine ev_ite (fun h => ?_) (fun h => ?_)
    · rw [if_neg (show ¬ n ≤ 1000000000 by omega)]; exact ev_const rfl
    · rw [if_pos (show n ≤ 1000000000 by omega), mDig]
      cases b with
      | true =>
        refine ev_pos rfl (ev_const ?_)
        rw [w64 (by omega) (by omega)]; rfl
      | false => exact ev_neg (by simp) (ev_const rfl)
  | succ d ih =>
    intro i n hi h0 h1
    have hb := bt_range s i
    have e2 : wrap64 ((i : Int) + 1) = ((i + 1 : Nat) : Int) := by rw [w64 (by omega) (by omega)]; omega
    refine Ev.step (fun k => by rw [impl_ReadInt.l0]) ?_
    refine ev_pos (by omega) (ev_pos (by omega) ?_)
    rw [drop_cons (z := 0) (by rw [bts_length]; omega), ← Int.toNat_natCast i, ← bt_eq, Int.toNat_natCast, mDig]
    have bad : ¬ (48 ≤ bt s i ∧ bt s i ≤ 57) → Ev (fun k => impl_ReadInt.j3 k s b n i true) (mEnd b (if n ≤ 1000000000 then (if 48 ≤ bt s i ∧ bt s i ≤ 57 then (if 10 * n + (bt s i - 48) > 1000000000 then none else mDig (10 * n + (bt s i - 48)) ((bts s).drop (i + 1))) else none) else none)) := by
      intro hh
      rw [if_neg hh, ite_self]
      refine Ev.step (fun k => by rw [impl_ReadInt.j3]) ?_
      exact ev_pos rfl (ev_const rfl)
    refine ev_ite (fun h => bad (by omega)) (fun h => ?_)
    by_cases h2 : bt s i > 57
    · rw [decide_eq_true h2]; exact bad (by omega)
    · rw [decide_eq_false h2, if_pos (show 48 ≤ bt s i ∧ bt s i ≤ 57 by omega)]
      refine Ev.step (fun k => by rw [impl_ReadInt.j3]) ?_
      rw [e2]
      refine ev_neg (by simp) (ev_ite (fun h3 => ?_) (fun h3 => ?_))
      · have e3 : wrap64 (wrap64 (n * 10) + (bt s i - 48) % 256) = 10 * n + (bt s i - 48) := by
          rw [w64 (x := n * 10) (by omega) (by omega), Int.emod_eq_of_lt (by omega) (by omega), w64 (by omega) (by omega)]; omega
        rw [if_pos h3, e3]
        refine ev_pos (by omega) (ev_pos (by omega) ?_)
        have z := ih (i + 1) (10 * n + (bt s i - 48)) (by omega) (by omega) (by omega)
        by_cases h4 : 10 * n + (bt s i - 48) > 1000000000
        · rw [if_neg (by omega)] at z; rw [if_pos h4]; exact z
        · rw [if_pos (by omega)] at z; rw [if_neg h4]; exact z
      · rw [if_neg h3]
        have z := ih (i + 1) n (by omega) (by omega) (by omega)
        rw [if_neg h3] at z
        exact z
theorem impl_ReadInt_j1 (s : ByteArray) (b : Bool) (hs : s.size ≤ 4611686018427387904) : Ev (fun k => impl_ReadInt.j1 k s b) (mFin b (bts s)) := by
  have hl := bts_length s
  refine Ev.step (fun k => by rw [impl_ReadInt.j1]) ?_
  cases hc : bts s with
  | nil =>
    rw [hc, List.length_nil] at hl
    exact ev_pos (toList_nil.2 (by omega)) (ev_const rfl)
  | cons c r =>
    rw [hc, List.length_cons] at hl
    refine ev_neg (fun h => by have := toList_nil.1 h; omega) ?_
    have z := impl_ReadInt_l0 s b hs s.size 0 0 (by omega) (by omega) (by omega)
    rw [if_pos (by omega), List.drop_zero, hc] at z
    exact z
theorem impl_ReadInt_ev (s : ByteArray) (hs : s.size ≤ 4611686018427387904) : Ev (fun k => impl_ReadInt.f k s) (mReadL (bts s)) := by
  have hl := bts_length s
  simp only [impl_ReadInt.f]
  cases hc : bts s with
  | nil =>
    rw [hc, List.length_nil] at hl
    refine ev_pos (toList_nil.2 (by omega)) (Ev.step (fun k => by rw [impl_ReadInt.j0]) ?_)
    refine ev_neg (by simp) ?_
    have z := impl_ReadInt_j1 s false hs
    rw [hc] at z
    exact z
  | cons c l =>
    rw [hc, List.length_cons] at hl
    have ec : bt s 0 = c := by rw [bt_eq, hc]; rfl
    have ht := bts_tail s c l hc
    have hts : (s.extract 1 s.size).size ≤ 4611686018427387904 := by rw [← bts_length, ht]; omega
    have hz := fun b => impl_ReadInt_j1 (s.extract 1 s.size) b hts
    rw [ht] at hz
    refine ev_neg (fun h => by have := toList_nil.1 h; omega) (ev_pos (by omega) ?_)
    rw [ec]
    by_cases h : c = 45
    · refine ev_pos h (Ev.step (fun k => by rw [impl_ReadInt.j0]) ?_)
      refine ev_pos rfl (ev_pos (by omega) (ev_pos (by omega) ?_))
      rw [ec, h, mReadL, mSplit, if_pos rfl]
      exact hz true
    · refine ev_neg h (Ev.step (fun k => by rw [impl_ReadInt.j0]) ?_)
      by_cases h2 : c = 43
      · refine ev_pos (by simp [h2]) (ev_pos (by omega) (ev_pos (by omega) ?_))
        rw [ec, h2, mReadL, mSplit, if_neg (show ¬ (43 : Int) = 45 by decide), if_pos rfl]
        exact hz false
      · refine ev_neg (by simp [h2]) ?_
        have z := impl_ReadInt_j1 s false hs
        rw [hc] at z
        rw [mReadL, mSplit, if_neg h, if_neg h2]
        exact z

/-! #### impl_ParseInt -/
theorem impl_ParseInt_ev (s : ByteArray) (hs : s.size ≤ 4611686018427387904) : Ev (fun k => impl_ParseInt.f k s) (mParse s) := by
  have hb := mReadL_bound (bts s)
  simp only [impl_ParseInt.f]
  refine ev_bind _ (impl_ReadInt_ev s hs) ?_
  unfold mParse
  by_cases h : (mReadL (bts s)).2 = true
  · refine ev_pos h (ev_let _ (impl_FormatInt_eq _ (by omega) (by omega)) ?_)
    by_cases h2 : itoaS (mReadL (bts s)).1 = s
    · rw [if_pos (show (mReadL (bts s)).2 = true ∧ itoaS (mReadL (bts s)).1 = s from ⟨h, h2⟩)]; exact ev_pos (toList_eq.2 h2) (ev_const rfl)
    · rw [if_neg (show ¬ ((mReadL (bts s)).2 = true ∧ itoaS (mReadL (bts s)).1 = s) from fun z => h2 z.2)]; exact ev_neg (fun z => h2 (toList_eq.1 z)) (ev_const rfl)
  · rw [if_neg (show ¬ ((mReadL (bts s)).2 = true ∧ itoaS (mReadL (bts s)).1 = s) from fun z => h z.1)]; exact ev_neg h (ev_const rfl)

/-! #### CompareAtoms -/
theorem ev_both {α : Type} {c : Prop} [Decidable c] {g f : Nat → Option α} {a b : α} (h : c → Ev g a) (h' : ¬ c → Ev f b) : Ev (fun k => if c then g k else f k) (if c then a else b) := by
  by_cases hc : c
  · simp only [if_pos hc]; exact h hc
  · simp only [if_neg hc]; exact h' hc
def mCmp (op : Int) (a b : ByteArray) : Bool :=
  if op = 8 then a.toList == b.toList else if op = 9 then a.toList != b.toList else
  if (mParse a).2 = true ∧ (mParse b).2 = true then
    (if op = 10 then decide ((mParse a).1 < (mParse b).1) else if op = 11 then decide ((mParse a).1 ≤ (mParse b).1) else if op = 12 then decide ((mParse a).1 > (mParse b).1) else if op = 13 then decide ((mParse a).1 ≥ (mParse b).1) else false) else false
theorem spec_CompareAtoms_ev (op : Int) (a b : ByteArray) (ha : a.size ≤ 4611686018427387904) (hb : b.size ≤ 4611686018427387904) : Ev (fun k => spec_CompareAtoms.f k op a b) (mCmp op a b) := by
  simp only [spec_CompareAtoms.f]
  unfold mCmp
  refine ev_both (fun _ => ev_const rfl) fun _ => ev_both (fun _ => ev_const rfl) fun _ => (ev_bind _ (spec_ParseInt_ev a ha) (ev_bind _ (spec_ParseInt_ev b hb) ?_))
  generalize mParse a = p
  generalize mParse b = q
  obtain ⟨x, s⟩ := p
  obtain ⟨y, t⟩ := q
  cases s with
  | false =>
    rw [if_neg (show ¬ (false = true ∧ t = true) by simp)]
    exact ev_neg (by simp) (Ev.step (fun k => by rw [spec_CompareAtoms.j0]) (ev_pos rfl (ev_const rfl)))
  | true =>
    refine ev_pos rfl (Ev.step (fun k => by rw [spec_CompareAtoms.j0]) ?_)
    cases t with
    | false =>
      rw [if_neg (show ¬ (true = true ∧ false = true) by simp)]
      exact ev_pos rfl (ev_const rfl)
    | true =>
      rw [if_pos (show (true = true ∧ true = true) from ⟨rfl, rfl⟩)]
      refine ev_neg (by simp) ?_
      exact ev_both (fun _ => ev_const rfl) fun _ => ev_both (fun _ => ev_const rfl) fun _ => ev_both (fun _ => ev_const rfl) fun _ => ev_both (fun _ => ev_const rfl) fun _ => ev_const rfl
theorem impl_CompareAtoms_ev (op : Int) (a b : ByteArray) (ha : a.size ≤ 4611686018427387904) (hb : b.size ≤ 4611686018427387904) : Ev (fun k => impl_CompareAtoms.f k op a b) (mCmp op a b) := by
  simp only [impl_CompareAtoms.f]
  refine ev_bind _ (impl_ParseInt_ev a ha) (ev_bind _ (impl_ParseInt_ev b hb) ?_)
  unfold mCmp
  generalize mParse a = p
  generalize mParse b = q
  obtain ⟨x, s⟩ := p
  obtain ⟨y, t⟩ := q
  have go : ∀ u : Bool, (u = true ↔ s = true ∧ t = true) → Ev (fun k => impl_CompareAtoms.j0 k op a b x y u) (if op = 8 then a.toList == b.toList else if op = 9 then a.toList != b.toList else if s = true ∧ t = true then
    (if op = 10 then decide (x < y) else if op = 11 then decide (x ≤ y) else if op = 12 then decide (x > y) else if op = 13 then decide (x ≥ y) else false) else false) := by
    intro u hu
    refine Ev.step (fun k => by rw [impl_CompareAtoms.j0]) ?_
    refine ev_both (fun _ => ev_const rfl) fun _ => ev_both (fun _ => ev_const rfl) fun _ => ?_
    by_cases hs : s = true ∧ t = true
    · have hu' := hu.2 hs
      subst hu'
      rw [if_pos hs]
      exact ev_both (fun _ => ev_pos rfl (ev_const rfl)) fun _ => ev_both (fun _ => ev_pos rfl (ev_const rfl)) fun _ => ev_both (fun _ => ev_pos rfl (ev_const rfl)) fun _ => ev_both (fun _ => ev_pos rfl (ev_const rfl)) fun _ => ev_const rfl
    · have hu' : u = false := by cases u with | false => rfl | true => exact absurd (hu.1 rfl) hs
      subst hu'
      rw [if_neg hs]
      exact ev_ite (fun _ => ev_neg (by simp) (ev_const rfl)) fun _ => ev_ite (fun _ => ev_neg (by simp) (ev_const rfl)) fun _ => ev_ite (fun _ => ev_neg (by simp) (ev_const rfl)) fun _ => ev_ite (fun _ => ev_neg (by simp) (ev_const rfl)) fun _ => ev_const rfl
  cases s with
  | true => exact ev_pos rfl (go t (by simp))
  | false => exact ev_neg (by simp) (go false (by simp))

theorem FnExactCompareAtoms : laws_FnExactCompareAtoms.Pure := by
  intro op a b hop ha hb
  refine Ev.rounds ?_
  simp only [laws_FnExactCompareAtoms.f]
  refine ev_ite (fun _ => ev_const rfl) (fun _ => ev_ite (fun _ => ev_const rfl) (fun _ => ?_))
  have hza : a.size ≤ 4611686018427387904 := by unfold maxLen at ha; omega
  have hzb : b.size ≤ 4611686018427387904 := by unfold maxLen at hb; omega
  refine ev_bind _ (spec_CompareAtoms_ev op a b hza hzb) (ev_bind _ (impl_CompareAtoms_ev op a b hza hzb) ?_)
  exact ev_neg (by simp) (ev_const rfl)

end Go.Proofs.YtmkhoakhfdjplaaDoor.Pure.LFnExactCompareAtoms
namespace Go.Proofs.YtmkhoakhfdjplaaDoor.Pure
theorem FnExactCompareAtoms : PFnExactCompareAtoms.laws_FnExactCompareAtoms.Pure := LFnExactCompareAtoms.FnExactCompareAtoms
end Go.Proofs.YtmkhoakhfdjplaaDoor.Pure
