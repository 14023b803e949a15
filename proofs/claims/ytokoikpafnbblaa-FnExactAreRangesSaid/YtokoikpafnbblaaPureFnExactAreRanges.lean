/- For all ranges, the program's AreRanges returns what the reference's AreRanges returns. -/
import Derived.Test.YtokoikpafnbblaaPFnExactAreRangesx0
import Derived.Test.YtokoikpafnbblaaPFnExactAreRangesx1
import Derived.Test.YtokoikpafnbblaaPFnExactAreRangesx2
import Derived.Test.YtokoikpafnbblaaPFnExactAreRangesx3
import Derived.Test.YtokoikpafnbblaaQFnExactAreRanges
import Derived.Test.YtokoikpafnbblaaBase
namespace Go.Proofs.Ytokoikpafnbblaa.Pure.LFnExactAreRanges
open Go.RowKit Go.Proofs.Ytokoikpafnbblaa.PFnExactAreRanges Go.Proofs.YtokoikpafnbblaaW.PrintWords Go.Proofs.YtokoikpafnbblaaW.PrintLast Go.Proofs.YtokoikpafnbblaaW.PrintMore Go.Proofs.Ytokoikpafnbblaa.Base
set_option linter.unusedVariables false
set_option linter.unusedSimpArgs false

/-! #### the law's own helpers -/
def mustr : List ByteArray → Nat
  | [] => 0
  | x :: l => x.size + mustr l
theorem mustr_mem {l : List ByteArray} {x : ByteArray} (h : x ∈ l) : x.size ≤ mustr l := by
  induction l with
  | nil => cases h
  | cons y l ih =>
    simp only [mustr]
    rcases List.mem_cons.1 h with rfl | h
    · omega
    · have := ih h; omega
theorem mustr_append (l l' : List ByteArray) : mustr (l ++ l') = mustr l + mustr l' := by
  induction l with
  | nil => simp [mustr]
  | cons x l ih => simp only [List.cons_append, mustr, ih]; omega
theorem szRangeS_ok (l : List S56) (left : Int) (g : l.length ≤ maxLen ∧ ∀ y ∈ l, G56 y) (h0 : 0 ≤ left) (h1 : left ≤ 1048576) : SzOk (fun k => laws_szRangeS.f l left) left (l.length + 0) := by
  have hl := g.1
  simp only [laws_szRangeS.f]
  have e : wrap64 (left - (l.length : Int)) = left - (l.length : Int) := w64 (by have := hl; unfold maxLen at this; omega) (by omega)
  simp only [e]; clear e
  refine sz_len ?_; intro q
  generalize ec : left - (l.length : Int) = c0 at q ⊢
  have q' : c0 ≤ 1048576 := by omega
  have z := sz_ret c0 (by assumption)
  exact z
def cv56 (x : S56) : S54 := ⟨x.f0, x.f1⟩
def cvl56 : List S56 → List S54
  | [] => []
  | x :: l => cv56 x :: cvl56 l
theorem cvl56_length (l : List S56) : (cvl56 l).length = l.length := by
  induction l with
  | nil => rfl
  | cons x l ih => simp only [cvl56, List.length_cons, ih]
theorem cvl56_append (l l' : List S56) : cvl56 (l ++ l') = cvl56 l ++ cvl56 l' := by
  induction l with
  | nil => rfl
  | cons x l ih => simp only [List.cons_append, cvl56, ih]
theorem cvl56_map (l : List S56) : cvl56 l = l.map cv56 := by
  induction l with
  | nil => rfl
  | cons x l ih => simp only [List.map_cons, cvl56, ih]
theorem toRange_ev (v0 : Int) (v1 : Int) : Ev (fun k => laws_toRange.f v0 v1) (v0, v1) := by
  simp only [laws_toRange.f]
  exact ev_const rfl
theorem toRangeS_l0 : ∀ (suf pre : List S56) (hb : (pre ++ suf).length ≤ 1048576) (hm : True), Ev (fun k => laws_toRangeS.l0 k (pre ++ suf) ((cvl56 pre) ++ List.replicate suf.length z54) (pre.length : Int)) (cvl56 (pre ++ suf))
  | [], pre, hb, hm => by
    refine Ev.step (fun k => by rw [laws_toRangeS.l0]) ?_
    refine ev_neg (by simp) (ev_const ?_)
    simp
  | x :: suf, pre, hb, hm => by
    have ex : rd_T56 (pre ++ x :: suf) (pre.length : Int) = x := by unfold rd_T56; exact at_pre pre suf x _
    have hb' := hb
    simp only [List.length_append, List.length_cons] at hb'
    refine Ev.step (fun k => by rw [laws_toRangeS.l0]) ?_
    refine ev_pos (by simp only [List.length_append, List.length_cons]; omega) (ev_pos (by omega) ?_)
    rw [ex]
    refine ev_bind _ (toRange_ev _ _) ?_
    refine ev_pos (by simp only [List.length_append, cvl56_length, List.length_replicate, List.length_cons]; omega) ?_
    have es : (cvl56 pre ++ List.replicate (x :: suf).length z54).set ((pre.length : Int)).toNat (cv56 x) = cvl56 (pre ++ [x]) ++ List.replicate suf.length z54 := by
      have h2 := set_pre (cvl56 pre) (List.replicate suf.length z54) z54 (cv56 x)
      rw [cvl56_length] at h2
      rw [List.length_cons, List.replicate_succ, h2, cvl56_append]; rfl
    rw [next_pre pre x (by omega)]
    have z := toRangeS_l0 suf (pre ++ [x]) (by simpa using hb) trivial
    rw [List.append_assoc] at z
    rw [← es] at z
    have e2 : (⟨(cv56 x).f0, (cv56 x).f1⟩ : S54) = cv56 x := by rfl
    show Ev (fun k => laws_toRangeS.l0 k (pre ++ x :: suf) ((cvl56 pre ++ List.replicate (x :: suf).length z54).set ((pre.length : Int)).toNat (⟨(cv56 x).f0, (cv56 x).f1⟩ : S54)) ((pre ++ [x]).length : Int)) (cvl56 (pre ++ x :: suf))
    rw [e2]
    exact z
theorem toRangeS_ev (l : List S56) (hm : l.length ≤ 1048576) : Ev (fun k => laws_toRangeS.f k l) (cvl56 l) := by
  simp only [laws_toRangeS.f]
  have hl : l.length ≤ 1048576 := by omega
  refine ev_pos (by omega) (ev_pos (by omega) ?_)
  have z := toRangeS_l0 l [] (by simpa using hl) trivial
  simpa [cvl56] using z
theorem eqRange_ev (v0 : Int) (v1 : Int) : Ev (fun k => laws_eqRange.f v0 v1 v0 v1) true := by
  simp only [laws_eqRange.f]
  refine ev_pos (by simp) ?_
  refine ev_pos (by simp) ?_
  exact ev_const rfl
theorem eqRangeS_l0 : ∀ (suf pre : List S54) (hb : (pre ++ suf).length ≤ 4611686018427387904) (hm : True), Ev (fun k => laws_eqRangeS.l0 k (pre ++ suf) (pre ++ suf) (pre.length : Int)) true
  | [], pre, hb, hm => by
    refine Ev.step (fun k => by rw [laws_eqRangeS.l0]) ?_
    exact ev_neg (by simp) (ev_const rfl)
  | x :: suf, pre, hb, hm => by
    have ex : rd_T54 (pre ++ x :: suf) (pre.length : Int) = x := by unfold rd_T54; exact at_pre pre suf x _
    have hb' := hb
    simp only [List.length_append, List.length_cons] at hb'
    refine Ev.step (fun k => by rw [laws_eqRangeS.l0]) ?_
    refine ev_pos (by simp only [List.length_append, List.length_cons]; omega) (ev_pos (by omega) (ev_pos (by simp only [List.length_append, List.length_cons]; omega) ?_))
    rw [ex]
    refine ev_bind _ (eqRange_ev _ _) (ev_pos (by simp) ?_)
    rw [next_pre pre x (by omega)]
    have z := eqRangeS_l0 suf (pre ++ [x]) (by simpa using hb) trivial
    rw [List.append_assoc] at z
    exact z
theorem eqRangeS_ev (l : List S54) (hm : l.length ≤ 4611686018427387904) : Ev (fun k => laws_eqRangeS.f k l l) true := by
  simp only [laws_eqRangeS.f]
  refine ev_pos (by simp) ?_
  exact eqRangeS_l0 l [] (by rw [List.nil_append]; omega) trivial

/-! #### AreRanges -/
def areL (p : Option Int) : List S54 → Bool
  | [] => true
  | x :: l => (decide (x.f0 ≤ x.f1) && (decide (-1000000000 ≤ x.f0) && decide (x.f1 ≤ 1000000000))) && ((match p with | none => true | some h => decide (h + 1 < x.f0)) && areL (some x.f1) l)
def lastHi (l : List S54) : Option Int := l.getLast?.map fun x => x.f1
def mAre (l : List S54) : Bool := areL none l && decide (l.length ≤ 6)
theorem areL_cons (p : Option Int) (x : S54) (l : List S54) : areL p (x :: l) = ((decide (x.f0 ≤ x.f1) && (decide (-1000000000 ≤ x.f0) && decide (x.f1 ≤ 1000000000))) && ((match p with | none => true | some h => decide (h + 1 < x.f0)) && areL (some x.f1) l)) := rfl
theorem lastHi_snoc (pre : List S54) (x : S54) : lastHi (pre ++ [x]) = some x.f1 := by simp [lastHi]
theorem before (pre suf : List S54) (p x : S54) (hb : (pre ++ [p] ++ x :: suf).length ≤ 4611686018427387904) : rd_T54 (pre ++ [p] ++ x :: suf) (wrap64 (((pre ++ [p]).length : Int) - 1)) = p ∧ 0 ≤ wrap64 (((pre ++ [p]).length : Int) - 1) ∧ wrap64 (((pre ++ [p]).length : Int) - 1) < ((pre ++ [p] ++ x :: suf).length : Int) := by
  have hb' := hb
  simp only [List.length_append, List.length_cons, List.length_nil] at hb'
  have e : wrap64 (((pre ++ [p]).length : Int) - 1) = (pre.length : Int) := by
    rw [List.length_append, List.length_singleton, w64 (by omega) (by omega)]; omega
  rw [e]
  refine ⟨?_, by omega, by simp only [List.length_append, List.length_cons]; omega⟩
  unfold rd_T54
  simp
theorem spec_AreRanges_l0 : ∀ (suf pre : List S54) (hb : (pre ++ suf).length ≤ 4611686018427387904) (hp : ∀ h, lastHi pre = some h → -1000000000 ≤ h ∧ h ≤ 1000000000), Ev (fun k => spec_AreRanges.l0 k (pre ++ suf) (pre.length : Int)) (areL (lastHi pre) suf && decide ((pre ++ suf).length ≤ 6))
  | [], pre, hb, hp => by
    refine Ev.step (fun k => by rw [spec_AreRanges.l0]) ?_
    refine ev_neg (by simp) (ev_const ?_)
    simp only [areL, Bool.true_and, Option.some.injEq, decide_eq_decide]
    omega
  | x :: suf, pre, hb, hp => by
    have ex : rd_T54 (pre ++ x :: suf) (pre.length : Int) = x := by unfold rd_T54; exact at_pre pre suf x _
    have hb' := hb
    simp only [List.length_append, List.length_cons] at hb'
    refine Ev.step (fun k => by rw [spec_AreRanges.l0]) ?_
    refine ev_pos (by simp only [List.length_append, List.length_cons]; omega) (ev_pos (by omega) ?_)
    rw [ex, areL_cons]
    refine ev_ite (fun h1 => ?_) (fun h1 => ?_)
    · rw [decide_eq_false (by omega), Bool.false_and, Bool.false_and, Bool.false_and]; exact ev_const rfl
    · rw [decide_eq_true (show x.f0 ≤ x.f1 by omega), Bool.true_and]
      refine ev_ite (fun h2 => ?_) (fun h2 => ?_)
      · rw [decide_eq_false (show ¬ -1000000000 ≤ x.f0 by omega), Bool.false_and, Bool.false_and, Bool.false_and]; exact ev_const rfl
      · rw [decide_eq_true (show -1000000000 ≤ x.f0 by omega), Bool.true_and]
        refine ev_ite (fun h3 => ?_) (fun h3 => ?_)
        · rw [decide_eq_false (show ¬ x.f1 ≤ 1000000000 by omega), Bool.false_and, Bool.false_and]; exact ev_const rfl
        · rw [decide_eq_true (show x.f1 ≤ 1000000000 by omega), Bool.true_and]
          have z := spec_AreRanges_l0 suf (pre ++ [x]) (by simpa using hb) (fun h hh => by rw [lastHi_snoc, Option.some.injEq] at hh; omega)
          rw [lastHi_snoc, List.append_assoc] at z
          rw [next_pre pre x (by omega)]
          rcases List.eq_nil_or_concat pre with rfl | ⟨pre', p, rfl⟩
          · refine ev_neg (by simp) ?_
            rw [show lastHi [] = none from rfl]
            simp only [Bool.true_and]
            exact z
          · rw [List.concat_eq_append] at *
            obtain ⟨b1, b2, b3⟩ := before pre' suf p x hb
            refine ev_pos (by simp only [List.length_append, List.length_singleton]; omega) (ev_pos b2 (ev_pos b3 ?_))
            rw [b1, lastHi_snoc]
            have hq := hp p.f1 (lastHi_snoc _ _)
            rw [w64 (by omega) (by omega)]
            show Ev _ ((decide (p.f1 + 1 < x.f0) && areL (some x.f1) suf) && decide ((pre' ++ [p] ++ x :: suf).length ≤ 6))
            refine ev_ite (fun h4 => ?_) (fun h4 => ?_)
            · rw [decide_eq_false (show ¬ p.f1 + 1 < x.f0 by omega), Bool.false_and, Bool.false_and]; exact ev_const rfl
            · rw [decide_eq_true (show p.f1 + 1 < x.f0 by omega), Bool.true_and]; exact z
theorem spec_AreRanges_ev (l : List S54) (hb : l.length ≤ 4611686018427387904) : Ev (fun k => spec_AreRanges.f k l) (mAre l) := spec_AreRanges_l0 l [] hb (fun h hh => by cases hh)
theorem inNumbers_eq (n : Int) : impl_inNumbers.f n = some (decide (-1000000000 ≤ n) && decide (n ≤ 1000000000)) := by
  unfold impl_inNumbers.f
  by_cases h : n ≥ -1000000000
  · rw [if_pos h, decide_eq_true h, Bool.true_and]
  · rw [if_neg h, decide_eq_false h, Bool.false_and]
theorem impl_AreRanges_l0 : ∀ (suf pre : List S54) (hb : (pre ++ suf).length ≤ 4611686018427387904) (hp : ∀ h, lastHi pre = some h → -1000000000 ≤ h ∧ h ≤ 1000000000), Ev (fun k => impl_AreRanges.l0 k (pre ++ suf) (pre ++ suf) ((pre ++ suf).length : Int) (pre.length : Int)) (areL (lastHi pre) suf && decide ((pre ++ suf).length ≤ 6))
  | [], pre, hb, hp => by
    refine Ev.step (fun k => by rw [impl_AreRanges.l0]) ?_
    refine ev_neg (by simp) (ev_const ?_)
    simp only [areL, Bool.true_and, Option.some.injEq, decide_eq_decide]
    omega
  | x :: suf, pre, hb, hp => by
    have ex : rd_T54 (pre ++ x :: suf) (pre.length : Int) = x := by unfold rd_T54; exact at_pre pre suf x _
    have hb' := hb
    simp only [List.length_append, List.length_cons] at hb'
    refine Ev.step (fun k => by rw [impl_AreRanges.l0]) ?_
    refine ev_pos (by simp only [List.length_append, List.length_cons]; omega) (ev_pos (by omega) (ev_pos (by simp only [List.length_append, List.length_cons]; omega) ?_))
    rw [ex, areL_cons]
    refine ev_ite (fun h1 => ?_) (fun h1 => ?_)
    · rw [decide_eq_false (by omega), Bool.false_and, Bool.false_and, Bool.false_and]; exact ev_const rfl
    · rw [decide_eq_true (show x.f0 ≤ x.f1 by omega), Bool.true_and]
      refine ev_let _ (inNumbers_eq _) (ev_ite (fun h2 => ?_) (fun h2 => ?_))
      · simp only [Bool.and_eq_true, decide_eq_true_eq] at h2
        rw [decide_eq_true h2.1, Bool.true_and]
        refine ev_let _ (inNumbers_eq _) (ev_ite (fun h3 => ?_) (fun h3 => ?_))
        · simp only [Bool.and_eq_true, decide_eq_true_eq] at h3
          rw [decide_eq_true h3.2, Bool.true_and]
          have z := impl_AreRanges_l0 suf (pre ++ [x]) (by simpa using hb) (fun h hh => by rw [lastHi_snoc, Option.some.injEq] at hh; omega)
          rw [lastHi_snoc, List.append_assoc] at z
          rw [next_pre pre x (by omega)]
          rcases List.eq_nil_or_concat pre with rfl | ⟨pre', p, rfl⟩
          · refine ev_neg (by simp) ?_
            rw [show lastHi [] = none from rfl]
            simp only [Bool.true_and]
            exact z
          · rw [List.concat_eq_append] at *
            obtain ⟨b1, b2, b3⟩ := before pre' suf p x hb
            refine ev_pos (by simp only [List.length_append, List.length_singleton]; omega) (ev_pos b2 (ev_pos b3 ?_))
            rw [b1, lastHi_snoc]
            have hq := hp p.f1 (lastHi_snoc _ _)
            rw [w64 (by omega) (by omega)]
            show Ev _ ((decide (p.f1 + 1 < x.f0) && areL (some x.f1) suf) && decide ((pre' ++ [p] ++ x :: suf).length ≤ 6))
            refine ev_ite (fun h4 => ?_) (fun h4 => ?_)
            · rw [decide_eq_false (show ¬ p.f1 + 1 < x.f0 by omega), Bool.false_and, Bool.false_and]; exact ev_const rfl
            · rw [decide_eq_true (show p.f1 + 1 < x.f0 by omega), Bool.true_and]; exact z
        · simp only [Bool.and_eq_true, decide_eq_true_eq] at h3
          rw [decide_eq_false (show ¬ x.f1 ≤ 1000000000 by omega), Bool.false_and, Bool.false_and]; exact ev_const rfl
      · simp only [Bool.and_eq_true, decide_eq_true_eq] at h2
        refine ev_const ?_
        by_cases h5 : -1000000000 ≤ x.f0
        · rw [decide_eq_false (show ¬ x.f1 ≤ 1000000000 by omega), Bool.and_false, Bool.false_and, Bool.false_and]
        · rw [decide_eq_false h5, Bool.false_and, Bool.false_and, Bool.false_and]
theorem impl_AreRanges_ev (l : List S54) (hb : l.length ≤ 4611686018427387904) : Ev (fun k => impl_AreRanges.f k l) (mAre l) := impl_AreRanges_l0 l [] hb (fun h hh => by cases hh)

theorem FnExactAreRanges : laws_FnExactAreRanges.Pure := by
  rintro l g
  refine Ev.rounds ?_
  simp only [laws_FnExactAreRanges.f]
  refine sz_guard (szRangeS_ok l 1048576 g (by omega) (by omega)) (fun z hz ez => ?_)
  have hc : (cvl56 l).length ≤ 1048576 := by rw [cvl56_length]; omega
  refine ev_bind _ (toRangeS_ev l (by omega)) (ev_bind _ (spec_AreRanges_ev _ (by omega)) ?_)
  refine ev_bind _ (toRangeS_ev l (by omega)) (ev_bind _ (impl_AreRanges_ev _ (by omega)) ?_)
  refine ev_neg (by simp) ?_
  refine ev_bind _ (toRangeS_ev l (by omega)) (ev_bind _ (eqRangeS_ev _ (by omega)) ?_)
  exact ev_pos rfl (ev_const rfl)

end Go.Proofs.Ytokoikpafnbblaa.Pure.LFnExactAreRanges
namespace Go.Proofs.Ytokoikpafnbblaa.Pure
theorem FnExactAreRanges : PFnExactAreRanges.laws_FnExactAreRanges.Pure := LFnExactAreRanges.FnExactAreRanges
end Go.Proofs.Ytokoikpafnbblaa.Pure
