/- For all ranges and every number, the program's InRanges returns what the reference's InRanges returns. -/
import Derived.Test.YtokoikpafnbblaaPFnExactInRangesx0
import Derived.Test.YtokoikpafnbblaaPFnExactInRangesx1
import Derived.Test.YtokoikpafnbblaaPFnExactInRangesx2
import Derived.Test.YtokoikpafnbblaaQFnExactInRanges
import Derived.Test.YtokoikpafnbblaaBase
namespace Go.Proofs.Ytokoikpafnbblaa.Pure.LFnExactInRanges
open Go.RowKit Go.Proofs.Ytokoikpafnbblaa.PFnExactInRanges Go.Proofs.YtokoikpafnbblaaW.PrintWords Go.Proofs.YtokoikpafnbblaaW.PrintLast Go.Proofs.YtokoikpafnbblaaW.PrintMore Go.Proofs.Ytokoikpafnbblaa.Base
set_option linter.unusedVariables false
set_option linter.unusedSimpArgs false

/-! #### the law's own helpers -/
def mustr : List ByteArray → Nat
  | [] => 0
  | x :: l => x.size + mustr l
theorem mustr_mem {l : List ByteArray} {x : ByteArray} (h : x ∈ l) : x.size ≤ mustr l := by
  induction l with
  | nil => cases h
  | cons y l ih =>
    simp only [mustr]
    rcases List.mem_cons.1 h with rfl | h
    · omega
    · have := ih h; omega
theorem mustr_append (l l' : List ByteArray) : mustr (l ++ l') = mustr l + mustr l' := by
  induction l with
  | nil => simp [mustr]
  | cons x l ih => simp only [List.cons_append, mustr, ih]; omega
theorem szRangeS_ok (l : List S56) (left : Int) (g : l.length ≤ maxLen ∧ ∀ y ∈ l, G56 y) (h0 : 0 ≤ left) (h1 : left ≤ 1048576) : SzOk (fun k => laws_szRangeS.f l left) left (l.length + 0) := by
  have hl := g.1
  simp only [laws_szRangeS.f]
  have e : wrap64 (left - (l.length : Int)) = left - (l.length : Int) := w64 (by have := hl; unfold maxLen at this; omega) (by omega)
  simp only [e]; clear e
  refine sz_len ?_; intro q
  generalize ec : left - (l.length : Int) = c0 at q ⊢
  have q' : c0 ≤ 1048576 := by omega
  have z := sz_ret c0 (by assumption)
  exact z
def cv56 (x : S56) : S54 := ⟨x.f0, x.f1⟩
def cvl56 : List S56 → List S54
  | [] => []
  | x :: l => cv56 x :: cvl56 l
theorem cvl56_length (l : List S56) : (cvl56 l).length = l.length := by
  induction l with
  | nil => rfl
  | cons x l ih => simp only [cvl56, List.length_cons, ih]
theorem cvl56_append (l l' : List S56) : cvl56 (l ++ l') = cvl56 l ++ cvl56 l' := by
  induction l with
  | nil => rfl
  | cons x l ih => simp only [List.cons_append, cvl56, ih]
theorem cvl56_map (l : List S56) : cvl56 l = l.map cv56 := by
  induction l with
  | nil => rfl
  | cons x l ih => simp only [List.map_cons, cvl56, ih]
theorem toRange_ev (v0 : Int) (v1 : Int) : Ev (fun k => laws_toRange.f v0 v1) (v0, v1) := by
  simp only [laws_toRange.f]
  exact ev_const rfl
theorem toRangeS_l0 : ∀ (suf pre : List S56) (hb : (pre ++ suf).length ≤ 1048576) (hm : True), Ev (fun k => laws_toRangeS.l0 k (pre ++ suf) ((cvl56 pre) ++ List.replicate suf.length z54) (pre.length : Int)) (cvl56 (pre ++ suf))
  | [], pre, hb, hm => by
    refine Ev.step (fun k => by rw [laws_toRangeS.l0]) ?_
    refine ev_neg (by simp) (ev_const ?_)
    simp
  | x :: suf, pre, hb, hm => by
    have ex : rd_T56 (pre ++ x :: suf) (pre.length : Int) = x := by unfold rd_T56; exact at_pre pre suf x _
    have hb' := hb
    simp only [List.length_append, List.length_cons] at hb'
    refine Ev.step (fun k => by rw [laws_toRangeS.l0]) ?_
    refine ev_pos (by simp only [List.length_append, List.length_cons]; omega) (ev_pos (by omega) ?_)
    rw [ex]
    refine ev_bind _ (toRange_ev _ _) ?_
    refine ev_pos (by simp only [List.length_append, cvl56_length, List.length_replicate, List.length_cons]; omega) ?_
    have es : (cvl56 pre ++ List.replicate (x :: suf).length z54).set ((pre.length : Int)).toNat (cv56 x) = cvl56 (pre ++ [x]) ++ List.replicate suf.length z54 := by
      have h2 := set_pre (cvl56 pre) (List.replicate suf.length z54) z54 (cv56 x)
      rw [cvl56_length] at h2
      rw [List.length_cons, List.replicate_succ, h2, cvl56_append]; rfl
    rw [next_pre pre x (by omega)]
    have z := toRangeS_l0 suf (pre ++ [x]) (by simpa using hb) trivial
    rw [List.append_assoc] at z
    rw [← es] at z
    have e2 : (⟨(cv56 x).f0, (cv56 x).f1⟩ : S54) = cv56 x := by rfl
    show Ev (fun k => laws_toRangeS.l0 k (pre ++ x :: suf) ((cvl56 pre ++ List.replicate (x :: suf).length z54).set ((pre.length : Int)).toNat (⟨(cv56 x).f0, (cv56 x).f1⟩ : S54)) ((pre ++ [x]).length : Int)) (cvl56 (pre ++ x :: suf))
    rw [e2]
    exact z
theorem toRangeS_ev (l : List S56) (hm : l.length ≤ 1048576) : Ev (fun k => laws_toRangeS.f k l) (cvl56 l) := by
  simp only [laws_toRangeS.f]
  have hl : l.length ≤ 1048576 := by omega
  refine ev_pos (by omega) (ev_pos (by omega) ?_)
  have z := toRangeS_l0 l [] (by simpa using hl) trivial
  simpa [cvl56] using z
theorem eqRange_ev (v0 : Int) (v1 : Int) : Ev (fun k => laws_eqRange.f v0 v1 v0 v1) true := by
  simp only [laws_eqRange.f]
  refine ev_pos (by simp) ?_
  refine ev_pos (by simp) ?_
  exact ev_const rfl
theorem eqRangeS_l0 : ∀ (suf pre : List S54) (hb : (pre ++ suf).length ≤ 4611686018427387904) (hm : True), Ev (fun k => laws_eqRangeS.l0 k (pre ++ suf) (pre ++ suf) (pre.length : Int)) true
  | [], pre, hb, hm => by
    refine Ev.step (fun k => by rw [laws_eqRangeS.l0]) ?_
    exact ev_neg (by simp) (ev_const rfl)
  | x :: suf, pre, hb, hm => by
    have ex : rd_T54 (pre ++ x :: suf) (pre.length : Int) = x := by unfold rd_T54; exact at_pre pre suf x _
    have hb' := hb
    simp only [List.length_append, List.length_cons] at hb'
    refine Ev.step (fun k => by rw [laws_eqRangeS.l0]) ?_
    refine ev_pos (by simp only [List.length_append, List.length_cons]; omega) (ev_pos (by omega) (ev_pos (by simp only [List.length_append, List.length_cons]; omega) ?_))
    rw [ex]
    refine ev_bind _ (eqRange_ev _ _) (ev_pos (by simp) ?_)
    rw [next_pre pre x (by omega)]
    have z := eqRangeS_l0 suf (pre ++ [x]) (by simpa using hb) trivial
    rw [List.append_assoc] at z
    exact z
theorem eqRangeS_ev (l : List S54) (hm : l.length ≤ 4611686018427387904) : Ev (fun k => laws_eqRangeS.f k l l) true := by
  simp only [laws_eqRangeS.f]
  refine ev_pos (by simp) ?_
  exact eqRangeS_l0 l [] (by rw [List.nil_append]; omega) trivial

/-! #### l1In -/
theorem spec_l1In_eq (a b c : Int) : spec_l1In.f a b c = some (decide (b ≤ a) && decide (a ≤ c)) := by
  unfold spec_l1In.f
  by_cases h : a ≥ b
  · rw [if_pos h, decide_eq_true h, Bool.true_and]
  · rw [if_neg h, decide_eq_false h, Bool.false_and]

/-! #### InRanges -/
instance (l : List S54) : Decidable (l = []) := match l with | [] => isTrue rfl | _ :: _ => isFalse (by simp)
def inL (n : Int) (l : List S54) : Bool := l.any fun x => decide (x.f0 ≤ n) && decide (n ≤ x.f1)
def mIn (l : List S54) (n : Int) : Bool := inL n l || decide (l = [])
theorem len0 (l : List S54) : ((l.length : Int) == 0) = decide (l = []) := by
  cases l with
  | nil => simp
  | cons x l => rw [decide_eq_false (by simp)]; simp; omega
theorem inL_cons (n : Int) (x : S54) (l : List S54) : inL n (x :: l) = ((decide (x.f0 ≤ n) && decide (n ≤ x.f1)) || inL n l) := by simp [inL]
theorem spec_InRanges_l0 (n : Int) : ∀ (suf pre : List S54) (hb : (pre ++ suf).length ≤ 4611686018427387904), Ev (fun k => spec_InRanges.l0 k (pre ++ suf) n (pre.length : Int)) (inL n suf || decide ((pre ++ suf) = []))
  | [], pre, hb => by
    refine Ev.step (fun k => by rw [spec_InRanges.l0]) ?_
    refine ev_neg (by simp) (ev_const ?_)
    rw [len0]; rfl
  | x :: suf, pre, hb => by
    have ex : rd_T54 (pre ++ x :: suf) (pre.length : Int) = x := by unfold rd_T54; exact at_pre pre suf x _
    have hb' := hb
    simp only [List.length_append, List.length_cons] at hb'
    refine Ev.step (fun k => by rw [spec_InRanges.l0]) ?_
    refine ev_pos (by simp only [List.length_append, List.length_cons]; omega) (ev_pos (by omega) ?_)
    rw [ex, inL_cons]
    refine ev_let _ (spec_l1In_eq _ _ _) (ev_ite (fun h => ?_) (fun h => ?_))
    · rw [h, Bool.true_or, Bool.true_or]; exact ev_const rfl
    · rw [Bool.eq_false_iff.mpr h, Bool.false_or, next_pre pre x (by omega)]
      have z := spec_InRanges_l0 n suf (pre ++ [x]) (by simpa using hb)
      rw [List.append_assoc] at z
      exact z
theorem impl_InRanges_l0 (n : Int) : ∀ (suf pre : List S54) (hb : (pre ++ suf).length ≤ 4611686018427387904), Ev (fun k => impl_InRanges.l0 k (pre ++ suf) n (pre ++ suf) ((pre ++ suf).length : Int) (pre.length : Int)) (inL n suf || decide ((pre ++ suf) = []))
  | [], pre, hb => by
    refine Ev.step (fun k => by rw [impl_InRanges.l0]) ?_
    refine ev_neg (by simp) (ev_const ?_)
    rw [len0]; rfl
  | x :: suf, pre, hb => by
    have ex : rd_T54 (pre ++ x :: suf) (pre.length : Int) = x := by unfold rd_T54; exact at_pre pre suf x _
    have hb' := hb
    simp only [List.length_append, List.length_cons] at hb'
    refine Ev.step (fun k => by rw [impl_InRanges.l0]) ?_
    refine ev_pos (by simp only [List.length_append, List.length_cons]; omega) (ev_pos (by omega) (ev_pos (by simp only [List.length_append, List.length_cons]; omega) ?_))
    rw [ex, inL_cons, next_pre pre x (by omega)]
    have z := impl_InRanges_l0 n suf (pre ++ [x]) (by simpa using hb)
    rw [List.append_assoc] at z
    refine ev_ite (fun h => ev_ite (fun h2 => ?_) (fun h2 => ?_)) (fun h => ?_)
    · rw [decide_eq_true (show x.f0 ≤ n by omega), decide_eq_true h2, Bool.true_and, Bool.true_or, Bool.true_or]; exact ev_const rfl
    · rw [decide_eq_false h2, Bool.and_false, Bool.false_or]; exact z
    · rw [decide_eq_false (show ¬ x.f0 ≤ n by omega), Bool.false_and, Bool.false_or]; exact z
theorem spec_InRanges_ev (l : List S54) (n : Int) (hb : l.length ≤ 4611686018427387904) : Ev (fun k => spec_InRanges.f k l n) (mIn l n) := spec_InRanges_l0 n l [] hb
theorem impl_InRanges_ev (l : List S54) (n : Int) (hb : l.length ≤ 4611686018427387904) : Ev (fun k => impl_InRanges.f k l n) (mIn l n) := impl_InRanges_l0 n l [] hb

theorem FnExactInRanges : laws_FnExactInRanges.Pure := by
  rintro l n g _
  refine Ev.rounds ?_
  simp only [laws_FnExactInRanges.f]
  refine sz_guard (szRangeS_ok l 1048576 g (by omega) (by omega)) (fun z hz ez => ?_)
  have hc : (cvl56 l).length ≤ 1048576 := by rw [cvl56_length]; omega
  refine ev_bind _ (toRangeS_ev l (by omega)) (ev_bind _ (spec_InRanges_ev _ n (by omega)) ?_)
  refine ev_bind _ (toRangeS_ev l (by omega)) (ev_bind _ (impl_InRanges_ev _ n (by omega)) ?_)
  refine ev_neg (by simp) ?_
  refine ev_bind _ (toRangeS_ev l (by omega)) (ev_bind _ (eqRangeS_ev _ (by omega)) ?_)
  exact ev_pos rfl (ev_const rfl)

end Go.Proofs.Ytokoikpafnbblaa.Pure.LFnExactInRanges
namespace Go.Proofs.Ytokoikpafnbblaa.Pure
theorem FnExactInRanges : PFnExactInRanges.laws_FnExactInRanges.Pure := LFnExactInRanges.FnExactInRanges
end Go.Proofs.Ytokoikpafnbblaa.Pure
