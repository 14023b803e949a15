/- For every string, the program's QuoteText returns what the reference's QuoteText returns. -/
import Derived.Test.YtokoikpafnbblaaPFnExactQuoteTextx0
import Derived.Test.YtokoikpafnbblaaPFnExactQuoteTextx1
import Derived.Test.YtokoikpafnbblaaBase
namespace Go.Proofs.Ytokoikpafnbblaa.Pure.LFnExactQuoteText
open Go.RowKit Go.Proofs.Ytokoikpafnbblaa.PFnExactQuoteText Go.Proofs.YtokoikpafnbblaaW.PrintWords Go.Proofs.YtokoikpafnbblaaW.PrintLast Go.Proofs.YtokoikpafnbblaaW.PrintMore Go.Proofs.Ytokoikpafnbblaa.Base
set_option linter.unusedVariables false
set_option linter.unusedSimpArgs false

/-! #### mQuote -/
def quoteB (c : Int) : List Int := if c = 34 ∨ c = 92 then [92, c] else [c]
def quoteL (l : List Int) : List Int := l.flatMap quoteB
def mQuote (s : ByteArray) : ByteArray := strOfNums (34 :: quoteL (bts s) ++ [34])
theorem quoteL_cons (c : Int) (l : List Int) : quoteL (c :: l) = quoteB c ++ quoteL l := by simp [quoteL]
theorem quoteB_len (c : Int) : (quoteB c).length ≤ 2 := by unfold quoteB; split <;> simp
theorem quoteL_len (l : List Int) : (quoteL l).length ≤ 2 * l.length := by
  induction l with
  | nil => simp [quoteL]
  | cons c l ih =>
    rw [quoteL_cons, List.length_append, List.length_cons]
    have := quoteB_len c
    omega

/-! #### spec_QuoteText -/
theorem spec_QuoteText_l0 (s : ByteArray) (hs : s.size ≤ 35184372088832) : ∀ (n i : Nat) (acc : List Int), i + n = s.size → acc.length ≤ 2 * i + 1 → Ev (fun k => spec_QuoteText.l0 k s acc i) (strOfNums (acc ++ quoteL ((bts s).drop i) ++ [34])) := by
  intro n
  induction n with
  | zero =>
    intro i acc hi ha
    refine Ev.step (fun k => by rw [spec_QuoteText.l0]) ?_
    refine ev_neg (by omega) (ev_pos (by omega) (ev_const ?_))
    rw [List.drop_eq_nil_of_le (by rw [bts_length]; omega)]
    simp [quoteL]
  | succ n ih =>
    intro i acc hi ha
    have e2 : wrap64 ((i : Int) + 1) = ((i + 1 : Nat) : Int) := by rw [w64 (by omega) (by omega)]; omega
    refine Ev.step (fun k => by rw [spec_QuoteText.l0]) ?_
    refine ev_pos (by omega) (ev_pos (by omega) ?_)
    rw [e2, drop_cons (z := 0) (by rw [bts_length]; omega), quoteL_cons, ← Int.toNat_natCast i, ← bt_eq, Int.toNat_natCast]
    refine ev_ite (fun h => ?_) (fun h => ev_ite (fun h2 => ?_) (fun h2 => ?_))
    · refine ev_pos (by omega) (ev_let _ rfl (ev_pos (by simp; omega) ?_))
      have := ih (i + 1) (acc ++ [92] ++ [bt s i]) (by omega) (by simp; omega)
      rw [quoteB, if_pos (.inl h)]
      simpa using this
    · refine ev_pos (by omega) (ev_let _ rfl (ev_pos (by simp; omega) ?_))
      have := ih (i + 1) (acc ++ [92] ++ [bt s i]) (by omega) (by simp; omega)
      rw [quoteB, if_pos (.inr h2)]
      simpa using this
    · refine ev_pos (by omega) ?_
      have := ih (i + 1) (acc ++ [bt s i]) (by omega) (by simp; omega)
      rw [quoteB, if_neg (by omega)]
      simpa using this
theorem spec_QuoteText_ev (s : ByteArray) (hs : s.size ≤ 35184372088832) : Ev (fun k => spec_QuoteText.f k s) (mQuote s) := by
  have := spec_QuoteText_l0 s hs s.size 0 [34] (by omega) (by simp)
  show Ev (fun k => spec_QuoteText.l0 k s [34] 0) _
  unfold mQuote
  simpa using this

/-! #### impl_QuoteText -/
theorem impl_QuoteText_l0 (s : ByteArray) (hs : s.size ≤ 35184372088832) : ∀ (n i : Nat) (acc : List Int), i + n = s.size → acc.length ≤ 2 * i + 1 → Ev (fun k => impl_QuoteText.l0 k s acc i) (strOfNums (acc ++ quoteL ((bts s).drop i) ++ [34])) := by
  intro n
  induction n with
  | zero =>
    intro i acc hi ha
    refine Ev.step (fun k => by rw [impl_QuoteText.l0]) ?_
    refine ev_neg (by omega) (ev_pos (by omega) (ev_const ?_))
    rw [List.drop_eq_nil_of_le (by rw [bts_length]; omega)]
    simp [quoteL]
  | succ n ih =>
    intro i acc hi ha
    have e2 : wrap64 ((i : Int) + 1) = ((i + 1 : Nat) : Int) := by rw [w64 (by omega) (by omega)]; omega
    refine Ev.step (fun k => by rw [impl_QuoteText.l0]) ?_
    refine ev_pos (by omega) (ev_pos (by omega) ?_)
    rw [e2, drop_cons (z := 0) (by rw [bts_length]; omega), quoteL_cons, ← Int.toNat_natCast i, ← bt_eq, Int.toNat_natCast]
    refine ev_ite (fun h => ?_) (fun h => ev_ite (fun h2 => ?_) (fun h2 => ?_))
    · refine ev_pos (by omega) (ev_let _ rfl (ev_pos (by simp; omega) ?_))
      have := ih (i + 1) (acc ++ [92] ++ [bt s i]) (by omega) (by simp; omega)
      rw [quoteB, if_pos (.inl h)]
      simpa using this
    · refine ev_pos (by omega) (ev_let _ rfl (ev_pos (by simp; omega) ?_))
      have := ih (i + 1) (acc ++ [92] ++ [bt s i]) (by omega) (by simp; omega)
      rw [quoteB, if_pos (.inr h2)]
      simpa using this
    · refine ev_pos (by omega) ?_
      have := ih (i + 1) (acc ++ [bt s i]) (by omega) (by simp; omega)
      rw [quoteB, if_neg (by omega)]
      simpa using this
theorem impl_QuoteText_ev (s : ByteArray) (hs : s.size ≤ 35184372088832) : Ev (fun k => impl_QuoteText.f k s) (mQuote s) := by
  have := impl_QuoteText_l0 s hs s.size 0 [34] (by omega) (by simp)
  show Ev (fun k => impl_QuoteText.l0 k s [34] 0) _
  unfold mQuote
  simpa using this

/-! #### QuoteText -/


theorem FnExactQuoteText : laws_FnExactQuoteText.Pure := by
  intro s hs
  refine Ev.rounds ?_
  refine Ev.congr (fun k => by rw [laws_FnExactQuoteText.f]) ?_
  refine ev_ite (fun _ => ev_const rfl) (fun _ => ?_)
  refine ev_bind _ (spec_QuoteText_ev s (by omega)) ?_
  refine ev_bind _ (impl_QuoteText_ev s (by omega)) ?_
  exact ev_pos rfl (ev_const rfl)

end Go.Proofs.Ytokoikpafnbblaa.Pure.LFnExactQuoteText
namespace Go.Proofs.Ytokoikpafnbblaa.Pure
theorem FnExactQuoteText : PFnExactQuoteText.laws_FnExactQuoteText.Pure := LFnExactQuoteText.FnExactQuoteText
end Go.Proofs.Ytokoikpafnbblaa.Pure
