/- For every token, the program's TokenText returns what the reference's TokenText returns. -/
import Derived.Test.YtokoikpafnbblaaPFnExactTokenTextx0
import Derived.Test.YtokoikpafnbblaaPFnExactTokenTextx1
import Derived.Test.YtokoikpafnbblaaQFnExactTokenText
import Derived.Test.YtokoikpafnbblaaBase
namespace Go.Proofs.Ytokoikpafnbblaa.Pure.LFnExactTokenText
open Go.RowKit Go.Proofs.Ytokoikpafnbblaa.PFnExactTokenText Go.Proofs.YtokoikpafnbblaaW.PrintWords Go.Proofs.YtokoikpafnbblaaW.PrintLast Go.Proofs.YtokoikpafnbblaaW.PrintMore Go.Proofs.Ytokoikpafnbblaa.Base
set_option linter.unusedVariables false
set_option linter.unusedSimpArgs false

/-! #### the law's own helpers -/
def mustr : List ByteArray → Nat
  | [] => 0
  | x :: l => x.size + mustr l
theorem mustr_mem {l : List ByteArray} {x : ByteArray} (h : x ∈ l) : x.size ≤ mustr l := by
  induction l with
  | nil => cases h
  | cons y l ih =>
    simp only [mustr]
    rcases List.mem_cons.1 h with rfl | h
    · omega
    · have := ih h; omega
theorem mustr_append (l l' : List ByteArray) : mustr (l ++ l') = mustr l + mustr l' := by
  induction l with
  | nil => simp [mustr]
  | cons x l ih => simp only [List.cons_append, mustr, ih]; omega
theorem szToken_ok (v0 : Int) (v1 : ByteArray) (v2 : Int) (left : Int) (g1 : v1.size ≤ maxLen) (h0 : 0 ≤ left) (h1 : left ≤ 1048576) : SzOk (fun k => laws_szToken.f v0 v1 v2 left) left (v1.size + 0) := by
  simp only [laws_szToken.f]
  have e : wrap64 (left - (v1.size : Int)) = left - (v1.size : Int) := w64 (by have := g1; unfold maxLen at this; omega) (by omega)
  simp only [e]; clear e
  refine sz_len ?_; intro q
  generalize ec : left - (v1.size : Int) = c0 at q ⊢
  have q' : c0 ≤ 1048576 := by omega
  exact sz_ret _ (by assumption)
theorem toToken_ev (v0 : Int) (v1 : ByteArray) (v2 : Int) (hm : (v1.size + 0) ≤ 1048576) : Ev (fun k => laws_toToken.f v0 v1 v2) (v0, v1, v2) := by
  simp only [laws_toToken.f]
  exact ev_const rfl

/-! #### mQuote -/
def quoteB (c : Int) : List Int := if c = 34 ∨ c = 92 then [92, c] else [c]
def quoteL (l : List Int) : List Int := l.flatMap quoteB
def mQuote (s : ByteArray) : ByteArray := strOfNums (34 :: quoteL (bts s) ++ [34])
theorem quoteL_cons (c : Int) (l : List Int) : quoteL (c :: l) = quoteB c ++ quoteL l := by simp [quoteL]
theorem quoteB_len (c : Int) : (quoteB c).length ≤ 2 := by unfold quoteB; split <;> simp
theorem quoteL_len (l : List Int) : (quoteL l).length ≤ 2 * l.length := by
  induction l with
  | nil => simp [quoteL]
  | cons c l ih =>
    rw [quoteL_cons, List.length_append, List.length_cons]
    have := quoteB_len c
    omega

/-! #### spec_QuoteText -/
theorem spec_QuoteText_l0 (s : ByteArray) (hs : s.size ≤ 35184372088832) : ∀ (n i : Nat) (acc : List Int), i + n = s.size → acc.length ≤ 2 * i + 1 → Ev (fun k => spec_QuoteText.l0 k s acc i) (strOfNums (acc ++ quoteL ((bts s).drop i) ++ [34])) := by
  intro n
  induction n with
  | zero =>
    intro i acc hi ha
    refine Ev.step (fun k => by rw [spec_QuoteText.l0]) ?_
    refine ev_neg (by omega) (ev_pos (by omega) (ev_const ?_))
    rw [List.drop_eq_nil_of_le (by rw [bts_length]; omega)]
    simp [quoteL]
  | succ n ih =>
    intro i acc hi ha
    have e2 : wrap64 ((i : Int) + 1) = ((i + 1 : Nat) : Int) := by rw [w64 (by omega) (by omega)]; omega
    refine Ev.step (fun k => by rw [spec_QuoteText.l0]) ?_
    refine ev_pos (by omega) (ev_pos (by omega) ?_)
    rw [e2, drop_cons (z := 0) (by rw [bts_length]; omega), quoteL_cons, ← Int.toNat_natCast i, ← bt_eq, Int.toNat_natCast]
    refine ev_ite (fun h => ?_) (fun h => ev_ite (fun h2 => ?_) (fun h2 => ?_))
    · refine ev_pos (by omega) (ev_let _ rfl (ev_pos (by simp; omega) ?_))
      have := ih (i + 1) (acc ++ [92] ++ [bt s i]) (by omega) (by simp; omega)
      rw [quoteB, if_pos (.inl h)]
      simpa using this
    · refine ev_pos (by omega) (ev_let _ rfl (ev_pos (by simp; omega) ?_))
      have := ih (i + 1) (acc ++ [92] ++ [bt s i]) (by omega) (by simp; omega)
      rw [quoteB, if_pos (.inr h2)]
      simpa using this
    · refine ev_pos (by omega) ?_
      have := ih (i + 1) (acc ++ [bt s i]) (by omega) (by simp; omega)
      rw [quoteB, if_neg (by omega)]
      simpa using this
theorem spec_QuoteText_ev (s : ByteArray) (hs : s.size ≤ 35184372088832) : Ev (fun k => spec_QuoteText.f k s) (mQuote s) := by
  have := spec_QuoteText_l0 s hs s.size 0 [34] (by omega) (by simp)
  show Ev (fun k => spec_QuoteText.l0 k s [34] 0) _
  unfold mQuote
  simpa using this

/-! #### impl_QuoteText -/
theorem impl_QuoteText_l0 (s : ByteArray) (hs : s.size ≤ 35184372088832) : ∀ (n i : Nat) (acc : List Int), i + n = s.size → acc.length ≤ 2 * i + 1 → Ev (fun k => impl_QuoteText.l0 k s acc i) (strOfNums (acc ++ quoteL ((bts s).drop i) ++ [34])) := by
  intro n
  induction n with
  | zero =>
    intro i acc hi ha
    refine Ev.step (fun k => by rw [impl_QuoteText.l0]) ?_
    refine ev_neg (by omega) (ev_pos (by omega) (ev_const ?_))
    rw [List.drop_eq_nil_of_le (by rw [bts_length]; omega)]
    simp [quoteL]
  | succ n ih =>
    intro i acc hi ha
    have e2 : wrap64 ((i : Int) + 1) = ((i + 1 : Nat) : Int) := by rw [w64 (by omega) (by omega)]; omega
    refine Ev.step (fun k => by rw [impl_QuoteText.l0]) ?_
    refine ev_pos (by omega) (ev_pos (by omega) ?_)
    rw [e2, drop_cons (z := 0) (by rw [bts_length]; omega), quoteL_cons, ← Int.toNat_natCast i, ← bt_eq, Int.toNat_natCast]
    refine ev_ite (fun h => ?_) (fun h => ev_ite (fun h2 => ?_) (fun h2 => ?_))
    · refine ev_pos (by omega) (ev_let _ rfl (ev_pos (by simp; omega) ?_))
      have := ih (i + 1) (acc ++ [92] ++ [bt s i]) (by omega) (by simp; omega)
      rw [quoteB, if_pos (.inl h)]
      simpa using this
    · refine ev_pos (by omega) (ev_let _ rfl (ev_pos (by simp; omega) ?_))
      have := ih (i + 1) (acc ++ [92] ++ [bt s i]) (by omega) (by simp; omega)
      rw [quoteB, if_pos (.inr h2)]
      simpa using this
    · refine ev_pos (by omega) ?_
      have := ih (i + 1) (acc ++ [bt s i]) (by omega) (by simp; omega)
      rw [quoteB, if_neg (by omega)]
      simpa using this
theorem impl_QuoteText_ev (s : ByteArray) (hs : s.size ≤ 35184372088832) : Ev (fun k => impl_QuoteText.f k s) (mQuote s) := by
  have := impl_QuoteText_l0 s hs s.size 0 [34] (by omega) (by simp)
  show Ev (fun k => impl_QuoteText.l0 k s [34] 0) _
  unfold mQuote
  simpa using this

/-! #### QuoteText -/


/-! #### TokenText -/
def mTokenText (a : Int) (b : ByteArray) : ByteArray := if a = 3 then mQuote b else b
theorem spec_TokenText_ev (a : Int) (b : ByteArray) (c : Int) (hb : b.size ≤ 35184372088832) : Ev (fun k => spec_TokenText.f k a b c) (mTokenText a b) := by
  simp only [spec_TokenText.f]
  unfold mTokenText
  refine ev_ite (fun h => ?_) (fun h => ?_)
  · rw [if_pos h]; exact ev_bind _ (spec_QuoteText_ev b hb) (ev_const rfl)
  · rw [if_neg h]; exact ev_const rfl
theorem impl_TokenText_ev (a : Int) (b : ByteArray) (c : Int) (hb : b.size ≤ 35184372088832) : Ev (fun k => impl_TokenText.f k a b c) (mTokenText a b) := by
  simp only [impl_TokenText.f]
  unfold mTokenText
  refine ev_ite (fun h => ?_) (fun h => ?_)
  · rw [if_pos h]; exact ev_bind _ (impl_QuoteText_ev b hb) (ev_const rfl)
  · rw [if_neg h]; exact ev_const rfl

theorem FnExactTokenText : laws_FnExactTokenText.Pure := by
  rintro ⟨a, b, c⟩ ⟨_, g1, _⟩
  refine Ev.rounds ?_
  show Ev (fun k => laws_FnExactTokenText.f k a b c) true
  simp only [laws_FnExactTokenText.f]
  refine sz_guard (szToken_ok a b c 1048576 g1 (by omega) (by omega)) (fun z hz ez => ?_)
  refine ev_bind _ (toToken_ev a b c (by omega)) (ev_bind _ (spec_TokenText_ev a b c (by omega)) ?_)
  refine ev_bind _ (toToken_ev a b c (by omega)) (ev_bind _ (impl_TokenText_ev a b c (by omega)) ?_)
  exact ev_pos rfl (ev_const rfl)

end Go.Proofs.Ytokoikpafnbblaa.Pure.LFnExactTokenText
namespace Go.Proofs.Ytokoikpafnbblaa.Pure
theorem FnExactTokenText : PFnExactTokenText.laws_FnExactTokenText.Pure := LFnExactTokenText.FnExactTokenText
end Go.Proofs.Ytokoikpafnbblaa.Pure
