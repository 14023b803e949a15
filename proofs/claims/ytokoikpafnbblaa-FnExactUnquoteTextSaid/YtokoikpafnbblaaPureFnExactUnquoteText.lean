/- For every string, the program's UnquoteText returns what the reference's UnquoteText returns. -/
import Derived.Test.YtokoikpafnbblaaPFnExactUnquoteTextx0
import Derived.Test.YtokoikpafnbblaaPFnExactUnquoteTextx1
import Derived.Test.YtokoikpafnbblaaPFnExactUnquoteTextx2
import Derived.Test.YtokoikpafnbblaaBase
namespace Go.Proofs.Ytokoikpafnbblaa.Pure.LFnExactUnquoteText
open Go.RowKit Go.Proofs.Ytokoikpafnbblaa.PFnExactUnquoteText Go.Proofs.YtokoikpafnbblaaW.PrintWords Go.Proofs.YtokoikpafnbblaaW.PrintLast Go.Proofs.YtokoikpafnbblaaW.PrintMore Go.Proofs.Ytokoikpafnbblaa.Base
set_option linter.unusedVariables false
set_option linter.unusedSimpArgs false

/-! #### unq -/
/-- What the bytes behind an opening quotation mark mean, and what stands behind the closing one. -/
def unq : List Int → Option (List Int × List Int)
  | [] => none
  | c :: r =>
    if c = 34 then some ([], r)
    else if c = 92 then
      match r with
      | [] => none
      | d :: r' => if d = 34 ∨ d = 92 then (unq r').map (fun z => (d :: z.1, z.2)) else none
    else (unq r).map (fun z => (c :: z.1, z.2))
theorem unq_cons (c : Int) (r : List Int) : unq (c :: r) = if c = 34 then some ([], r) else if c = 92 then (match r with | [] => none | d :: r' => if d = 34 ∨ d = 92 then (unq r').map (fun z => (d :: z.1, z.2)) else none) else (unq r).map (fun z => (c :: z.1, z.2)) := by
  rw [unq.eq_def]
theorem unq_len : ∀ (n : Nat) (l t q : List Int), l.length ≤ n → unq l = some (t, q) → t.length + q.length < l.length := by
  intro n
  induction n with
  | zero =>
    intro l t q hl h
    cases l with
    | nil => simp [unq] at h
    | cons c r => simp at hl
  | succ n ih =>
    intro l t q hl h
    cases l with
    | nil => simp [unq] at h
    | cons c r =>
      rw [unq_cons] at h
      simp only [List.length_cons] at hl ⊢
      split at h
      · simp only [Option.some.injEq, Prod.mk.injEq] at h
        obtain ⟨rfl, rfl⟩ := h
        simp
      · split at h
        · split at h
          · cases h
          · rename_i d r'
            simp only [List.length_cons] at hl ⊢
            split at h
            · obtain ⟨⟨t', q'⟩, h1, h2⟩ := Option.map_eq_some_iff.1 h
              simp only [Prod.mk.injEq] at h2
              obtain ⟨rfl, rfl⟩ := h2
              have := ih r' t' q' (by omega) h1
              simp only [List.length_cons]
              omega
            · cases h
        · obtain ⟨⟨t', q'⟩, h1, h2⟩ := Option.map_eq_some_iff.1 h
          simp only [Prod.mk.injEq] at h2
          obtain ⟨rfl, rfl⟩ := h2
          have := ih r t' q' (by omega) h1
          simp only [List.length_cons]
          omega
theorem drop_at {s : ByteArray} {i : Nat} (h : i < s.size) : (bts s).drop i = bt s i :: (bts s).drop (i + 1) := by
  rw [drop_cons (z := 0) (by rw [bts_length]; exact h), bt_eq, Int.toNat_natCast]

/-! #### spec_Unquote -/
def lEnd (s : ByteArray) : Option (List Int × List Int) → Int
  | none => -1
  | some (_, q) => (s.size : Int) - q.length
theorem spec_l2End_l0 (s : ByteArray) (hs : s.size ≤ 35184372088832) : ∀ (n i : Nat), s.size - i ≤ n → i ≤ s.size → Ev (fun k => spec_l2End.l0 k s i) (lEnd s (unq ((bts s).drop i))) := by
  intro n
  induction n with
  | zero =>
    intro i hi hi2
    refine Ev.step (fun k => by rw [spec_l2End.l0]) ?_
    refine ev_neg (by omega) (ev_const ?_)
    rw [List.drop_eq_nil_of_le (by rw [bts_length]; omega)]; rfl
  | succ n ih =>
    intro i hi hi2
    by_cases hlt : i < s.size
    · have e2 : wrap64 ((i : Int) + 1) = ((i + 1 : Nat) : Int) := by rw [w64 (by omega) (by omega)]; omega
      have e3 : wrap64 (((i + 1 : Nat) : Int) + 1) = ((i + 2 : Nat) : Int) := by rw [w64 (by omega) (by omega)]; omega
      have em : ∀ (c : Int) (o : Option (List Int × List Int)), lEnd s (o.map (fun z => (c :: z.1, z.2))) = lEnd s o := by
        intro c o; cases o <;> rfl
      refine Ev.step (fun k => by rw [spec_l2End.l0]) ?_
      refine ev_pos (by omega) (ev_pos (by omega) ?_)
      rw [e2, drop_at hlt, unq_cons]
      refine ev_ite (fun h => ?_) (fun h => ?_)
      · rw [if_pos h]
        refine ev_const ?_
        show some (((i + 1 : Nat)) : Int) = some ((s.size : Int) - (((bts s).drop (i + 1)).length : Int))
        rw [List.length_drop, bts_length]
        congr 1
        omega
      · rw [if_neg h]
        refine ev_ite (fun h2 => ?_) (fun h2 => ?_)
        · rw [if_pos h2]
          refine ev_ite (fun h3 => ?_) (fun h3 => ?_)
          · rw [List.drop_eq_nil_of_le (by rw [bts_length]; omega)]
            refine Ev.step (fun k => by rw [spec_l2End.j1]) ?_
            exact ev_pos rfl (ev_const rfl)
          · have h1 : i + 1 < s.size := by omega
            rw [drop_at h1]
            simp only []
            have z := ih (i + 2) (by omega) (by omega)
            refine ev_pos (by omega) (ev_pos (by omega) (ev_ite (fun h4 => ?_) (fun h4 => ?_)))
            · rw [if_pos (.inl h4), em]
              refine Ev.step (fun k => by rw [spec_l2End.j1]) ?_
              refine ev_neg (by simp) (ev_pos (by omega) (ev_pos (by omega) (ev_pos h2 ?_)))
              rw [e2, e3]; exact z
            · refine Ev.step (fun k => by rw [spec_l2End.j1]) ?_
              by_cases h5 : bt s ((i + 1 : Nat) : Int) = 92
              · rw [if_pos (.inr h5), em]
                refine ev_neg (by rw [h5]; decide) (ev_pos (by omega) (ev_pos (by omega) (ev_pos h2 ?_)))
                rw [e2, e3]; exact z
              · rw [if_neg (by omega)]
                exact ev_pos (by simpa using h5) (ev_const rfl)
        · rw [if_neg h2, em]
          refine Ev.step (fun k => by rw [spec_l2End.j1]) ?_
          refine ev_neg (by simp) (ev_pos (by omega) (ev_pos (by omega) (ev_neg h2 ?_)))
          rw [e2]
          exact ih (i + 1) (by omega) (by omega)
    · refine Ev.step (fun k => by rw [spec_l2End.l0]) ?_
      refine ev_neg (by omega) (ev_const ?_)
      rw [List.drop_eq_nil_of_le (by rw [bts_length]; omega)]; rfl
theorem spec_l2End_ev (s : ByteArray) (i : Nat) (hs : s.size ≤ 35184372088832) (hi : i < s.size) : Ev (fun k => spec_l2End.f k s i) (lEnd s (unq ((bts s).drop (i + 1)))) := by
  have e2 : wrap64 ((i : Int) + 1) = ((i + 1 : Nat) : Int) := by rw [w64 (by omega) (by omega)]; omega
  simp only [spec_l2End.f]
  rw [e2]
  exact spec_l2End_l0 s hs s.size (i + 1) (by omega) (by omega)
theorem spec_Unq_l0 (s : ByteArray) (hs : s.size ≤ 35184372088832) : ∀ (n i : Nat) (acc t : List Int), s.size - i ≤ n → i ≤ s.size → acc.length ≤ i → unq ((bts s).drop i) = some (t, []) → Ev (fun k => spec_UnquoteText.l0 k s acc i) (strOfNums (acc ++ t), true) := by
  intro n
  induction n with
  | zero =>
    intro i acc t hi hi2 ha hu
    rw [List.drop_eq_nil_of_le (by rw [bts_length]; omega)] at hu
    simp [unq] at hu
  | succ n ih =>
    intro i acc t hi hi2 ha hu
    by_cases hlt : i < s.size
    · have e1 : wrap64 ((s.size : Int) - 1) = ((s.size - 1 : Nat) : Int) := by rw [w64 (by omega) (by omega)]; omega
      have e2 : wrap64 ((i : Int) + 1) = ((i + 1 : Nat) : Int) := by rw [w64 (by omega) (by omega)]; omega
      have e3 : wrap64 (((i + 1 : Nat) : Int) + 1) = ((i + 2 : Nat) : Int) := by rw [w64 (by omega) (by omega)]; omega
      refine Ev.step (fun k => by rw [spec_UnquoteText.l0]) ?_
      rw [e1, e2, e3]
      rw [drop_at hlt, unq_cons] at hu
      by_cases h : bt s (i : Int) = 34
      · rw [if_pos h] at hu
        simp only [Option.some.injEq, Prod.mk.injEq] at hu
        obtain ⟨rfl, hq⟩ := hu
        have := congrArg List.length hq
        rw [List.length_drop, bts_length, List.length_nil] at this
        refine ev_neg (by omega) (ev_const ?_)
        rw [List.append_nil]
      · rw [if_neg h] at hu
        have h1 : i + 1 < s.size := by
          rcases Nat.lt_or_ge (i + 1) s.size with hh | hh
          · exact hh
          · rw [List.drop_eq_nil_of_le (by rw [bts_length]; omega)] at hu
            split at hu <;> simp [unq] at hu
        refine ev_pos (by omega) (ev_pos (by omega) (ev_pos (by omega) (ev_ite (fun h2 => ?_) (fun h2 => ?_))))
        · rw [if_pos h2, drop_at h1] at hu
          simp only [] at hu
          split at hu
          · obtain ⟨⟨t', q'⟩, h3, h4⟩ := Option.map_eq_some_iff.1 hu
            simp only [Prod.mk.injEq] at h4
            obtain ⟨rfl, rfl⟩ := h4
            refine ev_pos (by omega) (ev_pos (by omega) (ev_pos (by omega) ?_))
            have z := ih (i + 2) (acc ++ [bt s ((i + 1 : Nat) : Int)]) t' (by omega) (by omega) (by simp; omega) h3
            simpa using z
          · cases hu
        · rw [if_neg h2] at hu
          obtain ⟨⟨t', q'⟩, h3, h4⟩ := Option.map_eq_some_iff.1 hu
          simp only [Prod.mk.injEq] at h4
          obtain ⟨rfl, rfl⟩ := h4
          refine ev_pos (by omega) ?_
          have z := ih (i + 1) (acc ++ [bt s (i : Int)]) t' (by omega) (by omega) (by simp; omega) h3
          simpa using z
    · rw [List.drop_eq_nil_of_le (by rw [bts_length]; omega)] at hu
      simp [unq] at hu
def mUnquote (s : ByteArray) : ByteArray × Bool :=
  match bts s with
  | [] => (⟨#[]⟩, false)
  | c :: l => if c = 34 then (match unq l with | some (t, []) => (strOfNums t, true) | _ => (⟨#[]⟩, false)) else (⟨#[]⟩, false)
theorem spec_UnquoteText_ev (s : ByteArray) (hs : s.size ≤ 35184372088832) : Ev (fun k => spec_UnquoteText.f k s) (mUnquote s) := by
  have hl := bts_length s
  simp only [spec_UnquoteText.f]
  unfold mUnquote
  have bad : Ev (fun k => spec_UnquoteText.j0 k s true) (⟨#[]⟩, false) := by
    refine Ev.step (fun k => by rw [spec_UnquoteText.j0]) ?_
    exact ev_pos rfl (ev_const rfl)
  cases hc : bts s with
  | nil =>
    rw [hc] at hl
    simp only [List.length_nil] at hl
    exact ev_pos (by omega) bad
  | cons c l =>
    rw [hc] at hl
    simp only [List.length_cons] at hl
    show Ev _ (if c = 34 then (match unq l with | some (t, []) => (strOfNums t, true) | _ => (⟨#[]⟩, false)) else (⟨#[]⟩, false))
    have ec : bt s 0 = c := by rw [bt_eq, hc]; rfl
    have hd : (bts s).drop 1 = l := by rw [hc]; rfl
    refine ev_ite (fun h => ?_) (fun h => ?_)
    · have : l = [] := List.length_eq_zero_iff.1 (by omega)
      subst this
      rw [show unq [] = none from by rw [unq]]
      simp only [ite_self]
      exact bad
    · refine ev_pos (by omega) ?_
      rw [ec]
      refine ev_ite (fun h2 => ?_) (fun h2 => ?_)
      · rw [if_pos h2]
        have z := spec_l2End_ev s 0 hs (by omega)
        rw [show (0 : Nat) + 1 = 1 from rfl, hd] at z
        refine ev_bind _ z ?_
        cases hu : unq l with
        | none =>
          refine Ev.step (fun k => by rw [spec_UnquoteText.j0]) ?_
          exact ev_pos (by simp only [lEnd, bne_iff_ne, ne_eq]; omega) (ev_const rfl)
        | some p =>
          obtain ⟨t, q⟩ := p
          cases q with
          | nil =>
            refine Ev.step (fun k => by rw [spec_UnquoteText.j0]) ?_
            refine ev_neg (by simp [lEnd]) ?_
            have z := spec_Unq_l0 s hs s.size 1 [] t (by omega) (by omega) (by simp) (by rw [hd]; exact hu)
            exact z
          | cons d q =>
            have := unq_len _ _ _ _ (Nat.le_refl _) hu
            refine Ev.step (fun k => by rw [spec_UnquoteText.j0]) ?_
            exact ev_pos (by simp only [lEnd, List.length_cons, bne_iff_ne, ne_eq]; omega) (ev_const rfl)
      · rw [if_neg h2]
        exact bad

/-! #### impl_quotedEnd -/
def qEnd (s : ByteArray) (acc : List Int) : Option (List Int × List Int) → Int × ByteArray
  | none => (0, ⟨#[]⟩)
  | some (t, q) => ((s.size : Int) - q.length, strOfNums (acc ++ t))
theorem impl_quotedEnd_l0 (s : ByteArray) (hs : s.size ≤ 35184372088832) : ∀ (n i : Nat) (acc : List Int), s.size - i ≤ n → i ≤ s.size → acc.length ≤ i → Ev (fun k => impl_quotedEnd.l0 k s acc i) (qEnd s acc (unq ((bts s).drop i))) := by
  intro n
  induction n with
  | zero =>
    intro i acc hi hi2 ha
    refine Ev.step (fun k => by rw [impl_quotedEnd.l0]) ?_
    refine ev_neg (by omega) (ev_const ?_)
    rw [List.drop_eq_nil_of_le (by rw [bts_length]; omega)]; rfl
  | succ n ih =>
    intro i acc hi hi2 ha
    by_cases hlt : i < s.size
    · have e2 : wrap64 ((i : Int) + 1) = ((i + 1 : Nat) : Int) := by rw [w64 (by omega) (by omega)]; omega
      have e3 : wrap64 (((i + 1 : Nat) : Int) + 1) = ((i + 2 : Nat) : Int) := by rw [w64 (by omega) (by omega)]; omega
      refine Ev.step (fun k => by rw [impl_quotedEnd.l0]) ?_
      refine ev_pos (by omega) (ev_pos (by omega) ?_)
      rw [e2, e3, drop_at hlt, unq_cons]
      refine ev_ite (fun h => ?_) (fun h => ?_)
      · rw [if_pos h]
        refine ev_const ?_
        show some ((((i + 1 : Nat)) : Int), strOfNums acc) = some ((s.size : Int) - (((bts s).drop (i + 1)).length : Int), strOfNums (acc ++ []))
        rw [List.append_nil, List.length_drop, bts_length]
        congr 2
        omega
      · rw [if_neg h]
        refine ev_ite (fun h2 => ?_) (fun h2 => ?_)
        · rw [if_pos h2]
          refine ev_ite (fun h3 => ?_) (fun h3 => ?_)
          · rw [List.drop_eq_nil_of_le (by rw [bts_length]; omega)]
            exact ev_const rfl
          · rw [drop_at (show i + 1 < s.size by omega)]
            simp only []
            have z := ih (i + 2) (acc ++ [bt s ((i + 1 : Nat) : Int)]) (by omega) (by omega) (by simp; omega)
            have e5 : ∀ o : Option (List Int × List Int), qEnd s (acc ++ [bt s ((i + 1 : Nat) : Int)]) o = qEnd s acc (o.map (fun z => (bt s ((i + 1 : Nat) : Int) :: z.1, z.2))) := by
              intro o; cases o <;> simp [qEnd]
            rw [e5] at z
            refine ev_pos (by omega) (ev_pos (by omega) (ev_ite (fun h4 => ?_) (fun h4 => ev_ite (fun h5 => ?_) (fun h5 => ?_))))
            · rw [if_pos (.inl h4)]
              exact ev_pos (by omega) z
            · rw [if_pos (.inr h5)]
              exact ev_pos (by omega) z
            · rw [if_neg (by omega)]
              exact ev_const rfl
        · rw [if_neg h2]
          have z := ih (i + 1) (acc ++ [bt s (i : Int)]) (by omega) (by omega) (by simp; omega)
          have e5 : ∀ o : Option (List Int × List Int), qEnd s (acc ++ [bt s (i : Int)]) o = qEnd s acc (o.map (fun z => (bt s (i : Int) :: z.1, z.2))) := by
            intro o; cases o <;> simp [qEnd]
          rw [e5] at z
          exact ev_pos (by omega) z
    · refine Ev.step (fun k => by rw [impl_quotedEnd.l0]) ?_
      refine ev_neg (by omega) (ev_const ?_)
      rw [List.drop_eq_nil_of_le (by rw [bts_length]; omega)]; rfl
def mQuotedEnd (s : ByteArray) : Int × ByteArray :=
  match bts s with
  | [] => (0, ⟨#[]⟩)
  | c :: l => if c = 34 then qEnd s [] (unq l) else (0, ⟨#[]⟩)
theorem impl_quotedEnd_ev (s : ByteArray) (hs : s.size ≤ 35184372088832) : Ev (fun k => impl_quotedEnd.f k s) (mQuotedEnd s) := by
  have hl := bts_length s
  simp only [impl_quotedEnd.f]
  unfold mQuotedEnd
  cases hc : bts s with
  | nil =>
    rw [hc] at hl
    simp only [List.length_nil] at hl
    refine ev_pos (toList_nil.2 (by omega)) (Ev.step (fun k => by rw [impl_quotedEnd.j0]) ?_)
    exact ev_pos (by simp) (ev_const rfl)
  | cons c l =>
    rw [hc] at hl
    simp only [List.length_cons] at hl
    show Ev _ (if c = 34 then qEnd s [] (unq l) else (0, ⟨#[]⟩))
    have ec : bt s 0 = c := by rw [bt_eq, hc]; rfl
    have hd : (bts s).drop 1 = l := by rw [hc]; rfl
    refine ev_neg (fun h => by have := toList_nil.1 h; omega) (ev_pos (by omega) (Ev.step (fun k => by rw [impl_quotedEnd.j0]) ?_))
    rw [ec]
    by_cases h : c = 34
    · rw [if_pos h]
      refine ev_neg (by simp [h]) ?_
      have z := impl_quotedEnd_l0 s hs s.size 1 [] (by omega) (by omega) (by simp)
      rw [hd] at z
      exact z
    · rw [if_neg h]
      exact ev_pos (by simpa using h) (ev_const rfl)

theorem impl_UnquoteText_ev (s : ByteArray) (hs : s.size ≤ 35184372088832) : Ev (fun k => impl_UnquoteText.f k s) (mUnquote s) := by
  simp only [impl_UnquoteText.f]
  refine ev_bind _ (impl_quotedEnd_ev s hs) ?_
  have hl := bts_length s
  unfold mQuotedEnd mUnquote
  cases hc : bts s with
  | nil => exact ev_pos (by simp) (ev_const rfl)
  | cons c l =>
    rw [hc] at hl
    simp only [List.length_cons] at hl
    by_cases h : c = 34
    · simp only [if_pos h]
      cases hu : unq l with
      | none => exact ev_pos (show (0 : Int) = 0 from rfl) (ev_const rfl)
      | some p =>
        obtain ⟨t, q⟩ := p
        have := unq_len _ _ _ _ (Nat.le_refl _) hu
        refine ev_neg (by simp only [qEnd]; omega) ?_
        cases q with
        | nil => exact ev_pos (by simp [qEnd]) (ev_const (by simp [qEnd]))
        | cons d q => exact ev_neg (by simp only [qEnd, List.length_cons]; omega) (ev_const rfl)
    · simp only [if_neg h]
      exact ev_pos (by simp) (ev_const rfl)
theorem FnExactUnquoteText : laws_FnExactUnquoteText.Pure := by
  intro s hs
  refine Ev.rounds ?_
  simp only [laws_FnExactUnquoteText.f]
  refine ev_ite (fun _ => ev_const rfl) (fun _ => ?_)
  refine ev_bind _ (spec_UnquoteText_ev s (by omega)) (ev_bind _ (impl_UnquoteText_ev s (by omega)) ?_)
  exact ev_pos (by simp) (ev_neg (by simp) (ev_const rfl))

end Go.Proofs.Ytokoikpafnbblaa.Pure.LFnExactUnquoteText
namespace Go.Proofs.Ytokoikpafnbblaa.Pure
theorem FnExactUnquoteText : PFnExactUnquoteText.laws_FnExactUnquoteText.Pure := LFnExactUnquoteText.FnExactUnquoteText
end Go.Proofs.Ytokoikpafnbblaa.Pure
