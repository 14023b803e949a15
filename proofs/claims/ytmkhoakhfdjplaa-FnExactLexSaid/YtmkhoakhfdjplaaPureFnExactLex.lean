/- For every string, the program's Lex returns what the reference's Lex returns; and marks laid into the result stay. -/
import Derived.Test.YtmkhoakhfdjplaaPFnExactLexx0
import Derived.Test.YtmkhoakhfdjplaaPFnExactLexx1
import Derived.Test.YtmkhoakhfdjplaaPFnExactLexx2
import Derived.Test.YtmkhoakhfdjplaaPFnExactLexx3
import Derived.Test.YtmkhoakhfdjplaaPFnExactLexx4
import Derived.Test.YtmkhoakhfdjplaaPFnExactLexx5
import Derived.Test.YtmkhoakhfdjplaaPFnExactLexx6
import Derived.Test.YtmkhoakhfdjplaaPFnExactLexx7
import Derived.Test.YtmkhoakhfdjplaaPFnExactLexx8
import Derived.Test.YtmkhoakhfdjplaaBase
import Derived.Lib.Bytealg
import Derived.Lib.Bytealg
namespace Go.Proofs.Ytmkhoakhfdjplaa.Pure.LFnExactLex
open Go.RowKit Go.Proofs.Ytmkhoakhfdjplaa.PFnExactLex Go.Proofs.YtmkhoakhfdjplaaW.PrintWords Go.Proofs.YtmkhoakhfdjplaaW.PrintLast Go.Proofs.YtmkhoakhfdjplaaW.PrintMore Go.Proofs.Ytmkhoakhfdjplaa.Base
set_option linter.unusedVariables false
set_option linter.unusedSimpArgs false

/-! #### the law's own helpers -/
def mustr : List ByteArray → Nat
  | [] => 0
  | x :: l => x.size + mustr l
theorem mustr_mem {l : List ByteArray} {x : ByteArray} (h : x ∈ l) : x.size ≤ mustr l := by
  induction l with
  | nil => cases h
  | cons y l ih =>
    simp only [mustr]
    rcases List.mem_cons.1 h with rfl | h
    · omega
    · have := ih h; omega
theorem mustr_append (l l' : List ByteArray) : mustr (l ++ l') = mustr l + mustr l' := by
  induction l with
  | nil => simp [mustr]
  | cons x l ih => simp only [List.cons_append, mustr, ih]; omega
def ms44 (x : S44) : Nat := (x.f1.size + 0)
def mu44 : List S44 → Nat
  | [] => 0
  | x :: l => ms44 x + mu44 l
theorem mu44_append (l l' : List S44) : mu44 (l ++ l') = mu44 l + mu44 l' := by
  induction l with
  | nil => simp [mu44]
  | cons x l ih => simp only [List.cons_append, mu44, ih]; omega
theorem mu44_mem {l : List S44} {x : S44} (h : x ∈ l) : ms44 x ≤ mu44 l := by
  induction l with
  | nil => cases h
  | cons y l ih =>
    simp only [mu44]
    rcases List.mem_cons.1 h with rfl | h
    · omega
    · have := ih h; omega
theorem eqToken_ev (v0 : Int) (v1 : ByteArray) (v2 : Int) (hm : (v1.size + 0) ≤ 4611686018427387904) : Ev (fun k => laws_eqToken.f v0 v1 v2 v0 v1 v2) true := by
  simp only [laws_eqToken.f]
  refine ev_pos (by simp) ?_
  refine ev_pos (by simp) ?_
  refine ev_pos (by simp) ?_
  exact ev_const rfl
theorem eqTokenS_l0 : ∀ (suf pre : List S44) (hb : (pre ++ suf).length ≤ 4611686018427387904) (hm : mu44 suf ≤ 4611686018427387904), Ev (fun k => laws_eqTokenS.l0 k (pre ++ suf) (pre ++ suf) (pre.length : Int)) true
  | [], pre, hb, hm => by
    refine Ev.step (fun k => by rw [laws_eqTokenS.l0]) ?_
    exact ev_neg (by simp) (ev_const rfl)
  | x :: suf, pre, hb, hm => by
    have ex : rd_T44 (pre ++ x :: suf) (pre.length : Int) = x := by unfold rd_T44; exact at_pre pre suf x _
    have hb' := hb
    simp only [List.length_append, List.length_cons] at hb'
    rw [mu44] at hm
    refine Ev.step (fun k => by rw [laws_eqTokenS.l0]) ?_
    refine ev_pos (by simp only [List.length_append, List.length_cons]; omega) (ev_pos (by omega) (ev_pos (by simp only [List.length_append, List.length_cons]; omega) ?_))
    rw [ex]
    refine ev_bind _ (eqToken_ev _ _ _ (by first | (simp only [ms44] at hm; omega) | omega)) (ev_pos (by simp) ?_)
    rw [next_pre pre x (by omega)]
    have z := eqTokenS_l0 suf (pre ++ [x]) (by simpa using hb) (by omega)
    rw [List.append_assoc] at z
    exact z
theorem eqTokenS_ev (l : List S44) (hm : (l.length + mu44 l) ≤ 4611686018427387904) : Ev (fun k => laws_eqTokenS.f k l l) true := by
  simp only [laws_eqTokenS.f]
  refine ev_pos (by simp) ?_
  exact eqTokenS_l0 l [] (by rw [List.nil_append]; omega) (by omega)

/-! #### l1In -/
theorem spec_l1In_eq (a b c : Int) : spec_l1In.f a b c = some (decide (b ≤ a) && decide (a ≤ c)) := by
  unfold spec_l1In.f
  by_cases h : a ≥ b
  · rw [if_pos h, decide_eq_true h, Bool.true_and]
  · rw [if_neg h, decide_eq_false h, Bool.false_and]

/-! #### mName -/
def lowerB (c : Int) : Bool := decide (97 ≤ c) && decide (c ≤ 122)
def digitB (c : Int) : Bool := decide (48 ≤ c) && decide (c ≤ 57)
def nameB (c : Int) : Bool := lowerB c || (digitB c || decide (c = 45))
def lastOk (s : ByteArray) : Bool := decide ((bts s).getD (s.size - 1) 0 ≠ 45)
def mIsName (s : ByteArray) : Bool :=
  match bts s with
  | [] => false
  | c :: l => (lowerB c && l.all nameB) && (decide (s.size ≤ 16) && lastOk s)

/-! #### isByte -/
theorem isLower_eq (c : Int) : impl_isLower.f c = some (lowerB c) := by
  unfold impl_isLower.f lowerB
  by_cases h : c ≥ 97
  · rw [if_pos h, decide_eq_true h, Bool.true_and]
  · rw [if_neg h, decide_eq_false h, Bool.false_and]
theorem isDigit_eq (c : Int) : impl_isDigit.f c = some (digitB c) := by
  unfold impl_isDigit.f digitB
  by_cases h : c ≥ 48
  · rw [if_pos h, decide_eq_true h, Bool.true_and]
  · rw [if_neg h, decide_eq_false h, Bool.false_and]
theorem isNameByte_eq (c : Int) : impl_isNameByte.f c = some (nameB c) := by
  unfold impl_isNameByte.f nameB
  rw [isLower_eq, isDigit_eq]
  simp only [Option.bind_some]
  cases lowerB c <;> cases digitB c <;> simp [BEq.beq]

/-! #### unq -/
/-- What the bytes behind an opening quotation mark mean, and what stands behind the closing one. -/
def unq : List Int → Option (List Int × List Int)
  | [] => none
  | c :: r =>
    if c = 34 then some ([], r)
    else if c = 92 then
      match r with
      | [] => none
      | d :: r' => if d = 34 ∨ d = 92 then (unq r').map (fun z => (d :: z.1, z.2)) else none
    else (unq r).map (fun z => (c :: z.1, z.2))
theorem unq_cons (c : Int) (r : List Int) : unq (c :: r) = if c = 34 then some ([], r) else if c = 92 then (match r with | [] => none | d :: r' => if d = 34 ∨ d = 92 then (unq r').map (fun z => (d :: z.1, z.2)) else none) else (unq r).map (fun z => (c :: z.1, z.2)) := by
  rw [unq.eq_def]
theorem unq_len : ∀ (n : Nat) (l t q : List Int), l.length ≤ n → unq l = some (t, q) → t.length + q.length < l.length := by
  intro n
  induction n with
  | zero =>
    intro l t q hl h
    cases l with
    | nil => simp [unq] at h
    | cons c r => simp at hl
  | succ n ih =>
    intro l t q hl h
    cases l with
    | nil => simp [unq] at h
    | cons c r =>
      rw [unq_cons] at h
      simp only [List.length_cons] at hl ⊢
      split at h
      · simp only [Option.some.injEq, Prod.mk.injEq] at h
        obtain ⟨rfl, rfl⟩ := h
        simp
      · split at h
        · split at h
          · cases h
          · rename_i d r'
            simp only [List.length_cons] at hl ⊢
            split at h
            · obtain ⟨⟨t', q'⟩, h1, h2⟩ := Option.map_eq_some_iff.1 h
              simp only [Prod.mk.injEq] at h2
              obtain ⟨rfl, rfl⟩ := h2
              have := ih r' t' q' (by omega) h1
              simp only [List.length_cons]
              omega
            · cases h
        · obtain ⟨⟨t', q'⟩, h1, h2⟩ := Option.map_eq_some_iff.1 h
          simp only [Prod.mk.injEq] at h2
          obtain ⟨rfl, rfl⟩ := h2
          have := ih r t' q' (by omega) h1
          simp only [List.length_cons]
          omega
theorem drop_at {s : ByteArray} {i : Nat} (h : i < s.size) : (bts s).drop i = bt s i :: (bts s).drop (i + 1) := by
  rw [drop_cons (z := 0) (by rw [bts_length]; exact h), bt_eq, Int.toNat_natCast]

/-! #### spec_Unquote -/
def lEnd (s : ByteArray) : Option (List Int × List Int) → Int
  | none => -1
  | some (_, q) => (s.size : Int) - q.length
theorem spec_l2End_l0 (s : ByteArray) (hs : s.size ≤ 35184372088832) : ∀ (n i : Nat), s.size - i ≤ n → i ≤ s.size → Ev (fun k => spec_l2End.l0 k s i) (lEnd s (unq ((bts s).drop i))) := by
  intro n
  induction n with
  | zero =>
    intro i hi hi2
    refine Ev.step (fun k => by rw [spec_l2End.l0]) ?_
    refine ev_neg (by omega) (ev_const ?_)
    rw [List.drop_eq_nil_of_le (by rw [bts_length]; omega)]; rfl
  | succ n ih =>
    intro i hi hi2
    by_cases hlt : i < s.size
    · have e2 : wrap64 ((i : Int) + 1) = ((i + 1 : Nat) : Int) := by rw [w64 (by omega) (by omega)]; omega
      have e3 : wrap64 (((i + 1 : Nat) : Int) + 1) = ((i + 2 : Nat) : Int) := by rw [w64 (by omega) (by omega)]; omega
      have em : ∀ (c : Int) (o : Option (List Int × List Int)), lEnd s (o.map (fun z => (c :: z.1, z.2))) = lEnd s o := by
        intro c o; cases o <;> rfl
      refine Ev.step (fun k => by rw [spec_l2End.l0]) ?_
      refine ev_pos (by omega) (ev_pos (by omega) ?_)
      rw [e2, drop_at hlt, unq_cons]
      refine ev_ite (fun h => ?_) (fun h => ?_)
      · rw [if_pos h]
        refine ev_const ?_
        show some (((i + 1 : Nat)) : Int) = some ((s.size : Int) - (((bts s).drop (i + 1)).length : Int))
        rw [List.length_drop, bts_length]
        congr 1
        omega
      · rw [if_neg h]
        refine ev_ite (fun h2 => ?_) (fun h2 => ?_)
        · rw [if_pos h2]
          refine ev_ite (fun h3 => ?_) (fun h3 => ?_)
          · rw [List.drop_eq_nil_of_le (by rw [bts_length]; omega)]
            refine Ev.step (fun k => by rw [spec_l2End.j1]) ?_
            exact ev_pos rfl (ev_const rfl)
          · have h1 : i + 1 < s.size := by omega
            rw [drop_at h1]
            simp only []
            have z := ih (i + 2) (by omega) (by omega)
            refine ev_pos (by omega) (ev_pos (by omega) (ev_ite (fun h4 => ?_) (fun h4 => ?_)))
            · rw [if_pos (.inl h4), em]
              refine Ev.step (fun k => by rw [spec_l2End.j1]) ?_
              refine ev_neg (by simp) (ev_pos (by omega) (ev_pos (by omega) (ev_pos h2 ?_)))
              rw [e2, e3]; exact z
            · refine Ev.step (fun k => by rw [spec_l2End.j1]) ?_
              by_cases h5 : bt s ((i + 1 : Nat) : Int) = 92
              · rw [if_pos (.inr h5), em]
                refine ev_neg (by rw [h5]; decide) (ev_pos (by omega) (ev_pos (by omega) (ev_pos h2 ?_)))
                rw [e2, e3]; exact z
              · rw [if_neg (by omega)]
                exact ev_pos (by simpa using h5) (ev_const rfl)
        · rw [if_neg h2, em]
          refine Ev.step (fun k => by rw [spec_l2End.j1]) ?_
          refine ev_neg (by simp) (ev_pos (by omega) (ev_pos (by omega) (ev_neg h2 ?_)))
          rw [e2]
          exact ih (i + 1) (by omega) (by omega)
    · refine Ev.step (fun k => by rw [spec_l2End.l0]) ?_
      refine ev_neg (by omega) (ev_const ?_)
      rw [List.drop_eq_nil_of_le (by rw [bts_length]; omega)]; rfl
theorem spec_l2End_ev (s : ByteArray) (i : Nat) (hs : s.size ≤ 35184372088832) (hi : i < s.size) : Ev (fun k => spec_l2End.f k s i) (lEnd s (unq ((bts s).drop (i + 1)))) := by
  have e2 : wrap64 ((i : Int) + 1) = ((i + 1 : Nat) : Int) := by rw [w64 (by omega) (by omega)]; omega
  simp only [spec_l2End.f]
  rw [e2]
  exact spec_l2End_l0 s hs s.size (i + 1) (by omega) (by omega)
theorem spec_Unq_l0 (s : ByteArray) (hs : s.size ≤ 35184372088832) : ∀ (n i : Nat) (acc t : List Int), s.size - i ≤ n → i ≤ s.size → acc.length ≤ i → unq ((bts s).drop i) = some (t, []) → Ev (fun k => spec_UnquoteText.l0 k s acc i) (strOfNums (acc ++ t), true) := by
  intro n
  induction n with
  | zero =>
    intro i acc t hi hi2 ha hu
    rw [List.drop_eq_nil_of_le (by rw [bts_length]; omega)] at hu
    simp [unq] at hu
  | succ n ih =>
    intro i acc t hi hi2 ha hu
    by_cases hlt : i < s.size
    · have e1 : wrap64 ((s.size : Int) - 1) = ((s.size - 1 : Nat) : Int) := by rw [w64 (by omega) (by omega)]; omega
      have e2 : wrap64 ((i : Int) + 1) = ((i + 1 : Nat) : Int) := by rw [w64 (by omega) (by omega)]; omega
      have e3 : wrap64 (((i + 1 : Nat) : Int) + 1) = ((i + 2 : Nat) : Int) := by rw [w64 (by omega) (by omega)]; omega
      refine Ev.step (fun k => by rw [spec_UnquoteText.l0]) ?_
      rw [e1, e2, e3]
      rw [drop_at hlt, unq_cons] at hu
      by_cases h : bt s (i : Int) = 34
      · rw [if_pos h] at hu
        simp only [Option.some.injEq, Prod.mk.injEq] at hu
        obtain ⟨rfl, hq⟩ := hu
        have := congrArg List.length hq
        rw [List.length_drop, bts_length, List.length_nil] at this
        refine ev_neg (by omega) (ev_const ?_)
        rw [List.append_nil]
      · rw [if_neg h] at hu
        have h1 : i + 1 < s.size := by
          rcases Nat.lt_or_ge (i + 1) s.size with hh | hh
          · exact hh
          · rw [List.drop_eq_nil_of_le (by rw [bts_length]; omega)] at hu
            split at hu <;> simp [unq] at hu
        refine ev_pos (by omega) (ev_pos (by omega) (ev_pos (by omega) (ev_ite (fun h2 => ?_) (fun h2 => ?_))))
        · rw [if_pos h2, drop_at h1] at hu
          simp only [] at hu
          split at hu
          · obtain ⟨⟨t', q'⟩, h3, h4⟩ := Option.map_eq_some_iff.1 hu
            simp only [Prod.mk.injEq] at h4
            obtain ⟨rfl, rfl⟩ := h4
            refine ev_pos (by omega) (ev_pos (by omega) (ev_pos (by omega) ?_))
            have z := ih (i + 2) (acc ++ [bt s ((i + 1 : Nat) : Int)]) t' (by omega) (by omega) (by simp; omega) h3
            simpa using z
          · cases hu
        · rw [if_neg h2] at hu
          obtain ⟨⟨t', q'⟩, h3, h4⟩ := Option.map_eq_some_iff.1 hu
          simp only [Prod.mk.injEq] at h4
          obtain ⟨rfl, rfl⟩ := h4
          refine ev_pos (by omega) ?_
          have z := ih (i + 1) (acc ++ [bt s (i : Int)]) t' (by omega) (by omega) (by simp; omega) h3
          simpa using z
    · rw [List.drop_eq_nil_of_le (by rw [bts_length]; omega)] at hu
      simp [unq] at hu
def mUnquote (s : ByteArray) : ByteArray × Bool :=
  match bts s with
  | [] => (⟨#[]⟩, false)
  | c :: l => if c = 34 then (match unq l with | some (t, []) => (strOfNums t, true) | _ => (⟨#[]⟩, false)) else (⟨#[]⟩, false)
theorem spec_UnquoteText_ev (s : ByteArray) (hs : s.size ≤ 35184372088832) : Ev (fun k => spec_UnquoteText.f k s) (mUnquote s) := by
  have hl := bts_length s
  simp only [spec_UnquoteText.f]
  unfold mUnquote
  have bad : Ev (fun k => spec_UnquoteText.j0 k s true) (⟨#[]⟩, false) := by
    refine Ev.step (fun k => by rw [spec_UnquoteText.j0]) ?_
    exact ev_pos rfl (ev_const rfl)
  cases hc : bts s with
  | nil =>
    rw [hc] at hl
    simp only [List.length_nil] at hl
    exact ev_pos (by omega) bad
  | cons c l =>
    rw [hc] at hl
    simp only [List.length_cons] at hl
    show Ev _ (if c = 34 then (match unq l with | some (t, []) => (strOfNums t, true) | _ => (⟨#[]⟩, false)) else (⟨#[]⟩, false))
    have ec : bt s 0 = c := by rw [bt_eq, hc]; rfl
    have hd : (bts s).drop 1 = l := by rw [hc]; rfl
    refine ev_ite (fun h => ?_) (fun h => ?_)
    · have : l = [] := List.length_eq_zero_iff.1 (by omega)
      subst this
      rw [show unq [] = none from by rw [unq]]
      simp only [ite_self]
      exact bad
    · refine ev_pos (by omega) ?_
      rw [ec]
      refine ev_ite (fun h2 => ?_) (fun h2 => ?_)
      · rw [if_pos h2]
        have z := spec_l2End_ev s 0 hs (by omega)
        rw [show (0 : Nat) + 1 = 1 from rfl, hd] at z
        refine ev_bind _ z ?_
        cases hu : unq l with
        | none =>
          refine Ev.step (fun k => by rw [spec_UnquoteText.j0]) ?_
          exact ev_pos (by simp only [lEnd, bne_iff_ne, ne_eq]; omega) (ev_const rfl)
        | some p =>
          obtain ⟨t, q⟩ := p
          cases q with
          | nil =>
            refine Ev.step (fun k => by rw [spec_UnquoteText.j0]) ?_
            refine ev_neg (by simp [lEnd]) ?_
            have z := spec_Unq_l0 s hs s.size 1 [] t (by omega) (by omega) (by simp) (by rw [hd]; exact hu)
            exact z
          | cons d q =>
            have := unq_len _ _ _ _ (Nat.le_refl _) hu
            refine Ev.step (fun k => by rw [spec_UnquoteText.j0]) ?_
            exact ev_pos (by simp only [lEnd, List.length_cons, bne_iff_ne, ne_eq]; omega) (ev_const rfl)
      · rw [if_neg h2]
        exact bad

/-! #### impl_quotedEnd -/
def qEnd (s : ByteArray) (acc : List Int) : Option (List Int × List Int) → Int × ByteArray
  | none => (0, ⟨#[]⟩)
  | some (t, q) => ((s.size : Int) - q.length, strOfNums (acc ++ t))
theorem impl_quotedEnd_l0 (s : ByteArray) (hs : s.size ≤ 35184372088832) : ∀ (n i : Nat) (acc : List Int), s.size - i ≤ n → i ≤ s.size → acc.length ≤ i → Ev (fun k => impl_quotedEnd.l0 k s acc i) (qEnd s acc (unq ((bts s).drop i))) := by
  intro n
  induction n with
  | zero =>
    intro i acc hi hi2 ha
    refine Ev.step (fun k => by rw [impl_quotedEnd.l0]) ?_
    refine ev_neg (by omega) (ev_const ?_)
    rw [List.drop_eq_nil_of_le (by rw [bts_length]; omega)]; rfl
  | succ n ih =>
    intro i acc hi hi2 ha
    by_cases hlt : i < s.size
    · have e2 : wrap64 ((i : Int) + 1) = ((i + 1 : Nat) : Int) := by rw [w64 (by omega) (by omega)]; omega
      have e3 : wrap64 (((i + 1 : Nat) : Int) + 1) = ((i + 2 : Nat) : Int) := by rw [w64 (by omega) (by omega)]; omega
      refine Ev.step (fun k => by rw [impl_quotedEnd.l0]) ?_
      refine ev_pos (by omega) (ev_pos (by omega) ?_)
      rw [e2, e3, drop_at hlt, unq_cons]
      refine ev_ite (fun h => ?_) (fun h => ?_)
      · rw [if_pos h]
        refine ev_const ?_
        show some ((((i + 1 : Nat)) : Int), strOfNums acc) = some ((s.size : Int) - (((bts s).drop (i + 1)).length : Int), strOfNums (acc ++ []))
        rw [List.append_nil, List.length_drop, bts_length]
        congr 2
        omega
      · rw [if_neg h]
        refine ev_ite (fun h2 => ?_) (fun h2 => ?_)
        · rw [if_pos h2]
          refine ev_ite (fun h3 => ?_) (fun h3 => ?_)
          · rw [List.drop_eq_nil_of_le (by rw [bts_length]; omega)]
            exact ev_const rfl
          · rw [drop_at (show i + 1 < s.size by omega)]
            simp only []
            have z := ih (i + 2) (acc ++ [bt s ((i + 1 : Nat) : Int)]) (by omega) (by omega) (by simp; omega)
            have e5 : ∀ o : Option (List Int × List Int), qEnd s (acc ++ [bt s ((i + 1 : Nat) : Int)]) o = qEnd s acc (o.map (fun z => (bt s ((i + 1 : Nat) : Int) :: z.1, z.2))) := by
              intro o; cases o <;> simp [qEnd]
            rw [e5] at z
            refine ev_pos (by omega) (ev_pos (by omega) (ev_ite (fun h4 => ?_) (fun h4 => ev_ite (fun h5 => ?_) (fun h5 => ?_))))
            · rw [if_pos (.inl h4)]
              exact ev_pos (by omega) z
            · rw [if_pos (.inr h5)]
              exact ev_pos (by omega) z
            · rw [if_neg (by omega)]
              exact ev_const rfl
        · rw [if_neg h2]
          have z := ih (i + 1) (acc ++ [bt s (i : Int)]) (by omega) (by omega) (by simp; omega)
          have e5 : ∀ o : Option (List Int × List Int), qEnd s (acc ++ [bt s (i : Int)]) o = qEnd s acc (o.map (fun z => (bt s (i : Int) :: z.1, z.2))) := by
            intro o; cases o <;> simp [qEnd]
          rw [e5] at z
          exact ev_pos (by omega) z
    · refine Ev.step (fun k => by rw [impl_quotedEnd.l0]) ?_
      refine ev_neg (by omega) (ev_const ?_)
      rw [List.drop_eq_nil_of_le (by rw [bts_length]; omega)]; rfl
def mQuotedEnd (s : ByteArray) : Int × ByteArray :=
  match bts s with
  | [] => (0, ⟨#[]⟩)
  | c :: l => if c = 34 then qEnd s [] (unq l) else (0, ⟨#[]⟩)
theorem impl_quotedEnd_ev (s : ByteArray) (hs : s.size ≤ 35184372088832) : Ev (fun k => impl_quotedEnd.f k s) (mQuotedEnd s) := by
  have hl := bts_length s
  simp only [impl_quotedEnd.f]
  unfold mQuotedEnd
  cases hc : bts s with
  | nil =>
    rw [hc] at hl
    simp only [List.length_nil] at hl
    refine ev_pos (toList_nil.2 (by omega)) (Ev.step (fun k => by rw [impl_quotedEnd.j0]) ?_)
    exact ev_pos (by simp) (ev_const rfl)
  | cons c l =>
    rw [hc] at hl
    simp only [List.length_cons] at hl
    show Ev _ (if c = 34 then qEnd s [] (unq l) else (0, ⟨#[]⟩))
    have ec : bt s 0 = c := by rw [bt_eq, hc]; rfl
    have hd : (bts s).drop 1 = l := by rw [hc]; rfl
    refine ev_neg (fun h => by have := toList_nil.1 h; omega) (ev_pos (by omega) (Ev.step (fun k => by rw [impl_quotedEnd.j0]) ?_))
    rw [ec]
    by_cases h : c = 34
    · rw [if_pos h]
      refine ev_neg (by simp [h]) ?_
      have z := impl_quotedEnd_l0 s hs s.size 1 [] (by omega) (by omega) (by simp)
      rw [hd] at z
      exact z
    · rw [if_neg h]
      exact ev_pos (by simpa using h) (ev_const rfl)

/-! #### ibyte -/
theorem ib_lem (l : List UInt8) (c : UInt8) : -1 ≤ Lib.indexByte l c ∧ decide (Lib.indexByte l c ≥ 0) = l.any (fun b => b == c) := by
  induction l with
  | nil => exact ⟨show (-1 : Int) ≤ -1 by omega, rfl⟩
  | cons b l ih =>
    obtain ⟨h1, h2⟩ := ih
    rw [List.any_cons]
    unfold Lib.indexByte
    by_cases hb : (b == c) = true
    · rw [if_pos hb, hb]; exact ⟨by decide, rfl⟩
    · rw [if_neg hb, Bool.eq_false_iff.mpr hb, Bool.false_or, ← h2]
      by_cases hc : Lib.indexByte l c = -1
      · rw [hc]; exact ⟨by decide, by decide⟩
      · rw [if_neg (by simpa using hc)]
        refine ⟨by omega, ?_⟩
        simp only [decide_eq_decide]
        omega
theorem ib_bts (s : ByteArray) (x : Int) (h0 : 0 ≤ x) (h1 : x ≤ 255) : decide (Lib.indexByte s.data.toList x.toNat.toUInt8 ≥ 0) = (bts s).any fun y => y == x := by
  rw [(ib_lem _ _).2]
  unfold bts
  rw [List.any_map]
  congr 1
  funext b
  show (b == x.toNat.toUInt8) = ((b.toNat : Int) == x)
  by_cases hb : (b.toNat : Int) = x
  · have e : b = x.toNat.toUInt8 := by
      apply UInt8.toNat_inj.1
      show b.toNat = (UInt8.ofNat x.toNat).toNat
      rw [UInt8.toNat_ofNat']
      omega
    rw [beq_iff_eq.2 e, beq_iff_eq.2 hb]
  · have e : b ≠ x.toNat.toUInt8 := by
      intro e
      have e2 := congrArg UInt8.toNat e
      have e3 : (x.toNat.toUInt8).toNat = (UInt8.ofNat x.toNat).toNat := rfl
      rw [e3, UInt8.toNat_ofNat'] at e2
      omega
    rw [beq_eq_false_iff_ne.2 e, beq_eq_false_iff_ne.2 hb]
theorem bt_byte (s : ByteArray) (i : Int) : 0 ≤ bt s i ∧ bt s i ≤ 255 := by
  unfold bt
  split
  · rename_i h; have := UInt8.toNat_lt (s[i.toNat]'h); exact ⟨by omega, by omega⟩
  · exact ⟨by omega, by omega⟩

/-! #### Lex -/
abbrev TK := S44
theorem l3Letter_eq (s : ByteArray) (i : Int) : spec_l3Letter.f (bt s i) = some (lowerB (bt s i)) := by
  have h := bt_byte s i
  simp only [spec_l3Letter.f, spec_l1In_eq, w64 (show -9223372036854775808 ≤ bt s i by omega) (by omega), Option.bind_some]
  rfl
theorem l3Digit_eq (s : ByteArray) (i : Int) : spec_l3Digit.f (bt s i) = some (digitB (bt s i)) := by
  have h := bt_byte s i
  simp only [spec_l3Digit.f, spec_l1In_eq, w64 (show -9223372036854775808 ≤ bt s i by omega) (by omega), Option.bind_some]
  rfl
theorem size_ext (s : ByteArray) (i j : Nat) (h : j ≤ s.size) : (s.extract i j).size = j - i := by
  rw [← bts_length, bts_extract, List.length_drop, List.length_take, bts_length]; omega
theorem bt_ext (s : ByteArray) (i e j : Nat) (he : e ≤ s.size) (hj : i + j < e) : bt (s.extract i e) (j : Int) = bt s ((i + j : Nat) : Int) := by
  rw [bt_eq, bt_eq, bts_extract, Int.toNat_natCast, Int.toNat_natCast, List.getD_eq_getElem?_getD, List.getD_eq_getElem?_getD, List.getElem?_drop, List.getElem?_take_of_lt hj]
theorem ext_ext (s : ByteArray) (i e L : Nat) (he : e ≤ s.size) (hL : i + L ≤ e) : (s.extract i e).extract 0 L = s.extract i (i + L) := by
  apply bts_inj
  rw [bts_extract, bts_extract, bts_extract, List.drop_zero, List.take_drop, List.take_take, Nat.min_eq_left hL]
/-! names -/
theorem back_ev (s : ByteArray) (hs : s.size ≤ 1048576) (i : Nat) (h45 : bt s (i : Int) ≠ 45) : ∀ (j : Nat) (h1 : 1 ≤ j) (hj : i + j ≤ s.size), ∃ L : Nat, 1 ≤ L ∧ L ≤ j ∧ Ev (fun k => spec_l3Name.l1 k s ((i + j : Nat) : Int)) ((i + L : Nat) : Int) ∧ Ev (fun k => impl_tokenAt.l1 k (s.extract i s.size) (j : Int)) ((1 : Int), (s.extract i s.size).extract 0 L, (0 : Int), (L : Int))
  | 0, h1, hj => by omega
  | j + 1, h1, hj => by
    have hr := size_ext s i s.size (Nat.le_refl _)
    have e1 : wrap64 (((i + (j + 1) : Nat) : Int) - 1) = ((i + j : Nat) : Int) := by rw [w64 (by omega) (by omega)]; omega
    have e2 : wrap64 (((j + 1 : Nat) : Int) - 1) = (j : Int) := by rw [w64 (by omega) (by omega)]; omega
    have e3 := bt_ext s i s.size j (Nat.le_refl _) (by omega)
    by_cases hb : bt s ((i + j : Nat) : Int) = 45
    · have hj0 : 1 ≤ j := by
        rcases Nat.eq_zero_or_pos j with h | h
        · subst h; exact absurd hb h45
        · exact h
      obtain ⟨L, h2, h3, z1, z2⟩ := back_ev s hs i h45 j hj0 (by omega)
      refine ⟨L, h2, by omega, Ev.step (fun k => by rw [spec_l3Name.l1]) ?_, Ev.step (fun k => by rw [impl_tokenAt.l1]) ?_⟩
      · rw [e1]
        exact ev_pos (by omega) (ev_pos (by omega) (ev_pos hb z1))
      · rw [e2, e3]
        exact ev_pos (by omega) (ev_pos (by omega) (ev_pos hb z2))
    · refine ⟨j + 1, by omega, by omega, Ev.step (fun k => by rw [spec_l3Name.l1]) ?_, Ev.step (fun k => by rw [impl_tokenAt.l1]) ?_⟩
      · rw [e1]
        exact ev_pos (by omega) (ev_pos (by omega) (ev_neg hb (ev_const rfl)))
      · rw [e2, e3]
        exact ev_pos (by omega) (ev_pos (by omega) (ev_neg hb (ev_pos (by omega) (ev_pos (by omega) (ev_const (by rw [Int.toNat_natCast]))))))
theorem name_ev (s : ByteArray) (hs : s.size ≤ 1048576) (i : Nat) (h45 : bt s (i : Int) ≠ 45) : ∀ (m j : Nat) (h1 : 1 ≤ j) (hj : i + j + m = s.size), ∃ L : Nat, 1 ≤ L ∧ i + L ≤ s.size ∧ Ev (fun k => spec_l3Name.l0 k s ((i + j : Nat) : Int)) ((i + L : Nat) : Int) ∧ Ev (fun k => impl_tokenAt.l0 k (s.extract i s.size) (j : Int)) ((1 : Int), (s.extract i s.size).extract 0 L, (0 : Int), (L : Int)) := by
  have hr := size_ext s i s.size (Nat.le_refl _)
  intro m
  induction m with
  | zero =>
    intro j h1 hj
    obtain ⟨L, h2, h3, z1, z2⟩ := back_ev s hs i h45 j h1 (by omega)
    refine ⟨L, h2, by omega, Ev.step (fun k => by rw [spec_l3Name.l0]) ?_, Ev.step (fun k => by rw [impl_tokenAt.l0]) ?_⟩
    · refine ev_neg (by omega) (Ev.step (fun k => by rw [spec_l3Name.j1]) z1)
    · refine ev_neg (by omega) (Ev.step (fun k => by rw [impl_tokenAt.j1]) z2)
  | succ m ih =>
    intro j h1 hj
    have e1 : wrap64 (((i + j : Nat) : Int) + 1) = ((i + (j + 1) : Nat) : Int) := by rw [w64 (by omega) (by omega)]; omega
    have e2 : wrap64 ((j : Int) + 1) = ((j + 1 : Nat) : Int) := by rw [w64 (by omega) (by omega)]; omega
    have e3 := bt_ext s i s.size j (Nat.le_refl _) (by omega)
    by_cases hn : nameB (bt s ((i + j : Nat) : Int)) = true
    · obtain ⟨L, h2, h3, z1, z2⟩ := ih (j + 1) (by omega) (by omega)
      refine ⟨L, h2, h3, Ev.step (fun k => by rw [spec_l3Name.l0]) ?_, Ev.step (fun k => by rw [impl_tokenAt.l0]) ?_⟩
      · rw [e1]
        refine ev_pos (by omega) (ev_pos (by omega) (ev_let _ (l3Letter_eq _ _) ?_))
        refine ev_ite (fun _ => z1) (fun h4 => ev_let _ (l3Digit_eq _ _) (ev_ite (fun _ => z1) (fun h5 => ev_pos ?_ z1)))
        unfold nameB at hn
        rw [Bool.eq_false_iff.mpr h4, Bool.eq_false_iff.mpr h5, Bool.false_or, Bool.false_or] at hn
        exact of_decide_eq_true hn
      · rw [e2, e3]
        exact ev_pos (by omega) (ev_pos (by omega) (ev_let _ (isNameByte_eq _) (ev_pos hn z2)))
    · obtain ⟨L, h2, h3, z1, z2⟩ := back_ev s hs i h45 j h1 (by omega)
      refine ⟨L, h2, by omega, Ev.step (fun k => by rw [spec_l3Name.l0]) ?_, Ev.step (fun k => by rw [impl_tokenAt.l0]) ?_⟩
      · have hn' := Bool.eq_false_iff.mpr hn
        unfold nameB at hn'
        rw [Bool.or_eq_false_iff, Bool.or_eq_false_iff] at hn'
        refine ev_pos (by omega) (ev_pos (by omega) (ev_let _ (l3Letter_eq _ _) (ev_neg (by rw [hn'.1]; simp) (ev_let _ (l3Digit_eq _ _) (ev_neg (by rw [hn'.2.1]; simp) (ev_neg (of_decide_eq_false hn'.2.2) ?_))))))
        exact Ev.step (fun k => by rw [spec_l3Name.j1]) z1
      · rw [e3]
        refine ev_pos (by omega) (ev_pos (by omega) (ev_let _ (isNameByte_eq _) (ev_neg hn ?_)))
        exact Ev.step (fun k => by rw [impl_tokenAt.j1]) z2
/-! whole numbers -/
theorem num_ev (s : ByteArray) (hs : s.size ≤ 1048576) (i : Nat) (acc : List TK) (hacc : acc.length < 4398046511104) : ∀ (m j : Nat) (h1 : 1 ≤ j) (hj : i + j + m = s.size), ∃ L : Nat, 1 ≤ L ∧ i + L ≤ s.size ∧ (∀ r, Ev (fun k => spec_Lex.l0 k s (acc ++ [(⟨2, s.extract i (i + L), (i : Int)⟩ : TK)]) ((i + L : Nat) : Int)) r → Ev (fun k => spec_Lex.l2 k s acc ((i + j : Nat) : Int) (i : Int)) r) ∧ Ev (fun k => impl_tokenAt.l2 k (s.extract i s.size) (j : Int)) ((2 : Int), (s.extract i s.size).extract 0 L, (0 : Int), (L : Int)) := by
  have hr := size_ext s i s.size (Nat.le_refl _)
  intro m
  induction m with
  | zero =>
    intro j h1 hj
    refine ⟨j, h1, by omega, fun r z => Ev.step (fun k => by rw [spec_Lex.l2]) ?_, Ev.step (fun k => by rw [impl_tokenAt.l2]) ?_⟩
    · refine ev_neg (by omega) (ev_pos (by omega) (ev_pos (by omega) (ev_pos (by omega) (ev_pos hacc ?_))))
      rw [Int.toNat_natCast, Int.toNat_natCast]
      exact z
    · refine ev_neg (by omega) (ev_pos (by omega) (ev_pos (by omega) (ev_const (by rw [Int.toNat_natCast]))))
  | succ m ih =>
    intro j h1 hj
    have e1 : wrap64 (((i + j : Nat) : Int) + 1) = ((i + (j + 1) : Nat) : Int) := by rw [w64 (by omega) (by omega)]; omega
    have e2 : wrap64 ((j : Int) + 1) = ((j + 1 : Nat) : Int) := by rw [w64 (by omega) (by omega)]; omega
    have e3 := bt_ext s i s.size j (Nat.le_refl _) (by omega)
    by_cases hn : digitB (bt s ((i + j : Nat) : Int)) = true
    · obtain ⟨L, h2, h3, z1, z2⟩ := ih (j + 1) (by omega) (by omega)
      refine ⟨L, h2, h3, fun r z => Ev.step (fun k => by rw [spec_Lex.l2]) ?_, Ev.step (fun k => by rw [impl_tokenAt.l2]) ?_⟩
      · rw [e1]
        exact ev_pos (by omega) (ev_pos (by omega) (ev_let _ (l3Digit_eq _ _) (ev_pos hn (z1 r z))))
      · rw [e2, e3]
        exact ev_pos (by omega) (ev_pos (by omega) (ev_let _ (isDigit_eq _) (ev_pos hn z2)))
    · refine ⟨j, h1, by omega, fun r z => Ev.step (fun k => by rw [spec_Lex.l2]) ?_, Ev.step (fun k => by rw [impl_tokenAt.l2]) ?_⟩
      · refine ev_pos (by omega) (ev_pos (by omega) (ev_let _ (l3Digit_eq _ _) (ev_neg hn (ev_pos (by omega) (ev_pos (by omega) (ev_pos (by omega) (ev_pos hacc ?_)))))))
        rw [Int.toNat_natCast, Int.toNat_natCast]
        exact z
      · rw [e3]
        exact ev_pos (by omega) (ev_pos (by omega) (ev_let _ (isDigit_eq _) (ev_neg hn (ev_pos (by omega) (ev_const (by rw [Int.toNat_natCast]))))))
/-! marks -/
def marks : ByteArray := ⟨#[123, 125, 59, 91, 93, 40, 41, 60, 62, 61, 43, 45, 47, 124, 46, 44, 36, 58]⟩
theorem marks_size : marks.size = 18 := rfl
def mark1 (s : ByteArray) (i : Nat) (b : Bool) : ByteArray := if b = true then s.extract i (i + 1) else ⟨#[]⟩
theorem mark_l0 (s : ByteArray) (hs : s.size ≤ 1048576) (i : Nat) (hi : i < s.size) : ∀ (m j : Nat) (hj : j + m = 18), Ev (fun k => spec_l3Mark.l0 k s (i : Int) (j : Int)) (mark1 s i (((bts marks).drop j).any fun y => y == bt s (i : Int))) := by
  have e1 : wrap64 ((i : Int) + 1) = ((i + 1 : Nat) : Int) := by rw [w64 (by omega) (by omega)]; omega
  intro m
  induction m with
  | zero =>
    intro j hj
    refine Ev.step (fun k => by rw [spec_l3Mark.l0]) ?_
    rw [List.drop_eq_nil_of_le (by rw [bts_length, marks_size]; omega), List.any_nil]
    exact ev_neg (by omega) (ev_const rfl)
  | succ m ih =>
    intro j hj
    have e2 : wrap64 ((j : Int) + 1) = ((j + 1 : Nat) : Int) := by rw [w64 (by omega) (by omega)]; omega
    refine Ev.step (fun k => by rw [spec_l3Mark.l0]) ?_
    rw [drop_cons (z := 0) (by rw [bts_length, marks_size]; omega), List.any_cons, ← Int.toNat_natCast j, ← bt_eq, Int.toNat_natCast, e1, e2]
    refine ev_pos (by omega) (ev_pos (by omega) (ev_pos (by omega) (ev_pos (by omega) ?_)))
    refine ev_ite (fun h => ?_) (fun h => ?_)
    · have h' : (bt marks (j : Int) == bt s (i : Int)) = true := beq_iff_eq.2 h.symm
      rw [h', Bool.true_or]
      refine ev_pos (by omega) (ev_pos (by omega) (ev_const ?_))
      rw [Int.toNat_natCast, Int.toNat_natCast]; rfl
    · have h' : (bt marks (j : Int) == bt s (i : Int)) = false := beq_eq_false_iff_ne.2 (fun hh => h hh.symm)
      rw [h', Bool.false_or]
      exact ih (j + 1) (by omega)
theorem pre_eq (a : ByteArray) (x y : UInt8) : strings_HasPrefix.f a ⟨#[x, y]⟩ = some (decide (2 ≤ a.size) && ((a.extract 0 2).toList == ([x, y] : List UInt8))) := by
  have h2 : (⟨#[x, y]⟩ : ByteArray).size = 2 := rfl
  have h3 : (⟨#[x, y]⟩ : ByteArray).toList = [x, y] := by rw [toList_data]
  simp only [strings_HasPrefix.f, stringslite_HasPrefix.f, h2, h3]
  by_cases h : 2 ≤ a.size
  · rw [if_pos (by omega), if_pos (by omega), if_pos (by omega), decide_eq_true h]; rfl
  · rw [if_neg (by omega), decide_eq_false h]; rfl
def two (x y : UInt8) : ByteArray := ⟨#[x, y]⟩
theorem two_list (x y : UInt8) : (two x y).toList = [x, y] := by rw [toList_data]; rfl
def ops2 : List ByteArray := [two 33 61, two 60 61, two 62 61, two 46 46]
theorem mark_ev (s : ByteArray) (hs : s.size ≤ 1048576) (i : Nat) (hi : i < s.size) : ∃ t : ByteArray, (t.toList = ([] : List UInt8) ∧ (∃ a b c, Ev (fun k => impl_tokenAt.l3 k (s.extract i s.size) ops2 4 0) (a, b, c, (0 : Int))) ∨ (t.toList ≠ [] ∧ 1 ≤ t.size ∧ i + t.size ≤ s.size ∧ Ev (fun k => impl_tokenAt.l3 k (s.extract i s.size) ops2 4 0) ((4 : Int), t, (0 : Int), (t.size : Int)))) ∧ Ev (fun k => spec_l3Mark.f k s (i : Int)) t := by
  have hr := size_ext s i s.size (Nat.le_refl _)
  have e0 : bt (s.extract i s.size) ((0 : Nat) : Int) = bt s ((i + 0 : Nat) : Int) := bt_ext s i s.size 0 (Nat.le_refl _) (by omega)
  have e2 : wrap64 ((i : Int) + 2) = ((i + 2 : Nat) : Int) := by rw [w64 (by omega) (by omega)]; omega
  have hbt := bt_byte s (i : Int)
  have hone : ∃ t : ByteArray, (t.toList = ([] : List UInt8) ∧ (∃ a b c, Ev (fun k => impl_tokenAt.l3 k (s.extract i s.size) ops2 4 4) (a, b, c, (0 : Int))) ∨ (t.toList ≠ [] ∧ 1 ≤ t.size ∧ i + t.size ≤ s.size ∧ Ev (fun k => impl_tokenAt.l3 k (s.extract i s.size) ops2 4 4) ((4 : Int), t, (0 : Int), (t.size : Int)))) ∧ Ev (fun k => spec_l3Mark.j0 k s (i : Int)) t := by
    have z := mark_l0 s hs i hi 18 0 (by omega)
    rw [List.drop_zero] at z
    have hib := ib_bts marks _ hbt.1 hbt.2
    refine ⟨_, ?_, Ev.step (fun k => by rw [spec_l3Mark.j0]) (show Ev (fun k => spec_l3Mark.l0 k s (i : Int) 0) _ from z)⟩
    have es := size_ext s i (i + 1) (by omega)
    by_cases hm : ((bts marks).any fun y => y == bt s (i : Int)) = true
    · right
      rw [hm] at hib ⊢
      rw [mark1, if_pos rfl, es]
      refine ⟨fun hh => by have := toList_nil.1 hh; omega, by omega, by omega, Ev.step (fun k => by rw [impl_tokenAt.l3]) ?_⟩
      refine ev_neg (by omega) (ev_pos (by omega) (ev_let _ rfl (ev_pos ?_ (ev_pos (by omega) (ev_pos (by omega) (ev_const ?_))))))
      · have e0' : bt (s.extract i s.size) 0 = bt s (i : Int) := e0
        rw [e0']
        exact of_decide_eq_true hib
      · rw [show (1 : Nat) = 0 + 1 from rfl, show i + 1 - i = 1 by omega, ext_ext s i s.size 1 (Nat.le_refl _) (by omega)]; rfl
    · left
      rw [Bool.eq_false_iff.mpr hm] at hib ⊢
      refine ⟨by rw [mark1, if_neg (by simp)]; exact toList_nil.2 rfl, 0, ⟨#[]⟩, 0, Ev.step (fun k => by rw [impl_tokenAt.l3]) ?_⟩
      refine ev_neg (by omega) (ev_pos (by omega) (ev_let _ rfl (ev_neg ?_ (ev_const rfl))))
      have e0' : bt (s.extract i s.size) 0 = bt s (i : Int) := e0
      rw [e0']
      exact of_decide_eq_false hib
  have step : ∀ (j : Nat) (x y : UInt8) (hj : j < 4) (hg : rdOf ByteArray.empty ops2 (j : Int) = two x y) (r : Int × ByteArray × Int × Int), (∀ (hno : ¬ (i + 2 ≤ s.size ∧ (s.extract i (i + 2)).toList = [x, y])), Ev (fun k => impl_tokenAt.l3 k (s.extract i s.size) ops2 4 ((j + 1 : Nat) : Int)) r) → ((i + 2 ≤ s.size ∧ (s.extract i (i + 2)).toList = [x, y]) → r = ((4 : Int), two x y, (0 : Int), (2 : Int))) → Ev (fun k => impl_tokenAt.l3 k (s.extract i s.size) ops2 4 (j : Int)) r := by
    intro j x y hj hg r h1 h2
    have ej : wrap64 ((j : Int) + 1) = ((j + 1 : Nat) : Int) := by rw [w64 (by omega) (by omega)]; omega
    have ho : ops2.length = 4 := rfl
    have hpe := pre_eq (s.extract i s.size) x y
    refine Ev.step (fun k => by rw [impl_tokenAt.l3]) ?_
    refine ev_pos (by omega) (ev_pos (by omega) (ev_pos (by omega) ?_))
    rw [hg, ej]
    refine ev_let _ hpe ?_
    have hiff : (decide (2 ≤ (s.extract i s.size).size) && (((s.extract i s.size).extract 0 2).toList == ([x, y] : List UInt8))) = true ↔ (i + 2 ≤ s.size ∧ (s.extract i (i + 2)).toList = [x, y]) := by
      rw [Bool.and_eq_true, decide_eq_true_eq, beq_iff_eq, hr]
      constructor
      · rintro ⟨a1, a2⟩
        rw [ext_ext s i s.size 2 (Nat.le_refl _) (by omega)] at a2
        exact ⟨by omega, a2⟩
      · rintro ⟨a1, a2⟩
        rw [ext_ext s i s.size 2 (Nat.le_refl _) (by omega)]
        exact ⟨by omega, a2⟩
    refine ev_ite (fun h => ?_) (fun h => ?_)
    · rw [h2 (hiff.1 h)]; exact ev_const rfl
    · exact h1 (fun hh => h (hiff.2 hh))
  have h4 : ∀ j : Nat, wrap64 ((j : Int) + 1) = wrap64 ((j : Int) + 1) := fun _ => rfl
  have done2 : ∀ (x y : UInt8), i + 2 ≤ s.size → (s.extract i (i + 2)).toList = [x, y] → s.extract i (i + 2) = two x y := fun x y _ hh => toList_eq.1 (by rw [hh, two_list])
  have tsz : ∀ (x y : UInt8), (two x y).size = 2 := fun _ _ => rfl
  have tne : ∀ (x y : UInt8), (two x y).toList ≠ [] := fun x y => by rw [two_list]; simp
  by_cases hA : i + 2 ≤ s.size ∧ (s.extract i (i + 2)).toList = [33, 61]
  · refine ⟨two 33 61, .inr ⟨tne _ _, by rw [tsz]; omega, by rw [tsz]; omega, ?_⟩, ?_⟩
    · exact step 0 33 61 (by omega) rfl _ (fun hno => absurd hA hno) (fun _ => rfl)
    · simp only [spec_l3Mark.f, e2, Int.toNat_natCast]
      refine ev_pos (by omega) (ev_pos (by omega) (ev_pos (by omega) (ev_pos hA.2 (ev_const ?_))))
      rw [done2 _ _ hA.1 hA.2]
  by_cases hB : i + 2 ≤ s.size ∧ (s.extract i (i + 2)).toList = [60, 61]
  · refine ⟨two 60 61, .inr ⟨tne _ _, by rw [tsz]; omega, by rw [tsz]; omega, ?_⟩, ?_⟩
    · exact step 0 33 61 (by omega) rfl _ (fun _ => step 1 60 61 (by omega) rfl _ (fun hno => absurd hB hno) (fun _ => rfl)) (fun hh => absurd hh hA)
    · simp only [spec_l3Mark.f, e2, Int.toNat_natCast]
      refine ev_pos (by omega) (ev_pos (by omega) (ev_pos (by omega) (ev_neg (fun hh => hA ⟨hB.1, hh⟩) (ev_pos hB.2 (ev_const ?_)))))
      rw [done2 _ _ hB.1 hB.2]
  by_cases hC : i + 2 ≤ s.size ∧ (s.extract i (i + 2)).toList = [62, 61]
  · refine ⟨two 62 61, .inr ⟨tne _ _, by rw [tsz]; omega, by rw [tsz]; omega, ?_⟩, ?_⟩
    · exact step 0 33 61 (by omega) rfl _ (fun _ => step 1 60 61 (by omega) rfl _ (fun _ => step 2 62 61 (by omega) rfl _ (fun hno => absurd hC hno) (fun _ => rfl)) (fun hh => absurd hh hB)) (fun hh => absurd hh hA)
    · simp only [spec_l3Mark.f, e2, Int.toNat_natCast]
      refine ev_pos (by omega) (ev_pos (by omega) (ev_pos (by omega) (ev_neg (fun hh => hA ⟨hC.1, hh⟩) (ev_neg (fun hh => hB ⟨hC.1, hh⟩) (ev_pos hC.2 (ev_const ?_))))))
      rw [done2 _ _ hC.1 hC.2]
  by_cases hD : i + 2 ≤ s.size ∧ (s.extract i (i + 2)).toList = [46, 46]
  · refine ⟨two 46 46, .inr ⟨tne _ _, by rw [tsz]; omega, by rw [tsz]; omega, ?_⟩, ?_⟩
    · exact step 0 33 61 (by omega) rfl _ (fun _ => step 1 60 61 (by omega) rfl _ (fun _ => step 2 62 61 (by omega) rfl _ (fun _ => step 3 46 46 (by omega) rfl _ (fun hno => absurd hD hno) (fun _ => rfl)) (fun hh => absurd hh hC)) (fun hh => absurd hh hB)) (fun hh => absurd hh hA)
    · simp only [spec_l3Mark.f, e2, Int.toNat_natCast]
      refine ev_pos (by omega) (ev_pos (by omega) (ev_pos (by omega) (ev_neg (fun hh => hA ⟨hD.1, hh⟩) (ev_neg (fun hh => hB ⟨hD.1, hh⟩) (ev_neg (fun hh => hC ⟨hD.1, hh⟩) (ev_pos hD.2 (ev_const ?_)))))))
      rw [done2 _ _ hD.1 hD.2]
  have lift : ∀ r, Ev (fun k => impl_tokenAt.l3 k (s.extract i s.size) ops2 4 4) r → Ev (fun k => impl_tokenAt.l3 k (s.extract i s.size) ops2 4 0) r := fun r z =>
    step 0 33 61 (by omega) rfl _ (fun _ => step 1 60 61 (by omega) rfl _ (fun _ => step 2 62 61 (by omega) rfl _ (fun _ => step 3 46 46 (by omega) rfl _ (fun _ => z) (fun hh => absurd hh hD)) (fun hh => absurd hh hC)) (fun hh => absurd hh hB)) (fun hh => absurd hh hA)
  obtain ⟨t, ht, z⟩ := hone
  refine ⟨t, ?_, ?_⟩
  · rcases ht with ⟨h1, a, b, c, h2⟩ | ⟨h1, h2, h3, h5⟩
    · exact .inl ⟨h1, a, b, c, lift _ h2⟩
    · exact .inr ⟨h1, h2, h3, lift _ h5⟩
  · simp only [spec_l3Mark.f, e2, Int.toNat_natCast]
    refine ev_ite (fun hle => ?_) (fun _ => z)
    have hle' : i + 2 ≤ s.size := by omega
    exact ev_pos (by omega) (ev_pos (by omega) (ev_neg (fun hh => hA ⟨hle', hh⟩) (ev_neg (fun hh => hB ⟨hle', hh⟩) (ev_neg (fun hh => hC ⟨hle', hh⟩) (ev_neg (fun hh => hD ⟨hle', hh⟩) z)))))
/-! quoted texts -/
theorem unq_split : ∀ (n : Nat) (l t q : List Int), l.length ≤ n → unq l = some (t, q) → ∃ p, l = p ++ q ∧ unq p = some (t, []) := by
  intro n
  induction n with
  | zero =>
    intro l t q hl h
    cases l with
    | nil => simp [unq] at h
    | cons c r => simp at hl
  | succ n ih =>
    intro l t q hl h
    cases l with
    | nil => simp [unq] at h
    | cons c r =>
      rw [unq_cons] at h
      simp only [List.length_cons] at hl
      by_cases h34 : c = 34
      · rw [if_pos h34, Option.some.injEq, Prod.mk.injEq] at h
        obtain ⟨rfl, rfl⟩ := h
        exact ⟨[c], rfl, by rw [unq_cons, if_pos h34]⟩
      · rw [if_neg h34] at h
        by_cases h92 : c = 92
        · rw [if_pos h92] at h
          cases r with
          | nil => simp at h
          | cons d r' =>
            simp only [List.length_cons] at hl h
            by_cases hd : d = 34 ∨ d = 92
            · rw [if_pos hd] at h
              obtain ⟨⟨t', q'⟩, h1, h2⟩ := Option.map_eq_some_iff.1 h
              simp only [Prod.mk.injEq] at h2
              obtain ⟨rfl, rfl⟩ := h2
              obtain ⟨p, h3, h4⟩ := ih r' t' q' (by omega) h1
              refine ⟨c :: d :: p, by rw [h3]; rfl, ?_⟩
              rw [unq_cons, if_neg h34, if_pos h92]
              simp only [if_pos hd, h4, Option.map_some]
            · rw [if_neg hd] at h
              cases h
        · rw [if_neg h92] at h
          obtain ⟨⟨t', q'⟩, h1, h2⟩ := Option.map_eq_some_iff.1 h
          simp only [Prod.mk.injEq] at h2
          obtain ⟨rfl, rfl⟩ := h2
          obtain ⟨p, h3, h4⟩ := ih r t' q' (by omega) h1
          refine ⟨c :: p, by rw [h3]; rfl, ?_⟩
          rw [unq_cons, if_neg h34, if_neg h92, h4]
          rfl
/-! a whole text -/
def okR (s : ByteArray) (r : List TK × Int) : Prop := r.1.length ≤ s.size ∧ mu44 r.1 ≤ s.size
def GG (s : ByteArray) (acc : List TK) (i : Nat) : Prop := ∃ r, okR s r ∧ Ev (fun k => spec_Lex.l0 k s acc (i : Int)) r ∧ Ev (fun k => impl_Lex.l0 k s acc (i : Int)) r
theorem mu_snoc (acc : List TK) (a : Int) (t : ByteArray) (c : Int) : mu44 (acc ++ [(⟨a, t, c⟩ : TK)]) = mu44 acc + t.size := by
  rw [mu44_append]
  simp only [mu44, ms44]
  omega
theorem comment_ev (s : ByteArray) (hs : s.size ≤ 1048576) (i : Nat) (acc : List TK) (H : ∀ j, i < j → j ≤ s.size → GG s acc j) : ∀ (m j : Nat) (hij : i < j) (hj : j + m = s.size), ∃ r, okR s r ∧ Ev (fun k => spec_Lex.l1 k s acc (j : Int)) r ∧ Ev (fun k => impl_Lex.l1 k s acc (j : Int)) r := by
  intro m
  induction m with
  | zero =>
    intro j hij hj
    obtain ⟨r, h0, z1, z2⟩ := H j hij (by omega)
    refine ⟨r, h0, Ev.step (fun k => by rw [spec_Lex.l1]) ?_, Ev.step (fun k => by rw [impl_Lex.l1]) ?_⟩
    · exact ev_neg (by omega) z1
    · exact ev_neg (by omega) z2
  | succ m ih =>
    intro j hij hj
    have e1 : wrap64 ((j : Int) + 1) = ((j + 1 : Nat) : Int) := by rw [w64 (by omega) (by omega)]; omega
    by_cases h10 : bt s (j : Int) = 10
    · obtain ⟨r, h0, z1, z2⟩ := H j hij (by omega)
      refine ⟨r, h0, Ev.step (fun k => by rw [spec_Lex.l1]) ?_, Ev.step (fun k => by rw [impl_Lex.l1]) ?_⟩
      · exact ev_pos (by omega) (ev_pos (by omega) (ev_pos h10 z1))
      · exact ev_pos (by omega) (ev_pos (by omega) (ev_pos h10 z2))
    · obtain ⟨r, h0, z1, z2⟩ := ih (j + 1) (by omega) (by omega)
      refine ⟨r, h0, Ev.step (fun k => by rw [spec_Lex.l1]) ?_, Ev.step (fun k => by rw [impl_Lex.l1]) ?_⟩
      · rw [e1]; exact ev_pos (by omega) (ev_pos (by omega) (ev_neg h10 z1))
      · rw [e1]; exact ev_pos (by omega) (ev_pos (by omega) (ev_neg h10 z2))
theorem lex_ev (s : ByteArray) (hs : s.size ≤ 1048576) : ∀ (n i : Nat) (acc : List TK) (hi : i + n = s.size) (ha : acc.length ≤ i) (hm : mu44 acc ≤ i), GG s acc i := by
  intro n
  induction n using Nat.strongRecOn with
  | ind n ih =>
  intro i acc hi ha hm
  by_cases hend : n = 0
  · refine ⟨(acc, -1), ⟨by show acc.length ≤ _; omega, by show mu44 acc ≤ _; omega⟩, Ev.step (fun k => by rw [spec_Lex.l0]) ?_, Ev.step (fun k => by rw [impl_Lex.l0]) ?_⟩
    · exact ev_neg (by omega) (ev_const rfl)
    · exact ev_neg (by omega) (ev_const rfl)
  have hlt : i < s.size := by omega
  have e1 : wrap64 ((i : Int) + 1) = ((i + 1 : Nat) : Int) := by rw [w64 (by omega) (by omega)]; omega
  have hr := size_ext s i s.size (Nat.le_refl _)
  have e0 : bt (s.extract i s.size) 0 = bt s (i : Int) := bt_ext s i s.size 0 (Nat.le_refl _) (by omega)
  have hbt := bt_byte s (i : Int)
  have next : ∀ (j : Nat) (acc' : List TK), i < j → j ≤ s.size → acc'.length ≤ j → mu44 acc' ≤ j → GG s acc' j := fun j acc' h1 h2 h3 h4 => ih (s.size - j) (by omega) j acc' (by omega) h3 h4
  by_cases hsp : bt s (i : Int) = 32 ∨ bt s (i : Int) = 10
  · obtain ⟨r, h0, z1, z2⟩ := next (i + 1) acc (by omega) (by omega) (by omega) (by omega)
    rw [← e1] at z1 z2
    refine ⟨r, h0, Ev.step (fun k => by rw [spec_Lex.l0]) ?_, Ev.step (fun k => by rw [impl_Lex.l0]) ?_⟩
    · refine ev_pos (by omega) (ev_pos (by omega) (ev_ite (fun h => ?_) (fun h => ?_)))
      · exact Ev.step (fun k => by rw [spec_Lex.j1]) (ev_pos rfl z1)
      · exact Ev.step (fun k => by rw [spec_Lex.j1]) (ev_pos (by rw [beq_iff_eq]; omega) z1)
    · refine ev_pos (by omega) (ev_pos (by omega) (ev_ite (fun h => ?_) (fun h => ?_)))
      · exact Ev.step (fun k => by rw [impl_Lex.j1]) (ev_pos (by rw [beq_iff_eq]; omega) z2)
      · exact Ev.step (fun k => by rw [impl_Lex.j1]) (ev_pos (by rw [beq_iff_eq]; omega) z2)
  have h32 : ¬ bt s (i : Int) = 32 := fun h => hsp (.inl h)
  have h10 : ¬ bt s (i : Int) = 10 := fun h => hsp (.inr h)
  have f10 : ¬ ((bt s (i : Int) == 10) = true) := by rw [beq_iff_eq]; exact h10
  suffices main : ∃ r, okR s r ∧ Ev (fun k => if bt s (i : Int) = 35 then spec_Lex.l1 k s acc (i : Int) else (spec_l3Letter.f (bt s (i : Int))).bind fun t118 => (if t118 = true then ((spec_l3Name.f k s (i : Int)).bind fun t119 => (if 0 ≤ (i : Int) then (if (i : Int) ≤ t119 then (if t119 ≤ (s.size : Int) then (if acc.length < 4398046511104 then (spec_Lex.l0 k s (acc ++ [(⟨1, s.extract ((i : Int)).toNat (t119 : Int).toNat, (i : Int)⟩ : TK)]) t119) else (none)) else (none)) else (none)) else (none))) else ((spec_l3Digit.f (bt s (i : Int))).bind fun t123 => (if t123 = true then (spec_Lex.l2 k s acc (i : Int) (i : Int)) else (if (bt s (i : Int)) = 34 then ((spec_l2End.f k s (i : Int)).bind fun t131 => (if t131 < 0 then (some ((([] : List TK)), (i : Int))) else (if 0 ≤ (i : Int) then (if (i : Int) ≤ t131 then (if t131 ≤ (s.size : Int) then ((spec_UnquoteText.f k (s.extract ((i : Int)).toNat (t131 : Int).toNat)).bind fun bt135 => (if acc.length < 4398046511104 then (spec_Lex.l0 k s (acc ++ [(⟨3, bt135.1, (i : Int)⟩ : TK)]) t131) else (none))) else (none)) else (none)) else (none)))) else ((spec_l3Mark.f k s (i : Int)).bind fun t140 => (if t140.toList = ([] : List UInt8) then (some ((([] : List TK)), (i : Int))) else (if acc.length < 4398046511104 then (spec_Lex.l0 k s (acc ++ [(⟨4, t140, (i : Int)⟩ : TK)]) (wrap64 ((i : Int) + (t140.size : Int)))) else (none))))))))) r ∧ Ev (fun k => if bt s (i : Int) = 35 then impl_Lex.l1 k s acc (i : Int) else (impl_tokenAt.f k (s.extract i s.size)).bind fun bt178 => (if bt178.2.2.2 = 0 then (some ((([] : List TK)), (i : Int))) else (if acc.length < 4398046511104 then (impl_Lex.l0 k s (acc ++ [(⟨bt178.1, bt178.2.1, (i : Int)⟩ : TK)]) (wrap64 ((i : Int) + bt178.2.2.2))) else (none)))) r by
    obtain ⟨r, h0, z1, z2⟩ := main
    refine ⟨r, h0, Ev.step (fun k => by rw [spec_Lex.l0]) ?_, Ev.step (fun k => by rw [impl_Lex.l0]) ?_⟩
    · refine ev_pos (by omega) (ev_pos (by omega) (ev_neg h32 ?_))
      refine Ev.step (fun k => by rw [spec_Lex.j1]) ?_
      exact ev_neg f10 (ev_pos (by omega) (ev_pos (by omega) z1))
    · refine ev_pos (by omega) (ev_pos (by omega) (ev_neg h32 ?_))
      refine Ev.step (fun k => by rw [impl_Lex.j1]) ?_
      refine ev_neg f10 ?_
      have e5 : (((i : Int)).toNat) = i := Int.toNat_natCast i
      by_cases h35 : bt s (i : Int) = 35
      · rw [funext fun k => if_pos h35] at z2
        exact ev_pos h35 z2
      · rw [funext fun k => if_neg h35] at z2
        refine ev_neg h35 (ev_pos (by omega) (ev_pos (by omega) ?_))
        rw [e5]
        exact z2
  by_cases h35 : bt s (i : Int) = 35
  · obtain ⟨r, h0, z1, z2⟩ := comment_ev s hs i acc (fun j h1 h2 => next j acc h1 h2 (by omega) (by omega)) (n - 1) (i + 1) (by omega) (by omega)
    rw [← e1] at z1 z2
    refine ⟨r, h0, ev_pos h35 (Ev.step (fun k => by rw [spec_Lex.l1]) ?_), ev_pos h35 (Ev.step (fun k => by rw [impl_Lex.l1]) ?_)⟩
    · exact ev_pos (by omega) (ev_pos (by omega) (ev_neg h10 z1))
    · exact ev_pos (by omega) (ev_pos (by omega) (ev_neg h10 z2))
  have eL : ∀ L : Nat, i + L ≤ s.size → wrap64 ((i : Int) + (L : Int)) = ((i + L : Nat) : Int) := fun L hL => by rw [w64 (by omega) (by omega)]; omega
  have fail : ∀ (a : Int) (b : ByteArray) (c : Int), Ev (fun k => impl_tokenAt.f k (s.extract i s.size)) (a, b, c, (0 : Int)) → Ev (fun k => if bt s (i : Int) = 35 then impl_Lex.l1 k s acc (i : Int) else (impl_tokenAt.f k (s.extract i s.size)).bind fun bt178 => (if bt178.2.2.2 = 0 then (some ((([] : List TK)), (i : Int))) else (if acc.length < 4398046511104 then (impl_Lex.l0 k s (acc ++ [(⟨bt178.1, bt178.2.1, (i : Int)⟩ : TK)]) (wrap64 ((i : Int) + bt178.2.2.2))) else (none)))) (([] : List TK), (i : Int)) := fun a b c z => ev_neg h35 (ev_bind _ z (ev_pos rfl (ev_const rfl)))
  have okF : okR s (([] : List TK), (i : Int)) := ⟨Nat.zero_le _, Nat.zero_le _⟩
  have good : ∀ (kd : Int) (t : ByteArray) (L : Nat) (hL1 : 1 ≤ L) (hL2 : i + L ≤ s.size) (ht : t.size ≤ L), ∃ r, okR s r ∧ Ev (fun k => spec_Lex.l0 k s (acc ++ [(⟨kd, t, (i : Int)⟩ : TK)]) ((i + L : Nat) : Int)) r ∧ (Ev (fun k => impl_tokenAt.f k (s.extract i s.size)) (kd, t, (0 : Int), (L : Int)) → Ev (fun k => if bt s (i : Int) = 35 then impl_Lex.l1 k s acc (i : Int) else (impl_tokenAt.f k (s.extract i s.size)).bind fun bt178 => (if bt178.2.2.2 = 0 then (some ((([] : List TK)), (i : Int))) else (if acc.length < 4398046511104 then (impl_Lex.l0 k s (acc ++ [(⟨bt178.1, bt178.2.1, (i : Int)⟩ : TK)]) (wrap64 ((i : Int) + bt178.2.2.2))) else (none)))) r) := by
    intro kd t L hL1 hL2 ht
    obtain ⟨r, h0, z1, z2⟩ := next (i + L) (acc ++ [(⟨kd, t, (i : Int)⟩ : TK)]) (by omega) hL2 (by simp only [List.length_append, List.length_cons, List.length_nil]; omega) (by rw [mu_snoc]; omega)
    refine ⟨r, h0, z1, fun z => ev_neg h35 (ev_bind _ z (ev_neg (by show ¬ (L : Int) = 0; omega) (ev_pos (by omega) ?_)))⟩
    show Ev (fun k => impl_Lex.l0 k s (acc ++ [(⟨kd, t, (i : Int)⟩ : TK)]) (wrap64 ((i : Int) + (L : Int)))) r
    rw [eL L hL2]
    exact z2
  have tokf : ∀ r, Ev (fun k => if lowerB (bt s (i : Int)) = true then impl_tokenAt.l0 k (s.extract i s.size) 1 else if digitB (bt s (i : Int)) = true then impl_tokenAt.l2 k (s.extract i s.size) 1 else if bt s (i : Int) = 34 then ((impl_quotedEnd.f k (s.extract i s.size)).bind fun bt167 => (some ((3 : Int), bt167.2, (0 : Int), bt167.1))) else impl_tokenAt.l3 k (s.extract i s.size) ops2 4 0) r → Ev (fun k => impl_tokenAt.f k (s.extract i s.size)) r := by
    intro r z
    simp only [impl_tokenAt.f, e0]
    refine ev_pos (by omega) (ev_let _ (isLower_eq _) ?_)
    by_cases hA : lowerB (bt s (i : Int)) = true
    · rw [funext fun k => if_pos hA] at z
      exact ev_pos hA z
    rw [funext fun k => if_neg hA] at z
    refine ev_neg hA (ev_let _ (isDigit_eq _) ?_)
    by_cases hB : digitB (bt s (i : Int)) = true
    · rw [funext fun k => if_pos hB] at z
      exact ev_pos hB z
    rw [funext fun k => if_neg hB] at z
    refine ev_neg hB ?_
    by_cases hC : bt s (i : Int) = 34
    · rw [funext fun k => if_pos hC] at z
      exact ev_pos hC z
    rw [funext fun k => if_neg hC] at z
    refine ev_neg hC (ev_let _ rfl ?_)
    exact z
  by_cases hA : lowerB (bt s (i : Int)) = true
  · have h45 : bt s (i : Int) ≠ 45 := by
      intro h
      rw [h] at hA
      exact absurd hA (by decide)
    obtain ⟨L, h1, h2, z1, z2⟩ := name_ev s hs i h45 (n - 1) 1 (Nat.le_refl _) (by omega)
    rw [ext_ext s i s.size L (Nat.le_refl _) h2] at z2
    obtain ⟨r, h0, w1, w2⟩ := good 1 (s.extract i (i + L)) L h1 h2 (by rw [size_ext s i (i + L) h2]; omega)
    refine ⟨r, h0, ?_, w2 (tokf _ (ev_pos hA z2))⟩
    refine ev_neg h35 (ev_let _ (l3Letter_eq _ _) (ev_pos hA ?_))
    refine ev_bind ((i + L : Nat) : Int) ?_ ?_
    · simp only [spec_l3Name.f]
      refine Ev.step (fun k => by rw [spec_l3Name.l0]) ?_
      refine ev_pos (by omega) (ev_pos (by omega) (ev_let _ (l3Letter_eq _ _) (ev_pos hA ?_)))
      rw [e1]
      exact z1
    · refine ev_pos (by omega) (ev_pos (by omega) (ev_pos (by omega) (ev_pos (by omega) ?_)))
      rw [Int.toNat_natCast, Int.toNat_natCast]
      exact w1
  by_cases hB : digitB (bt s (i : Int)) = true
  · obtain ⟨L, h1, h2, z1, z2⟩ := num_ev s hs i acc (by omega) (n - 1) 1 (Nat.le_refl _) (by omega)
    rw [ext_ext s i s.size L (Nat.le_refl _) h2] at z2
    obtain ⟨r, h0, w1, w2⟩ := good 2 (s.extract i (i + L)) L h1 h2 (by rw [size_ext s i (i + L) h2]; omega)
    refine ⟨r, h0, ?_, w2 (tokf _ (ev_neg hA (ev_pos hB z2)))⟩
    refine ev_neg h35 (ev_let _ (l3Letter_eq _ _) (ev_neg hA (ev_let _ (l3Digit_eq _ _) (ev_pos hB ?_))))
    refine Ev.step (fun k => by rw [spec_Lex.l2]) ?_
    refine ev_pos (by omega) (ev_pos (by omega) (ev_let _ (l3Digit_eq _ _) (ev_pos hB ?_)))
    rw [e1]
    exact z1 r w1
  by_cases hC : bt s (i : Int) = 34
  · have hq := impl_quotedEnd_ev (s.extract i s.size) (by omega)
    have hl2 := spec_l2End_ev s i (by omega) hlt
    have hdrop := drop_at hlt
    have hbr : bts (s.extract i s.size) = 34 :: (bts s).drop (i + 1) := by
      rw [bts_extract, List.take_of_length_le (by rw [bts_length]; omega), hdrop, hC]
    unfold mQuotedEnd at hq
    simp only [hbr, if_true] at hq
    cases hu : unq ((bts s).drop (i + 1)) with
    | none =>
      rw [hu] at hq hl2
      refine ⟨_, okF, ?_, fail 3 _ 0 (tokf _ (ev_neg hA (ev_neg hB (ev_pos hC (ev_bind _ hq (ev_const rfl))))))⟩
      refine ev_neg h35 (ev_let _ (l3Letter_eq _ _) (ev_neg hA (ev_let _ (l3Digit_eq _ _) (ev_neg hB (ev_pos hC ?_)))))
      exact ev_bind _ hl2 (ev_pos (by show (-1 : Int) < 0; omega) (ev_const rfl))
    | some tq =>
      obtain ⟨t, q⟩ := tq
      rw [hu] at hq hl2
      have hlen := unq_len _ _ _ _ (Nat.le_refl _) hu
      obtain ⟨p, hp, hup⟩ := unq_split _ _ _ _ (Nat.le_refl _) hu
      rw [List.length_drop, bts_length] at hlen
      have hpl : p.length + q.length = s.size - (i + 1) := by rw [← List.length_append, ← hp, List.length_drop, bts_length]
      obtain ⟨L, hL⟩ : ∃ L : Nat, L = 1 + p.length := ⟨_, rfl⟩
      have eA : lEnd s (some (t, q)) = ((i + L : Nat) : Int) := by show (s.size : Int) - q.length = _; omega
      have eB : qEnd (s.extract i s.size) [] (some (t, q)) = ((L : Int), strOfNums t) := by
        show (((s.extract i s.size).size : Int) - (q.length : Int), strOfNums ([] ++ t)) = _
        rw [hr, List.nil_append]
        congr 1
        omega
      rw [eA] at hl2
      rw [eB] at hq
      obtain ⟨r, h0, w1, w2⟩ := good 3 (strOfNums t) L (by omega) (by omega) (by rw [size_str]; omega)
      refine ⟨r, h0, ?_, w2 (tokf _ (ev_neg hA (ev_neg hB (ev_pos hC (ev_bind _ hq (ev_const rfl))))))⟩
      refine ev_neg h35 (ev_let _ (l3Letter_eq _ _) (ev_neg hA (ev_let _ (l3Digit_eq _ _) (ev_neg hB (ev_pos hC ?_)))))
      refine ev_bind _ hl2 (ev_neg (by omega) (ev_pos (by omega) (ev_pos (by omega) (ev_pos (by omega) ?_))))
      rw [Int.toNat_natCast, Int.toNat_natCast]
      have hx : mUnquote (s.extract i (i + L)) = (strOfNums t, true) := by
        have e : bts (s.extract i (i + L)) = 34 :: p := by
          rw [bts_extract, ← List.take_drop, hdrop, hC, hp, hL, Nat.add_comm 1, List.take_succ_cons, List.take_left]
        unfold mUnquote
        simp only [e, if_true, hup]
      have z := spec_UnquoteText_ev (s.extract i (i + L)) (by rw [size_ext s i (i + L) (by omega)]; omega)
      rw [hx] at z
      exact ev_bind _ z (ev_pos (by omega) w1)
  obtain ⟨t, ht, z⟩ := mark_ev s hs i hlt
  rcases ht with ⟨h1, a, b, c, h2⟩ | ⟨h1, h2, h3, h4⟩
  · refine ⟨_, okF, ?_, fail a b c (tokf _ (ev_neg hA (ev_neg hB (ev_neg hC h2))))⟩
    refine ev_neg h35 (ev_let _ (l3Letter_eq _ _) (ev_neg hA (ev_let _ (l3Digit_eq _ _) (ev_neg hB (ev_neg hC ?_)))))
    exact ev_bind _ z (ev_pos h1 (ev_const rfl))
  · obtain ⟨r, h0, w1, w2⟩ := good 4 t t.size h2 h3 (Nat.le_refl _)
    refine ⟨r, h0, ?_, w2 (tokf _ (ev_neg hA (ev_neg hB (ev_neg hC h4))))⟩
    refine ev_neg h35 (ev_let _ (l3Letter_eq _ _) (ev_neg hA (ev_let _ (l3Digit_eq _ _) (ev_neg hB (ev_neg hC ?_)))))
    refine ev_bind _ z (ev_neg h1 (ev_pos (by omega) ?_))
    rw [eL _ h3]
    exact w1
theorem Lex_ev (s : ByteArray) (hs : s.size ≤ 1048576) : ∃ r, okR s r ∧ Ev (fun k => spec_Lex.f k s) r ∧ Ev (fun k => impl_Lex.f k s) r := lex_ev s hs s.size 0 [] (by omega) (Nat.zero_le _) (Nat.zero_le _)

/-! #### markText -/
/-! the law's own marks -/
theorem markText_l0 : ∀ (n : Nat) (x : Int) (t : ByteArray) (h0 : 0 ≤ x) (hn : x ≤ n) (ht : t.size + n ≤ 1099511627776), ∃ r, Ev (fun k => laws_markText.l0 k x t) r := by
  intro n
  induction n using Nat.strongRecOn with
  | ind n ih =>
  intro x t h0 hn ht
  by_cases hx : x > 0
  · have e1 : (strOfNums [wrap64 (48 + Int.tmod x 10) % 256]).size = 1 := by rw [size_str]; rfl
    have e2 : Int.tdiv x 10 = x / 10 := Int.tdiv_eq_ediv_of_nonneg h0
    have e3 : wrap64 (Int.tdiv x 10) = x / 10 := by rw [e2, w64 (by omega) (by omega)]
    have e4 : (strOfNums [wrap64 (48 + Int.tmod x 10) % 256] ++ t).size = 1 + t.size := by rw [ByteArray.size_append, e1]
    obtain ⟨r, z⟩ := ih (x / 10).toNat (by omega) (x / 10) (strOfNums [wrap64 (48 + Int.tmod x 10) % 256] ++ t) (by omega) (by omega) (by rw [e4]; omega)
    refine ⟨r, Ev.step (fun k => by rw [laws_markText.l0]) ?_⟩
    rw [e3]
    exact ev_pos hx (ev_let _ rfl (ev_pos (by rw [e1]; omega) z))
  · refine ⟨(⟨#[109]⟩ : ByteArray) ++ t, Ev.step (fun k => by rw [laws_markText.l0]) ?_⟩
    exact ev_neg hx (ev_pos (by omega) (ev_const rfl))
theorem markText_ex (x : Int) (h : x ≤ 1000000000000) : ∃ r, Ev (fun k => laws_markText.f k x) r := by
  simp only [laws_markText.f]
  by_cases hx : x ≤ 0
  · exact ⟨_, ev_pos hx (ev_const rfl)⟩
  · obtain ⟨r, z⟩ := markText_l0 x.toNat x ⟨#[]⟩ (by omega) (by omega) (by show 0 + _ ≤ _; omega)
    exact ⟨r, ev_neg hx z⟩
noncomputable def mt (x : Int) : ByteArray := @Classical.epsilon ByteArray ⟨⟨#[]⟩⟩ (fun t => Ev (fun k => laws_markText.f k x) t)
theorem markText_ev (x : Int) (h : x ≤ 1000000000000) : Ev (fun k => laws_markText.f k x) (mt x) := Classical.epsilon_spec (markText_ex x h)

/-! #### markTokens -/
noncomputable def mkT : Int → List S44 → List S44
  | _, [] => []
  | x, _ :: l => ⟨x, mt (x + 1), x + 2⟩ :: mkT (x + 3) l
theorem mkT_length (x : Int) (l : List S44) : (mkT x l).length = l.length := by
  induction l generalizing x with
  | nil => rfl
  | cons y l ih => simp only [mkT, List.length_cons, ih]
theorem mark_T_l0 : ∀ (suf pre : List S44) (x : Int) (hb : (pre ++ suf).length ≤ 1048576) (h0 : 0 ≤ x) (hx : x + 3 * suf.length ≤ 100000000), Ev (fun k => laws_markTokenS.l0 k (pre ++ suf) x (pre.length : Int)) (x + 3 * suf.length, pre ++ mkT x suf)
  | [], pre, x, hb, h0, hx => by
    refine Ev.step (fun k => by rw [laws_markTokenS.l0]) ?_
    exact ev_neg (by simp) (ev_const (by simp [mkT]))
  | y :: suf, pre, x, hb, h0, hx => by
    have rd : ∀ v : S44, rd_T44 (pre ++ v :: suf) (pre.length : Int) = v := fun v => by unfold rd_T44; exact at_pre pre suf v _
    have st : ∀ v w : S44, (pre ++ v :: suf).set ((pre.length : Int)).toNat w = pre ++ w :: suf := fun v w => by rw [set_pre]; simp
    have hb' := hb
    simp only [List.length_append, List.length_cons] at hb' hx
    have w1 : wrap64 (x + 1) = x + 1 := w64 (by omega) (by omega)
    have w2 : wrap64 (x + 1 + 1) = x + 2 := by rw [w64 (by omega) (by omega)]; omega
    have w3 : wrap64 (x + 2 + 1) = x + 3 := by rw [w64 (by omega) (by omega)]; omega
    have z := mark_T_l0 suf (pre ++ [⟨x, mt (x + 1), x + 2⟩]) (x + 3) (by simpa using hb) (by omega) (by omega)
    rw [List.append_assoc, List.singleton_append, List.append_assoc, List.singleton_append] at z
    refine Ev.step (fun k => by rw [laws_markTokenS.l0]) ?_
    refine ev_pos (by simp only [List.length_append, List.length_cons]; omega) (ev_pos (by omega) ?_)
    rw [rd, st, next_pre pre y (by omega), w1, w2, w3]
    refine ev_let _ rfl (ev_bind _ (markText_ev (x + 1) (by omega)) ?_)
    rw [rd, st]
    refine ev_let _ rfl ?_
    rw [rd, st]
    have e : x + 3 * ((y :: suf).length : Int) = x + 3 + 3 * (suf.length : Int) := by simp only [List.length_cons]; omega
    rw [e, show (pre ++ [y]).length = (pre ++ [(⟨x, mt (x + 1), x + 2⟩ : S44)]).length by simp]
    exact z
theorem markTokenS_ev (l : List S44) (hb : l.length ≤ 1048576) : Ev (fun k => laws_markTokenS.f k l 1) (1 + 3 * (l.length : Int), mkT 1 l) := by
  simp only [laws_markTokenS.f]
  exact mark_T_l0 l [] 1 (by simpa using hb) (by omega) (by omega)
theorem held_T_l0 : ∀ (suf pre : List S44) (x : Int) (hb : (pre ++ suf).length ≤ 1048576) (h0 : 0 ≤ x) (hx : x + 3 * suf.length ≤ 100000000), Ev (fun k => laws_heldTokenS.l0 k (pre ++ mkT x suf) x (pre.length : Int)) (x + 3 * suf.length)
  | [], pre, x, hb, h0, hx => by
    refine Ev.step (fun k => by rw [laws_heldTokenS.l0]) ?_
    exact ev_neg (by simp [mkT]) (ev_const (by simp))
  | y :: suf, pre, x, hb, h0, hx => by
    have hl := mkT_length (x + 3) suf
    have hb' := hb
    simp only [List.length_append, List.length_cons] at hb' hx
    have rd : rd_T44 (pre ++ (⟨x, mt (x + 1), x + 2⟩ : S44) :: mkT (x + 3) suf) (pre.length : Int) = ⟨x, mt (x + 1), x + 2⟩ := by unfold rd_T44; exact at_pre pre _ _ _
    have w1 : wrap64 (x + 1) = x + 1 := w64 (by omega) (by omega)
    have w2 : wrap64 (x + 1 + 1) = x + 2 := by rw [w64 (by omega) (by omega)]; omega
    have w3 : wrap64 (x + 2 + 1) = x + 3 := by rw [w64 (by omega) (by omega)]; omega
    have z := held_T_l0 suf (pre ++ [⟨x, mt (x + 1), x + 2⟩]) (x + 3) (by simpa using hb) (by omega) (by omega)
    rw [List.append_assoc, List.singleton_append, ← next_pre pre _ (by omega)] at z
    refine Ev.step (fun k => by rw [laws_heldTokenS.l0]) ?_
    rw [mkT]
    refine ev_pos (by simp only [List.length_append, List.length_cons]; omega) (ev_pos (by omega) ?_)
    rw [rd, w1, w2, w3]
    refine ev_pos rfl (ev_bind _ (markText_ev (x + 1) (by omega)) (ev_pos rfl (ev_pos rfl ?_)))
    have e : x + 3 * ((y :: suf).length : Int) = x + 3 + 3 * (suf.length : Int) := by simp only [List.length_cons]; omega
    rw [e]
    exact z
theorem heldTokenS_ev (l : List S44) (hb : l.length ≤ 1048576) : Ev (fun k => laws_heldTokenS.f k (mkT 1 l) 1) (1 + 3 * (l.length : Int)) := by
  simp only [laws_heldTokenS.f]
  exact held_T_l0 l [] 1 (by simpa using hb) (by omega) (by omega)

theorem FnExactLex : laws_FnExactLex.Pure := by
  intro s hs
  refine Ev.rounds ?_
  simp only [laws_FnExactLex.f]
  refine ev_ite (fun _ => ev_const rfl) (fun hlt => ?_)
  obtain ⟨r, ⟨h1, h2⟩, z1, z2⟩ := Lex_ev s (by omega)
  have he := eqTokenS_ev r.1 (by omega)
  have hm := markTokenS_ev r.1 (by omega)
  have hh := heldTokenS_ev r.1 (by omega)
  refine ev_bind _ z1 (ev_bind _ z2 (ev_bind _ he (ev_pos rfl ?_)))
  refine Ev.step (fun k => by rw [laws_FnExactLex.j0]) ?_
  refine ev_neg (by simp) (ev_bind _ hm (ev_bind _ hh (ev_neg (by omega) (ev_pos rfl ?_))))
  refine ev_bind _ z2 (ev_bind _ he (ev_pos rfl ?_))
  refine Ev.step (fun k => by rw [laws_FnExactLex.j1]) ?_
  exact ev_neg (by simp) (ev_bind _ hh (ev_neg (by omega) (ev_pos rfl (ev_const rfl))))

end Go.Proofs.Ytmkhoakhfdjplaa.Pure.LFnExactLex
namespace Go.Proofs.Ytmkhoakhfdjplaa.Pure
theorem FnExactLex : PFnExactLex.laws_FnExactLex.Pure := LFnExactLex.FnExactLex
end Go.Proofs.Ytmkhoakhfdjplaa.Pure
