/- For every code: the tokens drawn, joined by JoinTokens, are lexed again to the same kinds and texts, at the places where they stand; and a remark behind them adds none. -/
import Derived.Test.YtmkhoakhfdjplaaPFnTokensx0
import Derived.Test.YtmkhoakhfdjplaaPFnTokensx1
import Derived.Test.YtmkhoakhfdjplaaPFnTokensx2
import Derived.Test.YtmkhoakhfdjplaaPFnTokensx3
import Derived.Test.YtmkhoakhfdjplaaPFnTokensx4
import Derived.Test.YtmkhoakhfdjplaaPFnTokensx5
import Derived.Test.YtmkhoakhfdjplaaPFnTokensx6
import Derived.Test.YtmkhoakhfdjplaaPFnTokensx7
import Derived.Test.YtmkhoakhfdjplaaPFnTokensx8
import Derived.Test.YtmkhoakhfdjplaaPFnTokensx9
import Derived.Test.YtmkhoakhfdjplaaBase
import Derived.Lib.Bytealg
import Derived.Lib.Bytealg
import Derived.Lib.Join
namespace Go.Proofs.Ytmkhoakhfdjplaa.Pure.LFnTokens
open Go.RowKit Go.Proofs.Ytmkhoakhfdjplaa.PFnTokens Go.Proofs.YtmkhoakhfdjplaaW.PrintWords Go.Proofs.YtmkhoakhfdjplaaW.PrintLast Go.Proofs.YtmkhoakhfdjplaaW.PrintMore Go.Proofs.Ytmkhoakhfdjplaa.Base
set_option linter.unusedVariables false
set_option linter.unusedSimpArgs false

/-! #### draw -/
/-! the reference's own draws -/
theorem and255 (x : Int) : 0 ≤ Go.bits .and .i64 x 255 ∧ Go.bits .and .i64 x 255 ≤ 255 := by
  have h : (BitVec.ofInt 64 x &&& BitVec.ofInt 64 255).toNat ≤ 255 := by
    rw [BitVec.toNat_and]; exact Nat.and_le_right
  show 0 ≤ IntKind.i64.wrap ((BitVec.ofInt 64 x &&& BitVec.ofInt 64 255).toNat) ∧ IntKind.i64.wrap ((BitVec.ofInt 64 x &&& BitVec.ofInt 64 255).toNat) ≤ 255
  rw [IntKind.wrap_i64]
  omega
theorem l1Byte_ex (s : List Int) (i h : Int) (h0 : 0 ≤ i) (hs : s.length ≤ 1000000) : ∃ b i' h', spec_l1Byte.f s i h = some (b, i', h') ∧ 0 ≤ b ∧ b ≤ 255 ∧ 0 ≤ i' := by
  unfold spec_l1Byte.f
  by_cases h1 : i < (s.length : Int)
  · rw [if_pos h1, if_pos h0]
    exact ⟨_, _, _, rfl, (and255 _).1, (and255 _).2, by rw [w64 (by omega) (by omega)]; omega⟩
  · rw [if_neg h1]
    exact ⟨_, _, _, rfl, (and255 _).1, (and255 _).2, h0⟩
theorem tmod_in {a b : Int} (ha : 0 ≤ a) (hb : 0 < b) : 0 ≤ Int.tmod a b ∧ Int.tmod a b < b := ⟨Int.tmod_nonneg b ha, Int.tmod_lt_of_pos a hb⟩
theorem l1Below_ex (s : List Int) (i h a : Int) (h0 : 0 ≤ i) (hs : s.length ≤ 1000000) (ha : 0 < a) : ∃ r i' h', spec_l1Below.f s i h a = some (r, i', h') ∧ 0 ≤ r ∧ r < a ∧ 0 ≤ i' := by
  unfold spec_l1Below.f
  rw [if_neg (by omega)]
  obtain ⟨b1, i1, h1, e1, p1, q1, z1⟩ := l1Byte_ex s i h h0 hs
  rw [e1, Option.bind_some]
  by_cases h2 : a ≤ 256
  · rw [if_pos h2, if_neg (by omega)]
    exact ⟨_, _, _, rfl, (tmod_in p1 ha).1, (tmod_in p1 ha).2, z1⟩
  · rw [if_neg h2]
    obtain ⟨b2, i2, h2', e2, p2, q2, z2⟩ := l1Byte_ex s i1 h1 z1 hs
    obtain ⟨b3, i3, h3', e3, p3, q3, z3⟩ := l1Byte_ex s i2 h2' z2 hs
    simp only [Option.bind_some, e2, e3]
    rw [if_neg (by omega)]
    have hp : 0 ≤ wrap64 ((wrap64 ((wrap64 (b1 * 65536)) + (wrap64 (b2 * 256)))) + b3) := by
      rw [w64 (x := b1 * 65536) (by omega) (by omega), w64 (x := b2 * 256) (by omega) (by omega), w64 (x := b1 * 65536 + b2 * 256) (by omega) (by omega), w64 (by omega) (by omega)]; omega
    exact ⟨_, _, _, rfl, (tmod_in hp ha).1, (tmod_in hp ha).2, z3⟩
theorem l1New_l0 (l : List Int) (hl : l.length ≤ 1000000) : ∀ (d i : Nat) (h : Int), i + d = l.length → ∃ h', Ev (fun k => spec_l1New.l0 k l h i) (l, 0, h') := by
  intro d
  induction d with
  | zero =>
    intro i h hi
    exact ⟨h, Ev.step (fun k => by rw [spec_l1New.l0]) (ev_neg (by omega) (ev_const rfl))⟩
  | succ d ih =>
    intro i h hi
    by_cases h1 : (i : Int) < 4000
    · obtain ⟨h', z⟩ := ih (i + 1) (Go.bits .and .i64 (wrap64 ((wrap64 ((wrap64 (h * 141)) + (wrap64 (rd l i)))) + 11)) 1073741823) (by omega)
      refine ⟨h', Ev.step (fun k => by rw [spec_l1New.l0]) (ev_pos (by omega) (ev_pos h1 (ev_pos (by omega) ?_)))⟩
      have e : wrap64 ((i : Int) + 1) = ((i + 1 : Nat) : Int) := by rw [w64 (by omega) (by omega)]; omega
      rw [e]; exact z
    · exact ⟨h, Ev.step (fun k => by rw [spec_l1New.l0]) (ev_pos (by omega) (ev_neg h1 (ev_const rfl)))⟩
theorem l1New_ex (l : List Int) (hl : l.length ≤ 1000000) : ∃ h', Ev (fun k => spec_l1New.f k l) (l, 0, h') := by
  simp only [spec_l1New.f]
  exact l1New_l0 l hl l.length 0 _ (by omega)

/-! #### drawStr -/
theorem l1Str_ex (s : List Int) (i h : Int) (l : List ByteArray) (h0 : 0 ≤ i) (hs : s.length ≤ 1000000) (hl : 0 < l.length) : ∃ r i' h', spec_l1Str.f s i h l = some (r, i', h') ∧ r ∈ l ∧ 0 ≤ i' := by
  obtain ⟨j, i', h', e, p, q, z⟩ := l1Below_ex s i h (l.length : Int) h0 hs (by omega)
  unfold spec_l1Str.f
  simp only [e, Option.bind_some]
  rw [if_pos p, if_pos q]
  refine ⟨_, _, _, rfl, ?_, z⟩
  unfold rdOf
  rw [List.getD_eq_getElem?_getD, List.getElem?_eq_getElem (by omega)]
  exact List.getElem_mem _
theorem size_all {l : List ByteArray} (h : (l.all fun b => decide (b.size ≤ 1000)) = true) {r : ByteArray} (hr : r ∈ l) : r.size ≤ 1000 := by
  simpa using List.all_eq_true.1 h r hr
theorem l2Text_ex (s : List Int) (i h : Int) (h0 : 0 ≤ i) (hs : s.length ≤ 1000000) : ∃ r i' h', spec_l2Text.f s i h = some (r, i', h') ∧ r.size ≤ 1000 ∧ 0 ≤ i' := by
  unfold spec_l2Text.f
  obtain ⟨r, i', h', e, hm, z⟩ := l1Str_ex s i h [(⟨#[]⟩ : ByteArray), (⟨#[97]⟩ : ByteArray), (⟨#[98, 111, 120]⟩ : ByteArray), (⟨#[120, 32, 121]⟩ : ByteArray), (⟨#[34]⟩ : ByteArray), (⟨#[92]⟩ : ByteArray), (⟨#[97, 34, 98]⟩ : ByteArray), (⟨#[49, 48]⟩ : ByteArray), (⟨#[45, 51]⟩ : ByteArray), (⟨#[116, 114, 117, 101]⟩ : ByteArray), (⟨#[60, 38, 62]⟩ : ByteArray), (⟨#[108, 111]⟩ : ByteArray), (⟨#[101, 116, 104, 48]⟩ : ByteArray), (⟨#[108, 111, 110, 103, 32, 116, 101, 120, 116, 32, 119, 105, 116, 104, 32, 109, 97, 110, 121, 32, 119, 111, 114, 100, 115, 32, 105, 110, 32, 105, 116, 44, 32, 114, 101, 97, 108, 108, 121]⟩ : ByteArray)] h0 hs (by decide)
  rw [e]
  exact ⟨r, i', h', rfl, size_all (by decide) hm, z⟩

/-! #### mQuote -/
def quoteB (c : Int) : List Int := if c = 34 ∨ c = 92 then [92, c] else [c]
def quoteL (l : List Int) : List Int := l.flatMap quoteB
def mQuote (s : ByteArray) : ByteArray := strOfNums (34 :: quoteL (bts s) ++ [34])
theorem quoteL_cons (c : Int) (l : List Int) : quoteL (c :: l) = quoteB c ++ quoteL l := by simp [quoteL]
theorem quoteB_len (c : Int) : (quoteB c).length ≤ 2 := by unfold quoteB; split <;> simp
theorem quoteL_len (l : List Int) : (quoteL l).length ≤ 2 * l.length := by
  induction l with
  | nil => simp [quoteL]
  | cons c l ih =>
    rw [quoteL_cons, List.length_append, List.length_cons]
    have := quoteB_len c
    omega

/-! #### spec_QuoteText -/
theorem spec_QuoteText_l0 (s : ByteArray) (hs : s.size ≤ 35184372088832) : ∀ (n i : Nat) (acc : List Int), i + n = s.size → acc.length ≤ 2 * i + 1 → Ev (fun k => spec_QuoteText.l0 k s acc i) (strOfNums (acc ++ quoteL ((bts s).drop i) ++ [34])) := by
  intro n
  induction n with
  | zero =>
    intro i acc hi ha
    refine Ev.step (fun k => by rw [spec_QuoteText.l0]) ?_
    refine ev_neg (by omega) (ev_pos (by omega) (ev_const ?_))
    rw [List.drop_eq_nil_of_le (by rw [bts_length]; omega)]
    simp [quoteL]
  | succ n ih =>
    intro i acc hi ha
    have e2 : wrap64 ((i : Int) + 1) = ((i + 1 : Nat) : Int) := by rw [w64 (by omega) (by omega)]; omega
    refine Ev.step (fun k => by rw [spec_QuoteText.l0]) ?_
    refine ev_pos (by omega) (ev_pos (by omega) ?_)
    rw [e2, drop_cons (z := 0) (by rw [bts_length]; omega), quoteL_cons, ← Int.toNat_natCast i, ← bt_eq, Int.toNat_natCast]
    refine ev_ite (fun h => ?_) (fun h => ev_ite (fun h2 => ?_) (fun h2 => ?_))
    · refine ev_pos (by omega) (ev_let _ rfl (ev_pos (by simp; omega) ?_))
      have := ih (i + 1) (acc ++ [92] ++ [bt s i]) (by omega) (by simp; omega)
      rw [quoteB, if_pos (.inl h)]
      simpa using this
    · refine ev_pos (by omega) (ev_let _ rfl (ev_pos (by simp; omega) ?_))
      have := ih (i + 1) (acc ++ [92] ++ [bt s i]) (by omega) (by simp; omega)
      rw [quoteB, if_pos (.inr h2)]
      simpa using this
    · refine ev_pos (by omega) ?_
      have := ih (i + 1) (acc ++ [bt s i]) (by omega) (by simp; omega)
      rw [quoteB, if_neg (by omega)]
      simpa using this
theorem spec_QuoteText_ev (s : ByteArray) (hs : s.size ≤ 35184372088832) : Ev (fun k => spec_QuoteText.f k s) (mQuote s) := by
  have := spec_QuoteText_l0 s hs s.size 0 [34] (by omega) (by simp)
  show Ev (fun k => spec_QuoteText.l0 k s [34] 0) _
  unfold mQuote
  simpa using this

/-! #### impl_QuoteText -/
theorem impl_QuoteText_l0 (s : ByteArray) (hs : s.size ≤ 35184372088832) : ∀ (n i : Nat) (acc : List Int), i + n = s.size → acc.length ≤ 2 * i + 1 → Ev (fun k => impl_QuoteText.l0 k s acc i) (strOfNums (acc ++ quoteL ((bts s).drop i) ++ [34])) := by
  intro n
  induction n with
  | zero =>
    intro i acc hi ha
    refine Ev.step (fun k => by rw [impl_QuoteText.l0]) ?_
    refine ev_neg (by omega) (ev_pos (by omega) (ev_const ?_))
    rw [List.drop_eq_nil_of_le (by rw [bts_length]; omega)]
    simp [quoteL]
  | succ n ih =>
    intro i acc hi ha
    have e2 : wrap64 ((i : Int) + 1) = ((i + 1 : Nat) : Int) := by rw [w64 (by omega) (by omega)]; omega
    refine Ev.step (fun k => by rw [impl_QuoteText.l0]) ?_
    refine ev_pos (by omega) (ev_pos (by omega) ?_)
    rw [e2, drop_cons (z := 0) (by rw [bts_length]; omega), quoteL_cons, ← Int.toNat_natCast i, ← bt_eq, Int.toNat_natCast]
    refine ev_ite (fun h => ?_) (fun h => ev_ite (fun h2 => ?_) (fun h2 => ?_))
    · refine ev_pos (by omega) (ev_let _ rfl (ev_pos (by simp; omega) ?_))
      have := ih (i + 1) (acc ++ [92] ++ [bt s i]) (by omega) (by simp; omega)
      rw [quoteB, if_pos (.inl h)]
      simpa using this
    · refine ev_pos (by omega) (ev_let _ rfl (ev_pos (by simp; omega) ?_))
      have := ih (i + 1) (acc ++ [92] ++ [bt s i]) (by omega) (by simp; omega)
      rw [quoteB, if_pos (.inr h2)]
      simpa using this
    · refine ev_pos (by omega) ?_
      have := ih (i + 1) (acc ++ [bt s i]) (by omega) (by simp; omega)
      rw [quoteB, if_neg (by omega)]
      simpa using this
theorem impl_QuoteText_ev (s : ByteArray) (hs : s.size ≤ 35184372088832) : Ev (fun k => impl_QuoteText.f k s) (mQuote s) := by
  have := impl_QuoteText_l0 s hs s.size 0 [34] (by omega) (by simp)
  show Ev (fun k => impl_QuoteText.l0 k s [34] 0) _
  unfold mQuote
  simpa using this

/-! #### l1In -/
theorem spec_l1In_eq (a b c : Int) : spec_l1In.f a b c = some (decide (b ≤ a) && decide (a ≤ c)) := by
  unfold spec_l1In.f
  by_cases h : a ≥ b
  · rw [if_pos h, decide_eq_true h, Bool.true_and]
  · rw [if_neg h, decide_eq_false h, Bool.false_and]

/-! #### mName -/
def lowerB (c : Int) : Bool := decide (97 ≤ c) && decide (c ≤ 122)
def digitB (c : Int) : Bool := decide (48 ≤ c) && decide (c ≤ 57)
def nameB (c : Int) : Bool := lowerB c || (digitB c || decide (c = 45))
def lastOk (s : ByteArray) : Bool := decide ((bts s).getD (s.size - 1) 0 ≠ 45)
def mIsName (s : ByteArray) : Bool :=
  match bts s with
  | [] => false
  | c :: l => (lowerB c && l.all nameB) && (decide (s.size ≤ 16) && lastOk s)

/-! #### isByte -/
theorem isLower_eq (c : Int) : impl_isLower.f c = some (lowerB c) := by
  unfold impl_isLower.f lowerB
  by_cases h : c ≥ 97
  · rw [if_pos h, decide_eq_true h, Bool.true_and]
  · rw [if_neg h, decide_eq_false h, Bool.false_and]
theorem isDigit_eq (c : Int) : impl_isDigit.f c = some (digitB c) := by
  unfold impl_isDigit.f digitB
  by_cases h : c ≥ 48
  · rw [if_pos h, decide_eq_true h, Bool.true_and]
  · rw [if_neg h, decide_eq_false h, Bool.false_and]
theorem isNameByte_eq (c : Int) : impl_isNameByte.f c = some (nameB c) := by
  unfold impl_isNameByte.f nameB
  rw [isLower_eq, isDigit_eq]
  simp only [Option.bind_some]
  cases lowerB c <;> cases digitB c <;> simp [BEq.beq]

/-! #### unq -/
/-- What the bytes behind an opening quotation mark mean, and what stands behind the closing one. -/
def unq : List Int → Option (List Int × List Int)
  | [] => none
  | c :: r =>
    if c = 34 then some ([], r)
    else if c = 92 then
      match r with
      | [] => none
      | d :: r' => if d = 34 ∨ d = 92 then (unq r').map (fun z => (d :: z.1, z.2)) else none
    else (unq r).map (fun z => (c :: z.1, z.2))
theorem unq_cons (c : Int) (r : List Int) : unq (c :: r) = if c = 34 then some ([], r) else if c = 92 then (match r with | [] => none | d :: r' => if d = 34 ∨ d = 92 then (unq r').map (fun z => (d :: z.1, z.2)) else none) else (unq r).map (fun z => (c :: z.1, z.2)) := by
  rw [unq.eq_def]
theorem unq_len : ∀ (n : Nat) (l t q : List Int), l.length ≤ n → unq l = some (t, q) → t.length + q.length < l.length := by
  intro n
  induction n with
  | zero =>
    intro l t q hl h
    cases l with
    | nil => simp [unq] at h
    | cons c r => simp at hl
  | succ n ih =>
    intro l t q hl h
    cases l with
    | nil => simp [unq] at h
    | cons c r =>
      rw [unq_cons] at h
      simp only [List.length_cons] at hl ⊢
      split at h
      · simp only [Option.some.injEq, Prod.mk.injEq] at h
        obtain ⟨rfl, rfl⟩ := h
        simp
      · split at h
        · split at h
          · cases h
          · rename_i d r'
            simp only [List.length_cons] at hl ⊢
            split at h
            · obtain ⟨⟨t', q'⟩, h1, h2⟩ := Option.map_eq_some_iff.1 h
              simp only [Prod.mk.injEq] at h2
              obtain ⟨rfl, rfl⟩ := h2
              have := ih r' t' q' (by omega) h1
              simp only [List.length_cons]
              omega
            · cases h
        · obtain ⟨⟨t', q'⟩, h1, h2⟩ := Option.map_eq_some_iff.1 h
          simp only [Prod.mk.injEq] at h2
          obtain ⟨rfl, rfl⟩ := h2
          have := ih r t' q' (by omega) h1
          simp only [List.length_cons]
          omega
theorem drop_at {s : ByteArray} {i : Nat} (h : i < s.size) : (bts s).drop i = bt s i :: (bts s).drop (i + 1) := by
  rw [drop_cons (z := 0) (by rw [bts_length]; exact h), bt_eq, Int.toNat_natCast]

/-! #### spec_Unquote -/
def lEnd (s : ByteArray) : Option (List Int × List Int) → Int
  | none => -1
  | some (_, q) => (s.size : Int) - q.length
theorem spec_l2End_l0 (s : ByteArray) (hs : s.size ≤ 35184372088832) : ∀ (n i : Nat), s.size - i ≤ n → i ≤ s.size → Ev (fun k => spec_l2End.l0 k s i) (lEnd s (unq ((bts s).drop i))) := by
  intro n
  induction n with
  | zero =>
    intro i hi hi2
    refine Ev.step (fun k => by rw [spec_l2End.l0]) ?_
    refine ev_neg (by omega) (ev_const ?_)
    rw [List.drop_eq_nil_of_le (by rw [bts_length]; omega)]; rfl
  | succ n ih =>
    intro i hi hi2
    by_cases hlt : i < s.size
    · have e2 : wrap64 ((i : Int) + 1) = ((i + 1 : Nat) : Int) := by rw [w64 (by omega) (by omega)]; omega
      have e3 : wrap64 (((i + 1 : Nat) : Int) + 1) = ((i + 2 : Nat) : Int) := by rw [w64 (by omega) (by omega)]; omega
      have em : ∀ (c : Int) (o : Option (List Int × List Int)), lEnd s (o.map (fun z => (c :: z.1, z.2))) = lEnd s o := by
        intro c o; cases o <;> rfl
      refine Ev.step (fun k => by rw [spec_l2End.l0]) ?_
      refine ev_pos (by omega) (ev_pos (by omega) ?_)
      rw [e2, drop_at hlt, unq_cons]
      refine ev_ite (fun h => ?_) (fun h => ?_)
      · rw [if_pos h]
        refine ev_const ?_
        show some (((i + 1 : Nat)) : Int) = some ((s.size : Int) - (((bts s).drop (i + 1)).length : Int))
        rw [List.length_drop, bts_length]
        congr 1
        omega
      · rw [if_neg h]
        refine ev_ite (fun h2 => ?_) (fun h2 => ?_)
        · rw [if_pos h2]
          refine ev_ite (fun h3 => ?_) (fun h3 => ?_)
          · rw [List.drop_eq_nil_of_le (by rw [bts_length]; omega)]
            refine Ev.step (fun k => by rw [spec_l2End.j1]) ?_
            exact ev_pos rfl (ev_const rfl)
          · have h1 : i + 1 < s.size := by omega
            rw [drop_at h1]
            simp only []
            have z := ih (i + 2) (by omega) (by omega)
            refine ev_pos (by omega) (ev_pos (by omega) (ev_ite (fun h4 => ?_) (fun h4 => ?_)))
            · rw [if_pos (.inl h4), em]
              refine Ev.step (fun k => by rw [spec_l2End.j1]) ?_
              refine ev_neg (by simp) (ev_pos (by omega) (ev_pos (by omega) (ev_pos h2 ?_)))
              rw [e2, e3]; exact z
            · refine Ev.step (fun k => by rw [spec_l2End.j1]) ?_
              by_cases h5 : bt s ((i + 1 : Nat) : Int) = 92
              · rw [if_pos (.inr h5), em]
                refine ev_neg (by rw [h5]; decide) (ev_pos (by omega) (ev_pos (by omega) (ev_pos h2 ?_)))
                rw [e2, e3]; exact z
              · rw [if_neg (by omega)]
                exact ev_pos (by simpa using h5) (ev_const rfl)
        · rw [if_neg h2, em]
          refine Ev.step (fun k => by rw [spec_l2End.j1]) ?_
          refine ev_neg (by simp) (ev_pos (by omega) (ev_pos (by omega) (ev_neg h2 ?_)))
          rw [e2]
          exact ih (i + 1) (by omega) (by omega)
    · refine Ev.step (fun k => by rw [spec_l2End.l0]) ?_
      refine ev_neg (by omega) (ev_const ?_)
      rw [List.drop_eq_nil_of_le (by rw [bts_length]; omega)]; rfl
theorem spec_l2End_ev (s : ByteArray) (i : Nat) (hs : s.size ≤ 35184372088832) (hi : i < s.size) : Ev (fun k => spec_l2End.f k s i) (lEnd s (unq ((bts s).drop (i + 1)))) := by
  have e2 : wrap64 ((i : Int) + 1) = ((i + 1 : Nat) : Int) := by rw [w64 (by omega) (by omega)]; omega
  simp only [spec_l2End.f]
  rw [e2]
  exact spec_l2End_l0 s hs s.size (i + 1) (by omega) (by omega)
theorem spec_Unq_l0 (s : ByteArray) (hs : s.size ≤ 35184372088832) : ∀ (n i : Nat) (acc t : List Int), s.size - i ≤ n → i ≤ s.size → acc.length ≤ i → unq ((bts s).drop i) = some (t, []) → Ev (fun k => spec_UnquoteText.l0 k s acc i) (strOfNums (acc ++ t), true) := by
  intro n
  induction n with
  | zero =>
    intro i acc t hi hi2 ha hu
    rw [List.drop_eq_nil_of_le (by rw [bts_length]; omega)] at hu
    simp [unq] at hu
  | succ n ih =>
    intro i acc t hi hi2 ha hu
    by_cases hlt : i < s.size
    · have e1 : wrap64 ((s.size : Int) - 1) = ((s.size - 1 : Nat) : Int) := by rw [w64 (by omega) (by omega)]; omega
      have e2 : wrap64 ((i : Int) + 1) = ((i + 1 : Nat) : Int) := by rw [w64 (by omega) (by omega)]; omega
      have e3 : wrap64 (((i + 1 : Nat) : Int) + 1) = ((i + 2 : Nat) : Int) := by rw [w64 (by omega) (by omega)]; omega
      refine Ev.step (fun k => by rw [spec_UnquoteText.l0]) ?_
      rw [e1, e2, e3]
      rw [drop_at hlt, unq_cons] at hu
      by_cases h : bt s (i : Int) = 34
      · rw [if_pos h] at hu
        simp only [Option.some.injEq, Prod.mk.injEq] at hu
        obtain ⟨rfl, hq⟩ := hu
        have := congrArg List.length hq
        rw [List.length_drop, bts_length, List.length_nil] at this
        refine ev_neg (by omega) (ev_const ?_)
        rw [List.append_nil]
      · rw [if_neg h] at hu
        have h1 : i + 1 < s.size := by
          rcases Nat.lt_or_ge (i + 1) s.size with hh | hh
          · exact hh
          · rw [List.drop_eq_nil_of_le (by rw [bts_length]; omega)] at hu
            split at hu <;> simp [unq] at hu
        refine ev_pos (by omega) (ev_pos (by omega) (ev_pos (by omega) (ev_ite (fun h2 => ?_) (fun h2 => ?_))))
        · rw [if_pos h2, drop_at h1] at hu
          simp only [] at hu
          split at hu
          · obtain ⟨⟨t', q'⟩, h3, h4⟩ := Option.map_eq_some_iff.1 hu
            simp only [Prod.mk.injEq] at h4
            obtain ⟨rfl, rfl⟩ := h4
            refine ev_pos (by omega) (ev_pos (by omega) (ev_pos (by omega) ?_))
            have z := ih (i + 2) (acc ++ [bt s ((i + 1 : Nat) : Int)]) t' (by omega) (by omega) (by simp; omega) h3
            simpa using z
          · cases hu
        · rw [if_neg h2] at hu
          obtain ⟨⟨t', q'⟩, h3, h4⟩ := Option.map_eq_some_iff.1 hu
          simp only [Prod.mk.injEq] at h4
          obtain ⟨rfl, rfl⟩ := h4
          refine ev_pos (by omega) ?_
          have z := ih (i + 1) (acc ++ [bt s (i : Int)]) t' (by omega) (by omega) (by simp; omega) h3
          simpa using z
    · rw [List.drop_eq_nil_of_le (by rw [bts_length]; omega)] at hu
      simp [unq] at hu
def mUnquote (s : ByteArray) : ByteArray × Bool :=
  match bts s with
  | [] => (⟨#[]⟩, false)
  | c :: l => if c = 34 then (match unq l with | some (t, []) => (strOfNums t, true) | _ => (⟨#[]⟩, false)) else (⟨#[]⟩, false)
theorem spec_UnquoteText_ev (s : ByteArray) (hs : s.size ≤ 35184372088832) : Ev (fun k => spec_UnquoteText.f k s) (mUnquote s) := by
  have hl := bts_length s
  simp only [spec_UnquoteText.f]
  unfold mUnquote
  have bad : Ev (fun k => spec_UnquoteText.j0 k s true) (⟨#[]⟩, false) := by
    refine Ev.step (fun k => by rw [spec_UnquoteText.j0]) ?_
    exact ev_pos rfl (ev_const rfl)
  cases hc : bts s with
  | nil =>
    rw [hc] at hl
    simp only [List.length_nil] at hl
    exact ev_pos (by omega) bad
  | cons c l =>
    rw [hc] at hl
    simp only [List.length_cons] at hl
    show Ev _ (if c = 34 then (match unq l with | some (t, []) => (strOfNums t, true) | _ => (⟨#[]⟩, false)) else (⟨#[]⟩, false))
    have ec : bt s 0 = c := by rw [bt_eq, hc]; rfl
    have hd : (bts s).drop 1 = l := by rw [hc]; rfl
    refine ev_ite (fun h => ?_) (fun h => ?_)
    · have : l = [] := List.length_eq_zero_iff.1 (by omega)
      subst this
      rw [show unq [] = none from by rw [unq]]
      simp only [ite_self]
      exact bad
    · refine ev_pos (by omega) ?_
      rw [ec]
      refine ev_ite (fun h2 => ?_) (fun h2 => ?_)
      · rw [if_pos h2]
        have z := spec_l2End_ev s 0 hs (by omega)
        rw [show (0 : Nat) + 1 = 1 from rfl, hd] at z
        refine ev_bind _ z ?_
        cases hu : unq l with
        | none =>
          refine Ev.step (fun k => by rw [spec_UnquoteText.j0]) ?_
          exact ev_pos (by simp only [lEnd, bne_iff_ne, ne_eq]; omega) (ev_const rfl)
        | some p =>
          obtain ⟨t, q⟩ := p
          cases q with
          | nil =>
            refine Ev.step (fun k => by rw [spec_UnquoteText.j0]) ?_
            refine ev_neg (by simp [lEnd]) ?_
            have z := spec_Unq_l0 s hs s.size 1 [] t (by omega) (by omega) (by simp) (by rw [hd]; exact hu)
            exact z
          | cons d q =>
            have := unq_len _ _ _ _ (Nat.le_refl _) hu
            refine Ev.step (fun k => by rw [spec_UnquoteText.j0]) ?_
            exact ev_pos (by simp only [lEnd, List.length_cons, bne_iff_ne, ne_eq]; omega) (ev_const rfl)
      · rw [if_neg h2]
        exact bad

/-! #### impl_quotedEnd -/
def qEnd (s : ByteArray) (acc : List Int) : Option (List Int × List Int) → Int × ByteArray
  | none => (0, ⟨#[]⟩)
  | some (t, q) => ((s.size : Int) - q.length, strOfNums (acc ++ t))
theorem impl_quotedEnd_l0 (s : ByteArray) (hs : s.size ≤ 35184372088832) : ∀ (n i : Nat) (acc : List Int), s.size - i ≤ n → i ≤ s.size → acc.length ≤ i → Ev (fun k => impl_quotedEnd.l0 k s acc i) (qEnd s acc (unq ((bts s).drop i))) := by
  intro n
  induction n with
  | zero =>
    intro i acc hi hi2 ha
    refine Ev.step (fun k => by rw [impl_quotedEnd.l0]) ?_
    refine ev_neg (by omega) (ev_const ?_)
    rw [List.drop_eq_nil_of_le (by rw [bts_length]; omega)]; rfl
  | succ n ih =>
    intro i acc hi hi2 ha
    by_cases hlt : i < s.size
    · have e2 : wrap64 ((i : Int) + 1) = ((i + 1 : Nat) : Int) := by rw [w64 (by omega) (by omega)]; omega
      have e3 : wrap64 (((i + 1 : Nat) : Int) + 1) = ((i + 2 : Nat) : Int) := by rw [w64 (by omega) (by omega)]; omega
      refine Ev.step (fun k => by rw [impl_quotedEnd.l0]) ?_
      refine ev_pos (by omega) (ev_pos (by omega) ?_)
      rw [e2, e3, drop_at hlt, unq_cons]
      refine ev_ite (fun h => ?_) (fun h => ?_)
      · rw [if_pos h]
        refine ev_const ?_
        show some ((((i + 1 : Nat)) : Int), strOfNums acc) = some ((s.size : Int) - (((bts s).drop (i + 1)).length : Int), strOfNums (acc ++ []))
        rw [List.append_nil, List.length_drop, bts_length]
        congr 2
        omega
      · rw [if_neg h]
        refine ev_ite (fun h2 => ?_) (fun h2 => ?_)
        · rw [if_pos h2]
          refine ev_ite (fun h3 => ?_) (fun h3 => ?_)
          · rw [List.drop_eq_nil_of_le (by rw [bts_length]; omega)]
            exact ev_const rfl
          · rw [drop_at (show i + 1 < s.size by omega)]
            simp only []
            have z := ih (i + 2) (acc ++ [bt s ((i + 1 : Nat) : Int)]) (by omega) (by omega) (by simp; omega)
            have e5 : ∀ o : Option (List Int × List Int), qEnd s (acc ++ [bt s ((i + 1 : Nat) : Int)]) o = qEnd s acc (o.map (fun z => (bt s ((i + 1 : Nat) : Int) :: z.1, z.2))) := by
              intro o; cases o <;> simp [qEnd]
            rw [e5] at z
            refine ev_pos (by omega) (ev_pos (by omega) (ev_ite (fun h4 => ?_) (fun h4 => ev_ite (fun h5 => ?_) (fun h5 => ?_))))
            · rw [if_pos (.inl h4)]
              exact ev_pos (by omega) z
            · rw [if_pos (.inr h5)]
              exact ev_pos (by omega) z
            · rw [if_neg (by omega)]
              exact ev_const rfl
        · rw [if_neg h2]
          have z := ih (i + 1) (acc ++ [bt s (i : Int)]) (by omega) (by omega) (by simp; omega)
          have e5 : ∀ o : Option (List Int × List Int), qEnd s (acc ++ [bt s (i : Int)]) o = qEnd s acc (o.map (fun z => (bt s (i : Int) :: z.1, z.2))) := by
            intro o; cases o <;> simp [qEnd]
          rw [e5] at z
          exact ev_pos (by omega) z
    · refine Ev.step (fun k => by rw [impl_quotedEnd.l0]) ?_
      refine ev_neg (by omega) (ev_const ?_)
      rw [List.drop_eq_nil_of_le (by rw [bts_length]; omega)]; rfl
def mQuotedEnd (s : ByteArray) : Int × ByteArray :=
  match bts s with
  | [] => (0, ⟨#[]⟩)
  | c :: l => if c = 34 then qEnd s [] (unq l) else (0, ⟨#[]⟩)
theorem impl_quotedEnd_ev (s : ByteArray) (hs : s.size ≤ 35184372088832) : Ev (fun k => impl_quotedEnd.f k s) (mQuotedEnd s) := by
  have hl := bts_length s
  simp only [impl_quotedEnd.f]
  unfold mQuotedEnd
  cases hc : bts s with
  | nil =>
    rw [hc] at hl
    simp only [List.length_nil] at hl
    refine ev_pos (toList_nil.2 (by omega)) (Ev.step (fun k => by rw [impl_quotedEnd.j0]) ?_)
    exact ev_pos (by simp) (ev_const rfl)
  | cons c l =>
    rw [hc] at hl
    simp only [List.length_cons] at hl
    show Ev _ (if c = 34 then qEnd s [] (unq l) else (0, ⟨#[]⟩))
    have ec : bt s 0 = c := by rw [bt_eq, hc]; rfl
    have hd : (bts s).drop 1 = l := by rw [hc]; rfl
    refine ev_neg (fun h => by have := toList_nil.1 h; omega) (ev_pos (by omega) (Ev.step (fun k => by rw [impl_quotedEnd.j0]) ?_))
    rw [ec]
    by_cases h : c = 34
    · rw [if_pos h]
      refine ev_neg (by simp [h]) ?_
      have z := impl_quotedEnd_l0 s hs s.size 1 [] (by omega) (by omega) (by simp)
      rw [hd] at z
      exact z
    · rw [if_neg h]
      exact ev_pos (by simpa using h) (ev_const rfl)

/-! #### ibyte -/
theorem ib_lem (l : List UInt8) (c : UInt8) : -1 ≤ Lib.indexByte l c ∧ decide (Lib.indexByte l c ≥ 0) = l.any (fun b => b == c) := by
  induction l with
  | nil => exact ⟨show (-1 : Int) ≤ -1 by omega, rfl⟩
  | cons b l ih =>
    obtain ⟨h1, h2⟩ := ih
    rw [List.any_cons]
    unfold Lib.indexByte
    by_cases hb : (b == c) = true
    · rw [if_pos hb, hb]; exact ⟨by decide, rfl⟩
    · rw [if_neg hb, Bool.eq_false_iff.mpr hb, Bool.false_or, ← h2]
      by_cases hc : Lib.indexByte l c = -1
      · rw [hc]; exact ⟨by decide, by decide⟩
      · rw [if_neg (by simpa using hc)]
        refine ⟨by omega, ?_⟩
        simp only [decide_eq_decide]
        omega
theorem ib_bts (s : ByteArray) (x : Int) (h0 : 0 ≤ x) (h1 : x ≤ 255) : decide (Lib.indexByte s.data.toList x.toNat.toUInt8 ≥ 0) = (bts s).any fun y => y == x := by
  rw [(ib_lem _ _).2]
  unfold bts
  rw [List.any_map]
  congr 1
  funext b
  show (b == x.toNat.toUInt8) = ((b.toNat : Int) == x)
  by_cases hb : (b.toNat : Int) = x
  · have e : b = x.toNat.toUInt8 := by
      apply UInt8.toNat_inj.1
      show b.toNat = (UInt8.ofNat x.toNat).toNat
      rw [UInt8.toNat_ofNat']
      omega
    rw [beq_iff_eq.2 e, beq_iff_eq.2 hb]
  · have e : b ≠ x.toNat.toUInt8 := by
      intro e
      have e2 := congrArg UInt8.toNat e
      have e3 : (x.toNat.toUInt8).toNat = (UInt8.ofNat x.toNat).toNat := rfl
      rw [e3, UInt8.toNat_ofNat'] at e2
      omega
    rw [beq_eq_false_iff_ne.2 e, beq_eq_false_iff_ne.2 hb]
theorem bt_byte (s : ByteArray) (i : Int) : 0 ≤ bt s i ∧ bt s i ≤ 255 := by
  unfold bt
  split
  · rename_i h; have := UInt8.toNat_lt (s[i.toNat]'h); exact ⟨by omega, by omega⟩
  · exact ⟨by omega, by omega⟩

/-! #### LexV -/
abbrev TK := S44
def muK : List TK → Nat
  | [] => 0
  | x :: l => x.f1.size + muK l
theorem muK_append (a b : List TK) : muK (a ++ b) = muK a + muK b := by
  induction a with
  | nil => simp [muK]
  | cons x a ih => simp only [List.cons_append, muK, ih]; omega
theorem l3Letter_eq (s : ByteArray) (i : Int) : spec_l3Letter.f (bt s i) = some (lowerB (bt s i)) := by
  have h := bt_byte s i
  simp only [spec_l3Letter.f, spec_l1In_eq, w64 (show -9223372036854775808 ≤ bt s i by omega) (by omega), Option.bind_some]
  rfl
theorem l3Digit_eq (s : ByteArray) (i : Int) : spec_l3Digit.f (bt s i) = some (digitB (bt s i)) := by
  have h := bt_byte s i
  simp only [spec_l3Digit.f, spec_l1In_eq, w64 (show -9223372036854775808 ≤ bt s i by omega) (by omega), Option.bind_some]
  rfl
theorem size_ext (s : ByteArray) (i j : Nat) (h : j ≤ s.size) : (s.extract i j).size = j - i := by
  rw [← bts_length, bts_extract, List.length_drop, List.length_take, bts_length]; omega
theorem bt_ext (s : ByteArray) (i e j : Nat) (he : e ≤ s.size) (hj : i + j < e) : bt (s.extract i e) (j : Int) = bt s ((i + j : Nat) : Int) := by
  rw [bt_eq, bt_eq, bts_extract, Int.toNat_natCast, Int.toNat_natCast, List.getD_eq_getElem?_getD, List.getD_eq_getElem?_getD, List.getElem?_drop, List.getElem?_take_of_lt hj]
theorem ext_ext (s : ByteArray) (i e L : Nat) (he : e ≤ s.size) (hL : i + L ≤ e) : (s.extract i e).extract 0 L = s.extract i (i + L) := by
  apply bts_inj
  rw [bts_extract, bts_extract, bts_extract, List.drop_zero, List.take_drop, List.take_take, Nat.min_eq_left hL]
/-! names -/
theorem back_ev (s : ByteArray) (hs : s.size ≤ 1048576) (i : Nat) (h45 : bt s (i : Int) ≠ 45) : ∀ (j : Nat) (h1 : 1 ≤ j) (hj : i + j ≤ s.size), ∃ L : Nat, 1 ≤ L ∧ L ≤ j ∧ bt s ((i + (L - 1) : Nat) : Int) ≠ 45 ∧ Ev (fun k => spec_l3Name.l1 k s ((i + j : Nat) : Int)) ((i + L : Nat) : Int) ∧ Ev (fun k => impl_tokenAt.l1 k (s.extract i s.size) (j : Int)) ((1 : Int), (s.extract i s.size).extract 0 L, (0 : Int), (L : Int))
  | 0, h1, hj => by omega
  | j + 1, h1, hj => by
    have hr := size_ext s i s.size (Nat.le_refl _)
    have e1 : wrap64 (((i + (j + 1) : Nat) : Int) - 1) = ((i + j : Nat) : Int) := by rw [w64 (by omega) (by omega)]; omega
    have e2 : wrap64 (((j + 1 : Nat) : Int) - 1) = (j : Int) := by rw [w64 (by omega) (by omega)]; omega
    have e3 := bt_ext s i s.size j (Nat.le_refl _) (by omega)
    by_cases hb : bt s ((i + j : Nat) : Int) = 45
    · have hj0 : 1 ≤ j := by
        rcases Nat.eq_zero_or_pos j with h | h
        · subst h; exact absurd hb h45
        · exact h
      obtain ⟨L, h2, h3, hv, z1, z2⟩ := back_ev s hs i h45 j hj0 (by omega)
      refine ⟨L, h2, by omega, hv, Ev.step (fun k => by rw [spec_l3Name.l1]) ?_, Ev.step (fun k => by rw [impl_tokenAt.l1]) ?_⟩
      · rw [e1]
        exact ev_pos (by omega) (ev_pos (by omega) (ev_pos hb z1))
      · rw [e2, e3]
        exact ev_pos (by omega) (ev_pos (by omega) (ev_pos hb z2))
    · refine ⟨j + 1, by omega, by omega, hb, Ev.step (fun k => by rw [spec_l3Name.l1]) ?_, Ev.step (fun k => by rw [impl_tokenAt.l1]) ?_⟩
      · rw [e1]
        exact ev_pos (by omega) (ev_pos (by omega) (ev_neg hb (ev_const rfl)))
      · rw [e2, e3]
        exact ev_pos (by omega) (ev_pos (by omega) (ev_neg hb (ev_pos (by omega) (ev_pos (by omega) (ev_const (by rw [Int.toNat_natCast]))))))
theorem name_ev (s : ByteArray) (hs : s.size ≤ 1048576) (i : Nat) (h45 : bt s (i : Int) ≠ 45) : ∀ (m j : Nat) (h1 : 1 ≤ j) (hj : i + j + m = s.size) (hal : ∀ q : Nat, 1 ≤ q → q < j → nameB (bt s ((i + q : Nat) : Int)) = true), ∃ L : Nat, 1 ≤ L ∧ i + L ≤ s.size ∧ (bt s ((i + (L - 1) : Nat) : Int) ≠ 45 ∧ ∀ q : Nat, 1 ≤ q → q < L → nameB (bt s ((i + q : Nat) : Int)) = true) ∧ Ev (fun k => spec_l3Name.l0 k s ((i + j : Nat) : Int)) ((i + L : Nat) : Int) ∧ Ev (fun k => impl_tokenAt.l0 k (s.extract i s.size) (j : Int)) ((1 : Int), (s.extract i s.size).extract 0 L, (0 : Int), (L : Int)) := by
  have hr := size_ext s i s.size (Nat.le_refl _)
  intro m
  induction m with
  | zero =>
    intro j h1 hj hal
    obtain ⟨L, h2, h3, hv, z1, z2⟩ := back_ev s hs i h45 j h1 (by omega)
    refine ⟨L, h2, by omega, ⟨hv, fun q a1 a2 => hal q a1 (by omega)⟩, Ev.step (fun k => by rw [spec_l3Name.l0]) ?_, Ev.step (fun k => by rw [impl_tokenAt.l0]) ?_⟩
    · refine ev_neg (by omega) (Ev.step (fun k => by rw [spec_l3Name.j1]) z1)
    · refine ev_neg (by omega) (Ev.step (fun k => by rw [impl_tokenAt.j1]) z2)
  | succ m ih =>
    intro j h1 hj hal
    have e1 : wrap64 (((i + j : Nat) : Int) + 1) = ((i + (j + 1) : Nat) : Int) := by rw [w64 (by omega) (by omega)]; omega
    have e2 : wrap64 ((j : Int) + 1) = ((j + 1 : Nat) : Int) := by rw [w64 (by omega) (by omega)]; omega
    have e3 := bt_ext s i s.size j (Nat.le_refl _) (by omega)
    by_cases hn : nameB (bt s ((i + j : Nat) : Int)) = true
    · obtain ⟨L, h2, h3, hv, z1, z2⟩ := ih (j + 1) (by omega) (by omega) (fun q a1 a2 => if hq : q = j then by rw [hq]; exact hn else hal q a1 (by omega))
      refine ⟨L, h2, h3, hv, Ev.step (fun k => by rw [spec_l3Name.l0]) ?_, Ev.step (fun k => by rw [impl_tokenAt.l0]) ?_⟩
      · rw [e1]
        refine ev_pos (by omega) (ev_pos (by omega) (ev_let _ (l3Letter_eq _ _) ?_))
        refine ev_ite (fun _ => z1) (fun h4 => ev_let _ (l3Digit_eq _ _) (ev_ite (fun _ => z1) (fun h5 => ev_pos ?_ z1)))
        unfold nameB at hn
        rw [Bool.eq_false_iff.mpr h4, Bool.eq_false_iff.mpr h5, Bool.false_or, Bool.false_or] at hn
        exact of_decide_eq_true hn
      · rw [e2, e3]
        exact ev_pos (by omega) (ev_pos (by omega) (ev_let _ (isNameByte_eq _) (ev_pos hn z2)))
    · obtain ⟨L, h2, h3, hv, z1, z2⟩ := back_ev s hs i h45 j h1 (by omega)
      refine ⟨L, h2, by omega, ⟨hv, fun q a1 a2 => hal q a1 (by omega)⟩, Ev.step (fun k => by rw [spec_l3Name.l0]) ?_, Ev.step (fun k => by rw [impl_tokenAt.l0]) ?_⟩
      · have hn' := Bool.eq_false_iff.mpr hn
        unfold nameB at hn'
        rw [Bool.or_eq_false_iff, Bool.or_eq_false_iff] at hn'
        refine ev_pos (by omega) (ev_pos (by omega) (ev_let _ (l3Letter_eq _ _) (ev_neg (by rw [hn'.1]; simp) (ev_let _ (l3Digit_eq _ _) (ev_neg (by rw [hn'.2.1]; simp) (ev_neg (of_decide_eq_false hn'.2.2) ?_))))))
        exact Ev.step (fun k => by rw [spec_l3Name.j1]) z1
      · rw [e3]
        refine ev_pos (by omega) (ev_pos (by omega) (ev_let _ (isNameByte_eq _) (ev_neg hn ?_)))
        exact Ev.step (fun k => by rw [impl_tokenAt.j1]) z2
/-! whole numbers -/
theorem num_ev (s : ByteArray) (hs : s.size ≤ 1048576) (i : Nat) (acc : List TK) (hacc : acc.length < 4398046511104) : ∀ (m j : Nat) (h1 : 1 ≤ j) (hj : i + j + m = s.size) (hal : ∀ q : Nat, q < j → digitB (bt s ((i + q : Nat) : Int)) = true), ∃ L : Nat, 1 ≤ L ∧ i + L ≤ s.size ∧ (∀ q : Nat, q < L → digitB (bt s ((i + q : Nat) : Int)) = true) ∧ (∀ r, Ev (fun k => spec_Lex.l0 k s (acc ++ [(⟨2, s.extract i (i + L), (i : Int)⟩ : TK)]) ((i + L : Nat) : Int)) r → Ev (fun k => spec_Lex.l2 k s acc ((i + j : Nat) : Int) (i : Int)) r) ∧ Ev (fun k => impl_tokenAt.l2 k (s.extract i s.size) (j : Int)) ((2 : Int), (s.extract i s.size).extract 0 L, (0 : Int), (L : Int)) := by
  have hr := size_ext s i s.size (Nat.le_refl _)
  intro m
  induction m with
  | zero =>
    intro j h1 hj hal
    refine ⟨j, h1, by omega, hal, fun r z => Ev.step (fun k => by rw [spec_Lex.l2]) ?_, Ev.step (fun k => by rw [impl_tokenAt.l2]) ?_⟩
    · refine ev_neg (by omega) (ev_pos (by omega) (ev_pos (by omega) (ev_pos (by omega) (ev_pos hacc ?_))))
      rw [Int.toNat_natCast, Int.toNat_natCast]
      exact z
    · refine ev_neg (by omega) (ev_pos (by omega) (ev_pos (by omega) (ev_const (by rw [Int.toNat_natCast]))))
  | succ m ih =>
    intro j h1 hj hal
    have e1 : wrap64 (((i + j : Nat) : Int) + 1) = ((i + (j + 1) : Nat) : Int) := by rw [w64 (by omega) (by omega)]; omega
    have e2 : wrap64 ((j : Int) + 1) = ((j + 1 : Nat) : Int) := by rw [w64 (by omega) (by omega)]; omega
    have e3 := bt_ext s i s.size j (Nat.le_refl _) (by omega)
    by_cases hn : digitB (bt s ((i + j : Nat) : Int)) = true
    · obtain ⟨L, h2, h3, hv, z1, z2⟩ := ih (j + 1) (by omega) (by omega) (fun q a2 => if hq : q = j then by rw [hq]; exact hn else hal q (by omega))
      refine ⟨L, h2, h3, hv, fun r z => Ev.step (fun k => by rw [spec_Lex.l2]) ?_, Ev.step (fun k => by rw [impl_tokenAt.l2]) ?_⟩
      · rw [e1]
        exact ev_pos (by omega) (ev_pos (by omega) (ev_let _ (l3Digit_eq _ _) (ev_pos hn (z1 r z))))
      · rw [e2, e3]
        exact ev_pos (by omega) (ev_pos (by omega) (ev_let _ (isDigit_eq _) (ev_pos hn z2)))
    · refine ⟨j, h1, by omega, hal, fun r z => Ev.step (fun k => by rw [spec_Lex.l2]) ?_, Ev.step (fun k => by rw [impl_tokenAt.l2]) ?_⟩
      · refine ev_pos (by omega) (ev_pos (by omega) (ev_let _ (l3Digit_eq _ _) (ev_neg hn (ev_pos (by omega) (ev_pos (by omega) (ev_pos (by omega) (ev_pos hacc ?_)))))))
        rw [Int.toNat_natCast, Int.toNat_natCast]
        exact z
      · rw [e3]
        exact ev_pos (by omega) (ev_pos (by omega) (ev_let _ (isDigit_eq _) (ev_neg hn (ev_pos (by omega) (ev_const (by rw [Int.toNat_natCast]))))))
/-! marks -/
def marks : ByteArray := ⟨#[123, 125, 59, 91, 93, 40, 41, 60, 62, 61, 43, 45, 47, 124, 46, 44, 36, 58]⟩
theorem marks_size : marks.size = 18 := rfl
def mark1 (s : ByteArray) (i : Nat) (b : Bool) : ByteArray := if b = true then s.extract i (i + 1) else ⟨#[]⟩
theorem mark_l0 (s : ByteArray) (hs : s.size ≤ 1048576) (i : Nat) (hi : i < s.size) : ∀ (m j : Nat) (hj : j + m = 18), Ev (fun k => spec_l3Mark.l0 k s (i : Int) (j : Int)) (mark1 s i (((bts marks).drop j).any fun y => y == bt s (i : Int))) := by
  have e1 : wrap64 ((i : Int) + 1) = ((i + 1 : Nat) : Int) := by rw [w64 (by omega) (by omega)]; omega
  intro m
  induction m with
  | zero =>
    intro j hj
    refine Ev.step (fun k => by rw [spec_l3Mark.l0]) ?_
    rw [List.drop_eq_nil_of_le (by rw [bts_length, marks_size]; omega), List.any_nil]
    exact ev_neg (by omega) (ev_const rfl)
  | succ m ih =>
    intro j hj
    have e2 : wrap64 ((j : Int) + 1) = ((j + 1 : Nat) : Int) := by rw [w64 (by omega) (by omega)]; omega
    refine Ev.step (fun k => by rw [spec_l3Mark.l0]) ?_
    rw [drop_cons (z := 0) (by rw [bts_length, marks_size]; omega), List.any_cons, ← Int.toNat_natCast j, ← bt_eq, Int.toNat_natCast, e1, e2]
    refine ev_pos (by omega) (ev_pos (by omega) (ev_pos (by omega) (ev_pos (by omega) ?_)))
    refine ev_ite (fun h => ?_) (fun h => ?_)
    · have h' : (bt marks (j : Int) == bt s (i : Int)) = true := beq_iff_eq.2 h.symm
      rw [h', Bool.true_or]
      refine ev_pos (by omega) (ev_pos (by omega) (ev_const ?_))
      rw [Int.toNat_natCast, Int.toNat_natCast]; rfl
    · have h' : (bt marks (j : Int) == bt s (i : Int)) = false := beq_eq_false_iff_ne.2 (fun hh => h hh.symm)
      rw [h', Bool.false_or]
      exact ih (j + 1) (by omega)
theorem pre_eq (a : ByteArray) (x y : UInt8) : strings_HasPrefix.f a ⟨#[x, y]⟩ = some (decide (2 ≤ a.size) && ((a.extract 0 2).toList == ([x, y] : List UInt8))) := by
  have h2 : (⟨#[x, y]⟩ : ByteArray).size = 2 := rfl
  have h3 : (⟨#[x, y]⟩ : ByteArray).toList = [x, y] := by rw [toList_data]
  simp only [strings_HasPrefix.f, stringslite_HasPrefix.f, h2, h3]
  by_cases h : 2 ≤ a.size
  · rw [if_pos (by omega), if_pos (by omega), if_pos (by omega), decide_eq_true h]; rfl
  · rw [if_neg (by omega), decide_eq_false h]; rfl
def two (x y : UInt8) : ByteArray := ⟨#[x, y]⟩
theorem two_list (x y : UInt8) : (two x y).toList = [x, y] := by rw [toList_data]; rfl
def ops2 : List ByteArray := [two 33 61, two 60 61, two 62 61, two 46 46]
def MK (t : ByteArray) : Prop := t ∈ ops2 ∨ ∃ c : Int, bts t = [c] ∧ ∃ y ∈ bts marks, (y == c) = true
theorem bts_one (s : ByteArray) (i : Nat) (h : i + 1 ≤ s.size) : bts (s.extract i (i + 1)) = [bt s (i : Int)] := by
  rw [bts_extract, List.drop_take, show i + 1 - i = 1 by omega, drop_at (show i < s.size by omega)]
  rfl
theorem mark_ev (s : ByteArray) (hs : s.size ≤ 1048576) (i : Nat) (hi : i < s.size) : ∃ t : ByteArray, (t.toList = ([] : List UInt8) ∧ (∃ a b c, Ev (fun k => impl_tokenAt.l3 k (s.extract i s.size) ops2 4 0) (a, b, c, (0 : Int))) ∨ (t.toList ≠ [] ∧ 1 ≤ t.size ∧ i + t.size ≤ s.size ∧ MK t ∧ Ev (fun k => impl_tokenAt.l3 k (s.extract i s.size) ops2 4 0) ((4 : Int), t, (0 : Int), (t.size : Int)))) ∧ Ev (fun k => spec_l3Mark.f k s (i : Int)) t := by
  have hr := size_ext s i s.size (Nat.le_refl _)
  have e0 : bt (s.extract i s.size) ((0 : Nat) : Int) = bt s ((i + 0 : Nat) : Int) := bt_ext s i s.size 0 (Nat.le_refl _) (by omega)
  have e2 : wrap64 ((i : Int) + 2) = ((i + 2 : Nat) : Int) := by rw [w64 (by omega) (by omega)]; omega
  have hbt := bt_byte s (i : Int)
  have hone : ∃ t : ByteArray, (t.toList = ([] : List UInt8) ∧ (∃ a b c, Ev (fun k => impl_tokenAt.l3 k (s.extract i s.size) ops2 4 4) (a, b, c, (0 : Int))) ∨ (t.toList ≠ [] ∧ 1 ≤ t.size ∧ i + t.size ≤ s.size ∧ MK t ∧ Ev (fun k => impl_tokenAt.l3 k (s.extract i s.size) ops2 4 4) ((4 : Int), t, (0 : Int), (t.size : Int)))) ∧ Ev (fun k => spec_l3Mark.j0 k s (i : Int)) t := by
    have z := mark_l0 s hs i hi 18 0 (by omega)
    rw [List.drop_zero] at z
    have hib := ib_bts marks _ hbt.1 hbt.2
    refine ⟨_, ?_, Ev.step (fun k => by rw [spec_l3Mark.j0]) (show Ev (fun k => spec_l3Mark.l0 k s (i : Int) 0) _ from z)⟩
    have es := size_ext s i (i + 1) (by omega)
    by_cases hm : ((bts marks).any fun y => y == bt s (i : Int)) = true
    · right
      rw [hm] at hib ⊢
      rw [mark1, if_pos rfl, es]
      refine ⟨fun hh => by have := toList_nil.1 hh; omega, by omega, by omega, .inr ⟨bt s (i : Int), bts_one s i (by omega), List.any_eq_true.1 hm⟩, Ev.step (fun k => by rw [impl_tokenAt.l3]) ?_⟩
      refine ev_neg (by omega) (ev_pos (by omega) (ev_let _ rfl (ev_pos ?_ (ev_pos (by omega) (ev_pos (by omega) (ev_const ?_))))))
      · have e0' : bt (s.extract i s.size) 0 = bt s (i : Int) := e0
        rw [e0']
        exact of_decide_eq_true hib
      · rw [show (1 : Nat) = 0 + 1 from rfl, show i + 1 - i = 1 by omega, ext_ext s i s.size 1 (Nat.le_refl _) (by omega)]; rfl
    · left
      rw [Bool.eq_false_iff.mpr hm] at hib ⊢
      refine ⟨by rw [mark1, if_neg (by simp)]; exact toList_nil.2 rfl, 0, ⟨#[]⟩, 0, Ev.step (fun k => by rw [impl_tokenAt.l3]) ?_⟩
      refine ev_neg (by omega) (ev_pos (by omega) (ev_let _ rfl (ev_neg ?_ (ev_const rfl))))
      have e0' : bt (s.extract i s.size) 0 = bt s (i : Int) := e0
      rw [e0']
      exact of_decide_eq_false hib
  have step : ∀ (j : Nat) (x y : UInt8) (hj : j < 4) (hg : rdOf ByteArray.empty ops2 (j : Int) = two x y) (r : Int × ByteArray × Int × Int), (∀ (hno : ¬ (i + 2 ≤ s.size ∧ (s.extract i (i + 2)).toList = [x, y])), Ev (fun k => impl_tokenAt.l3 k (s.extract i s.size) ops2 4 ((j + 1 : Nat) : Int)) r) → ((i + 2 ≤ s.size ∧ (s.extract i (i + 2)).toList = [x, y]) → r = ((4 : Int), two x y, (0 : Int), (2 : Int))) → Ev (fun k => impl_tokenAt.l3 k (s.extract i s.size) ops2 4 (j : Int)) r := by
    intro j x y hj hg r h1 h2
    have ej : wrap64 ((j : Int) + 1) = ((j + 1 : Nat) : Int) := by rw [w64 (by omega) (by omega)]; omega
    have ho : ops2.length = 4 := rfl
    have hpe := pre_eq (s.extract i s.size) x y
    refine Ev.step (fun k => by rw [impl_tokenAt.l3]) ?_
    refine ev_pos (by omega) (ev_pos (by omega) (ev_pos (by omega) ?_))
    rw [hg, ej]
    refine ev_let _ hpe ?_
    have hiff : (decide (2 ≤ (s.extract i s.size).size) && (((s.extract i s.size).extract 0 2).toList == ([x, y] : List UInt8))) = true ↔ (i + 2 ≤ s.size ∧ (s.extract i (i + 2)).toList = [x, y]) := by
      rw [Bool.and_eq_true, decide_eq_true_eq, beq_iff_eq, hr]
      constructor
      · rintro ⟨a1, a2⟩
        rw [ext_ext s i s.size 2 (Nat.le_refl _) (by omega)] at a2
        exact ⟨by omega, a2⟩
      · rintro ⟨a1, a2⟩
        rw [ext_ext s i s.size 2 (Nat.le_refl _) (by omega)]
        exact ⟨by omega, a2⟩
    refine ev_ite (fun h => ?_) (fun h => ?_)
    · rw [h2 (hiff.1 h)]; exact ev_const rfl
    · exact h1 (fun hh => h (hiff.2 hh))
  have h4 : ∀ j : Nat, wrap64 ((j : Int) + 1) = wrap64 ((j : Int) + 1) := fun _ => rfl
  have done2 : ∀ (x y : UInt8), i + 2 ≤ s.size → (s.extract i (i + 2)).toList = [x, y] → s.extract i (i + 2) = two x y := fun x y _ hh => toList_eq.1 (by rw [hh, two_list])
  have tsz : ∀ (x y : UInt8), (two x y).size = 2 := fun _ _ => rfl
  have tne : ∀ (x y : UInt8), (two x y).toList ≠ [] := fun x y => by rw [two_list]; simp
  by_cases hA : i + 2 ≤ s.size ∧ (s.extract i (i + 2)).toList = [33, 61]
  · refine ⟨two 33 61, .inr ⟨tne _ _, by rw [tsz]; omega, by rw [tsz]; omega, .inl (by simp [ops2]), ?_⟩, ?_⟩
    · exact step 0 33 61 (by omega) rfl _ (fun hno => absurd hA hno) (fun _ => rfl)
    · simp only [spec_l3Mark.f, e2, Int.toNat_natCast]
      refine ev_pos (by omega) (ev_pos (by omega) (ev_pos (by omega) (ev_pos hA.2 (ev_const ?_))))
      rw [done2 _ _ hA.1 hA.2]
  by_cases hB : i + 2 ≤ s.size ∧ (s.extract i (i + 2)).toList = [60, 61]
  · refine ⟨two 60 61, .inr ⟨tne _ _, by rw [tsz]; omega, by rw [tsz]; omega, .inl (by simp [ops2]), ?_⟩, ?_⟩
    · exact step 0 33 61 (by omega) rfl _ (fun _ => step 1 60 61 (by omega) rfl _ (fun hno => absurd hB hno) (fun _ => rfl)) (fun hh => absurd hh hA)
    · simp only [spec_l3Mark.f, e2, Int.toNat_natCast]
      refine ev_pos (by omega) (ev_pos (by omega) (ev_pos (by omega) (ev_neg (fun hh => hA ⟨hB.1, hh⟩) (ev_pos hB.2 (ev_const ?_)))))
      rw [done2 _ _ hB.1 hB.2]
  by_cases hC : i + 2 ≤ s.size ∧ (s.extract i (i + 2)).toList = [62, 61]
  · refine ⟨two 62 61, .inr ⟨tne _ _, by rw [tsz]; omega, by rw [tsz]; omega, .inl (by simp [ops2]), ?_⟩, ?_⟩
    · exact step 0 33 61 (by omega) rfl _ (fun _ => step 1 60 61 (by omega) rfl _ (fun _ => step 2 62 61 (by omega) rfl _ (fun hno => absurd hC hno) (fun _ => rfl)) (fun hh => absurd hh hB)) (fun hh => absurd hh hA)
    · simp only [spec_l3Mark.f, e2, Int.toNat_natCast]
      refine ev_pos (by omega) (ev_pos (by omega) (ev_pos (by omega) (ev_neg (fun hh => hA ⟨hC.1, hh⟩) (ev_neg (fun hh => hB ⟨hC.1, hh⟩) (ev_pos hC.2 (ev_const ?_))))))
      rw [done2 _ _ hC.1 hC.2]
  by_cases hD : i + 2 ≤ s.size ∧ (s.extract i (i + 2)).toList = [46, 46]
  · refine ⟨two 46 46, .inr ⟨tne _ _, by rw [tsz]; omega, by rw [tsz]; omega, .inl (by simp [ops2]), ?_⟩, ?_⟩
    · exact step 0 33 61 (by omega) rfl _ (fun _ => step 1 60 61 (by omega) rfl _ (fun _ => step 2 62 61 (by omega) rfl _ (fun _ => step 3 46 46 (by omega) rfl _ (fun hno => absurd hD hno) (fun _ => rfl)) (fun hh => absurd hh hC)) (fun hh => absurd hh hB)) (fun hh => absurd hh hA)
    · simp only [spec_l3Mark.f, e2, Int.toNat_natCast]
      refine ev_pos (by omega) (ev_pos (by omega) (ev_pos (by omega) (ev_neg (fun hh => hA ⟨hD.1, hh⟩) (ev_neg (fun hh => hB ⟨hD.1, hh⟩) (ev_neg (fun hh => hC ⟨hD.1, hh⟩) (ev_pos hD.2 (ev_const ?_)))))))
      rw [done2 _ _ hD.1 hD.2]
  have lift : ∀ r, Ev (fun k => impl_tokenAt.l3 k (s.extract i s.size) ops2 4 4) r → Ev (fun k => impl_tokenAt.l3 k (s.extract i s.size) ops2 4 0) r := fun r z =>
    step 0 33 61 (by omega) rfl _ (fun _ => step 1 60 61 (by omega) rfl _ (fun _ => step 2 62 61 (by omega) rfl _ (fun _ => step 3 46 46 (by omega) rfl _ (fun _ => z) (fun hh => absurd hh hD)) (fun hh => absurd hh hC)) (fun hh => absurd hh hB)) (fun hh => absurd hh hA)
  obtain ⟨t, ht, z⟩ := hone
  refine ⟨t, ?_, ?_⟩
  · rcases ht with ⟨h1, a, b, c, h2⟩ | ⟨h1, h2, h3, hk, h5⟩
    · exact .inl ⟨h1, a, b, c, lift _ h2⟩
    · exact .inr ⟨h1, h2, h3, hk, lift _ h5⟩
  · simp only [spec_l3Mark.f, e2, Int.toNat_natCast]
    refine ev_ite (fun hle => ?_) (fun _ => z)
    have hle' : i + 2 ≤ s.size := by omega
    exact ev_pos (by omega) (ev_pos (by omega) (ev_neg (fun hh => hA ⟨hle', hh⟩) (ev_neg (fun hh => hB ⟨hle', hh⟩) (ev_neg (fun hh => hC ⟨hle', hh⟩) (ev_neg (fun hh => hD ⟨hle', hh⟩) z)))))
/-! quoted texts -/
theorem unq_split : ∀ (n : Nat) (l t q : List Int), l.length ≤ n → unq l = some (t, q) → ∃ p, l = p ++ q ∧ unq p = some (t, []) := by
  intro n
  induction n with
  | zero =>
    intro l t q hl h
    cases l with
    | nil => simp [unq] at h
    | cons c r => simp at hl
  | succ n ih =>
    intro l t q hl h
    cases l with
    | nil => simp [unq] at h
    | cons c r =>
      rw [unq_cons] at h
      simp only [List.length_cons] at hl
      by_cases h34 : c = 34
      · rw [if_pos h34, Option.some.injEq, Prod.mk.injEq] at h
        obtain ⟨rfl, rfl⟩ := h
        exact ⟨[c], rfl, by rw [unq_cons, if_pos h34]⟩
      · rw [if_neg h34] at h
        by_cases h92 : c = 92
        · rw [if_pos h92] at h
          cases r with
          | nil => simp at h
          | cons d r' =>
            simp only [List.length_cons] at hl h
            by_cases hd : d = 34 ∨ d = 92
            · rw [if_pos hd] at h
              obtain ⟨⟨t', q'⟩, h1, h2⟩ := Option.map_eq_some_iff.1 h
              simp only [Prod.mk.injEq] at h2
              obtain ⟨rfl, rfl⟩ := h2
              obtain ⟨p, h3, h4⟩ := ih r' t' q' (by omega) h1
              refine ⟨c :: d :: p, by rw [h3]; rfl, ?_⟩
              rw [unq_cons, if_neg h34, if_pos h92]
              simp only [if_pos hd, h4, Option.map_some]
            · rw [if_neg hd] at h
              cases h
        · rw [if_neg h92] at h
          obtain ⟨⟨t', q'⟩, h1, h2⟩ := Option.map_eq_some_iff.1 h
          simp only [Prod.mk.injEq] at h2
          obtain ⟨rfl, rfl⟩ := h2
          obtain ⟨p, h3, h4⟩ := ih r t' q' (by omega) h1
          refine ⟨c :: p, by rw [h3]; rfl, ?_⟩
          rw [unq_cons, if_neg h34, if_neg h92, h4]
          rfl
/-! a whole text -/
def VT (x : TK) : Prop :=
  (x.f0 = 1 ∧ 1 ≤ x.f1.size ∧ lowerB (bt x.f1 0) = true ∧ (∀ q : Nat, 1 ≤ q → q < x.f1.size → nameB (bt x.f1 (q : Int)) = true) ∧ bt x.f1 ((x.f1.size - 1 : Nat) : Int) ≠ 45) ∨
  (x.f0 = 2 ∧ 1 ≤ x.f1.size ∧ ∀ q : Nat, q < x.f1.size → digitB (bt x.f1 (q : Int)) = true) ∨
  x.f0 = 3 ∨ (x.f0 = 4 ∧ MK x.f1)
def okR (s : ByteArray) (r : List TK × Int) : Prop := r.1.length ≤ s.size ∧ muK r.1 ≤ s.size ∧ ∀ x ∈ r.1, VT x
def GG (s : ByteArray) (acc : List TK) (i : Nat) : Prop := ∃ r, okR s r ∧ Ev (fun k => spec_Lex.l0 k s acc (i : Int)) r ∧ Ev (fun k => impl_Lex.l0 k s acc (i : Int)) r
theorem mu_snoc (acc : List TK) (a : Int) (t : ByteArray) (c : Int) : muK (acc ++ [(⟨a, t, c⟩ : TK)]) = muK acc + t.size := by
  rw [muK_append]
  simp only [muK]
  omega
theorem comment_ev (s : ByteArray) (hs : s.size ≤ 1048576) (i : Nat) (acc : List TK) (H : ∀ j, i < j → j ≤ s.size → GG s acc j) : ∀ (m j : Nat) (hij : i < j) (hj : j + m = s.size), ∃ r, okR s r ∧ Ev (fun k => spec_Lex.l1 k s acc (j : Int)) r ∧ Ev (fun k => impl_Lex.l1 k s acc (j : Int)) r := by
  intro m
  induction m with
  | zero =>
    intro j hij hj
    obtain ⟨r, h0, z1, z2⟩ := H j hij (by omega)
    refine ⟨r, h0, Ev.step (fun k => by rw [spec_Lex.l1]) ?_, Ev.step (fun k => by rw [impl_Lex.l1]) ?_⟩
    · exact ev_neg (by omega) z1
    · exact ev_neg (by omega) z2
  | succ m ih =>
    intro j hij hj
    have e1 : wrap64 ((j : Int) + 1) = ((j + 1 : Nat) : Int) := by rw [w64 (by omega) (by omega)]; omega
    by_cases h10 : bt s (j : Int) = 10
    · obtain ⟨r, h0, z1, z2⟩ := H j hij (by omega)
      refine ⟨r, h0, Ev.step (fun k => by rw [spec_Lex.l1]) ?_, Ev.step (fun k => by rw [impl_Lex.l1]) ?_⟩
      · exact ev_pos (by omega) (ev_pos (by omega) (ev_pos h10 z1))
      · exact ev_pos (by omega) (ev_pos (by omega) (ev_pos h10 z2))
    · obtain ⟨r, h0, z1, z2⟩ := ih (j + 1) (by omega) (by omega)
      refine ⟨r, h0, Ev.step (fun k => by rw [spec_Lex.l1]) ?_, Ev.step (fun k => by rw [impl_Lex.l1]) ?_⟩
      · rw [e1]; exact ev_pos (by omega) (ev_pos (by omega) (ev_neg h10 z1))
      · rw [e1]; exact ev_pos (by omega) (ev_pos (by omega) (ev_neg h10 z2))
theorem vt_name (s : ByteArray) (i L : Nat) (h1 : 1 ≤ L) (h2 : i + L ≤ s.size) (hA : lowerB (bt s (i : Int)) = true) (g1 : bt s ((i + (L - 1) : Nat) : Int) ≠ 45) (g2 : ∀ q : Nat, 1 ≤ q → q < L → nameB (bt s ((i + q : Nat) : Int)) = true) : VT ⟨1, s.extract i (i + L), (i : Int)⟩ := by
  have hz : (s.extract i (i + L)).size = L := by rw [size_ext s i (i + L) h2]; omega
  refine .inl ⟨rfl, by show 1 ≤ (s.extract i (i + L)).size; omega, ?_, fun q a1 a2 => ?_, ?_⟩
  · show lowerB (bt (s.extract i (i + L)) ((0 : Nat) : Int)) = true
    rw [bt_ext s i (i + L) 0 h2 (by omega)]; exact hA
  · have a3 : q < L := by have : q < (s.extract i (i + L)).size := a2; omega
    show nameB (bt (s.extract i (i + L)) (q : Int)) = true
    rw [bt_ext s i (i + L) q h2 (by omega)]; exact g2 q a1 a3
  · show bt (s.extract i (i + L)) (((s.extract i (i + L)).size - 1 : Nat) : Int) ≠ 45
    rw [hz, bt_ext s i (i + L) (L - 1) h2 (by omega)]; exact g1
theorem vt_num (s : ByteArray) (i L : Nat) (h1 : 1 ≤ L) (h2 : i + L ≤ s.size) (g2 : ∀ q : Nat, q < L → digitB (bt s ((i + q : Nat) : Int)) = true) : VT ⟨2, s.extract i (i + L), (i : Int)⟩ := by
  have hz : (s.extract i (i + L)).size = L := by rw [size_ext s i (i + L) h2]; omega
  refine .inr (.inl ⟨rfl, by show 1 ≤ (s.extract i (i + L)).size; omega, fun q a2 => ?_⟩)
  have a3 : q < L := by have : q < (s.extract i (i + L)).size := a2; omega
  show digitB (bt (s.extract i (i + L)) (q : Int)) = true
  rw [bt_ext s i (i + L) q h2 (by omega)]; exact g2 q a3
theorem lex_ev (s : ByteArray) (hs : s.size ≤ 1048576) : ∀ (n i : Nat) (acc : List TK) (hi : i + n = s.size) (ha : acc.length ≤ i) (hm : muK acc ≤ i) (hv : ∀ x ∈ acc, VT x), GG s acc i := by
  intro n
  induction n using Nat.strongRecOn with
  | ind n ih =>
  intro i acc hi ha hm hv
  by_cases hend : n = 0
  · refine ⟨(acc, -1), ⟨by show acc.length ≤ _; omega, by show muK acc ≤ _; omega, hv⟩, Ev.step (fun k => by rw [spec_Lex.l0]) ?_, Ev.step (fun k => by rw [impl_Lex.l0]) ?_⟩
    · exact ev_neg (by omega) (ev_const rfl)
    · exact ev_neg (by omega) (ev_const rfl)
  have hlt : i < s.size := by omega
  have e1 : wrap64 ((i : Int) + 1) = ((i + 1 : Nat) : Int) := by rw [w64 (by omega) (by omega)]; omega
  have hr := size_ext s i s.size (Nat.le_refl _)
  have e0 : bt (s.extract i s.size) 0 = bt s (i : Int) := bt_ext s i s.size 0 (Nat.le_refl _) (by omega)
  have hbt := bt_byte s (i : Int)
  have next : ∀ (j : Nat) (acc' : List TK), i < j → j ≤ s.size → acc'.length ≤ j → muK acc' ≤ j → (∀ x ∈ acc', VT x) → GG s acc' j := fun j acc' h1 h2 h3 h4 h5 => ih (s.size - j) (by omega) j acc' (by omega) h3 h4 h5
  by_cases hsp : bt s (i : Int) = 32 ∨ bt s (i : Int) = 10
  · obtain ⟨r, h0, z1, z2⟩ := next (i + 1) acc (by omega) (by omega) (by omega) (by omega) hv
    rw [← e1] at z1 z2
    refine ⟨r, h0, Ev.step (fun k => by rw [spec_Lex.l0]) ?_, Ev.step (fun k => by rw [impl_Lex.l0]) ?_⟩
    · refine ev_pos (by omega) (ev_pos (by omega) (ev_ite (fun h => ?_) (fun h => ?_)))
      · exact Ev.step (fun k => by rw [spec_Lex.j1]) (ev_pos rfl z1)
      · exact Ev.step (fun k => by rw [spec_Lex.j1]) (ev_pos (by rw [beq_iff_eq]; omega) z1)
    · refine ev_pos (by omega) (ev_pos (by omega) (ev_ite (fun h => ?_) (fun h => ?_)))
      · exact Ev.step (fun k => by rw [impl_Lex.j1]) (ev_pos (by rw [beq_iff_eq]; omega) z2)
      · exact Ev.step (fun k => by rw [impl_Lex.j1]) (ev_pos (by rw [beq_iff_eq]; omega) z2)
  have h32 : ¬ bt s (i : Int) = 32 := fun h => hsp (.inl h)
  have h10 : ¬ bt s (i : Int) = 10 := fun h => hsp (.inr h)
  have f10 : ¬ ((bt s (i : Int) == 10) = true) := by rw [beq_iff_eq]; exact h10
  suffices main : ∃ r, okR s r ∧ Ev (fun k => if bt s (i : Int) = 35 then spec_Lex.l1 k s acc (i : Int) else (spec_l3Letter.f (bt s (i : Int))).bind fun t118 => (if t118 = true then ((spec_l3Name.f k s (i : Int)).bind fun t119 => (if 0 ≤ (i : Int) then (if (i : Int) ≤ t119 then (if t119 ≤ (s.size : Int) then (if acc.length < 4398046511104 then (spec_Lex.l0 k s (acc ++ [(⟨1, s.extract ((i : Int)).toNat (t119 : Int).toNat, (i : Int)⟩ : TK)]) t119) else (none)) else (none)) else (none)) else (none))) else ((spec_l3Digit.f (bt s (i : Int))).bind fun t123 => (if t123 = true then (spec_Lex.l2 k s acc (i : Int) (i : Int)) else (if (bt s (i : Int)) = 34 then ((spec_l2End.f k s (i : Int)).bind fun t131 => (if t131 < 0 then (some ((([] : List TK)), (i : Int))) else (if 0 ≤ (i : Int) then (if (i : Int) ≤ t131 then (if t131 ≤ (s.size : Int) then ((spec_UnquoteText.f k (s.extract ((i : Int)).toNat (t131 : Int).toNat)).bind fun bt135 => (if acc.length < 4398046511104 then (spec_Lex.l0 k s (acc ++ [(⟨3, bt135.1, (i : Int)⟩ : TK)]) t131) else (none))) else (none)) else (none)) else (none)))) else ((spec_l3Mark.f k s (i : Int)).bind fun t140 => (if t140.toList = ([] : List UInt8) then (some ((([] : List TK)), (i : Int))) else (if acc.length < 4398046511104 then (spec_Lex.l0 k s (acc ++ [(⟨4, t140, (i : Int)⟩ : TK)]) (wrap64 ((i : Int) + (t140.size : Int)))) else (none))))))))) r ∧ Ev (fun k => if bt s (i : Int) = 35 then impl_Lex.l1 k s acc (i : Int) else (impl_tokenAt.f k (s.extract i s.size)).bind fun bt178 => (if bt178.2.2.2 = 0 then (some ((([] : List TK)), (i : Int))) else (if acc.length < 4398046511104 then (impl_Lex.l0 k s (acc ++ [(⟨bt178.1, bt178.2.1, (i : Int)⟩ : TK)]) (wrap64 ((i : Int) + bt178.2.2.2))) else (none)))) r by
    obtain ⟨r, h0, z1, z2⟩ := main
    refine ⟨r, h0, Ev.step (fun k => by rw [spec_Lex.l0]) ?_, Ev.step (fun k => by rw [impl_Lex.l0]) ?_⟩
    · refine ev_pos (by omega) (ev_pos (by omega) (ev_neg h32 ?_))
      refine Ev.step (fun k => by rw [spec_Lex.j1]) ?_
      exact ev_neg f10 (ev_pos (by omega) (ev_pos (by omega) z1))
    · refine ev_pos (by omega) (ev_pos (by omega) (ev_neg h32 ?_))
      refine Ev.step (fun k => by rw [impl_Lex.j1]) ?_
      refine ev_neg f10 ?_
      have e5 : (((i : Int)).toNat) = i := Int.toNat_natCast i
      by_cases h35 : bt s (i : Int) = 35
      · rw [funext fun k => if_pos h35] at z2
        exact ev_pos h35 z2
      · rw [funext fun k => if_neg h35] at z2
        refine ev_neg h35 (ev_pos (by omega) (ev_pos (by omega) ?_))
        rw [e5]
        exact z2
  by_cases h35 : bt s (i : Int) = 35
  · obtain ⟨r, h0, z1, z2⟩ := comment_ev s hs i acc (fun j h1 h2 => next j acc h1 h2 (by omega) (by omega) hv) (n - 1) (i + 1) (by omega) (by omega)
    rw [← e1] at z1 z2
    refine ⟨r, h0, ev_pos h35 (Ev.step (fun k => by rw [spec_Lex.l1]) ?_), ev_pos h35 (Ev.step (fun k => by rw [impl_Lex.l1]) ?_)⟩
    · exact ev_pos (by omega) (ev_pos (by omega) (ev_neg h10 z1))
    · exact ev_pos (by omega) (ev_pos (by omega) (ev_neg h10 z2))
  have eL : ∀ L : Nat, i + L ≤ s.size → wrap64 ((i : Int) + (L : Int)) = ((i + L : Nat) : Int) := fun L hL => by rw [w64 (by omega) (by omega)]; omega
  have fail : ∀ (a : Int) (b : ByteArray) (c : Int), Ev (fun k => impl_tokenAt.f k (s.extract i s.size)) (a, b, c, (0 : Int)) → Ev (fun k => if bt s (i : Int) = 35 then impl_Lex.l1 k s acc (i : Int) else (impl_tokenAt.f k (s.extract i s.size)).bind fun bt178 => (if bt178.2.2.2 = 0 then (some ((([] : List TK)), (i : Int))) else (if acc.length < 4398046511104 then (impl_Lex.l0 k s (acc ++ [(⟨bt178.1, bt178.2.1, (i : Int)⟩ : TK)]) (wrap64 ((i : Int) + bt178.2.2.2))) else (none)))) (([] : List TK), (i : Int)) := fun a b c z => ev_neg h35 (ev_bind _ z (ev_pos rfl (ev_const rfl)))
  have okF : okR s (([] : List TK), (i : Int)) := ⟨Nat.zero_le _, Nat.zero_le _, fun x hx => absurd hx (by simp)⟩
  have good : ∀ (kd : Int) (t : ByteArray) (L : Nat) (hL1 : 1 ≤ L) (hL2 : i + L ≤ s.size) (ht : t.size ≤ L) (hvt : VT ⟨kd, t, (i : Int)⟩), ∃ r, okR s r ∧ Ev (fun k => spec_Lex.l0 k s (acc ++ [(⟨kd, t, (i : Int)⟩ : TK)]) ((i + L : Nat) : Int)) r ∧ (Ev (fun k => impl_tokenAt.f k (s.extract i s.size)) (kd, t, (0 : Int), (L : Int)) → Ev (fun k => if bt s (i : Int) = 35 then impl_Lex.l1 k s acc (i : Int) else (impl_tokenAt.f k (s.extract i s.size)).bind fun bt178 => (if bt178.2.2.2 = 0 then (some ((([] : List TK)), (i : Int))) else (if acc.length < 4398046511104 then (impl_Lex.l0 k s (acc ++ [(⟨bt178.1, bt178.2.1, (i : Int)⟩ : TK)]) (wrap64 ((i : Int) + bt178.2.2.2))) else (none)))) r) := by
    intro kd t L hL1 hL2 ht hvt
    obtain ⟨r, h0, z1, z2⟩ := next (i + L) (acc ++ [(⟨kd, t, (i : Int)⟩ : TK)]) (by omega) hL2 (by simp only [List.length_append, List.length_cons, List.length_nil]; omega) (by rw [mu_snoc]; omega) (fun x hx => (List.mem_append.1 hx).elim (hv x) (fun h => by rw [List.mem_singleton.1 h]; exact hvt))
    refine ⟨r, h0, z1, fun z => ev_neg h35 (ev_bind _ z (ev_neg (by show ¬ (L : Int) = 0; omega) (ev_pos (by omega) ?_)))⟩
    show Ev (fun k => impl_Lex.l0 k s (acc ++ [(⟨kd, t, (i : Int)⟩ : TK)]) (wrap64 ((i : Int) + (L : Int)))) r
    rw [eL L hL2]
    exact z2
  have tokf : ∀ r, Ev (fun k => if lowerB (bt s (i : Int)) = true then impl_tokenAt.l0 k (s.extract i s.size) 1 else if digitB (bt s (i : Int)) = true then impl_tokenAt.l2 k (s.extract i s.size) 1 else if bt s (i : Int) = 34 then ((impl_quotedEnd.f k (s.extract i s.size)).bind fun bt167 => (some ((3 : Int), bt167.2, (0 : Int), bt167.1))) else impl_tokenAt.l3 k (s.extract i s.size) ops2 4 0) r → Ev (fun k => impl_tokenAt.f k (s.extract i s.size)) r := by
    intro r z
    simp only [impl_tokenAt.f, e0]
    refine ev_pos (by omega) (ev_let _ (isLower_eq _) ?_)
    by_cases hA : lowerB (bt s (i : Int)) = true
    · rw [funext fun k => if_pos hA] at z
      exact ev_pos hA z
    rw [funext fun k => if_neg hA] at z
    refine ev_neg hA (ev_let _ (isDigit_eq _) ?_)
    by_cases hB : digitB (bt s (i : Int)) = true
    · rw [funext fun k => if_pos hB] at z
      exact ev_pos hB z
    rw [funext fun k => if_neg hB] at z
    refine ev_neg hB ?_
    by_cases hC : bt s (i : Int) = 34
    · rw [funext fun k => if_pos hC] at z
      exact ev_pos hC z
    rw [funext fun k => if_neg hC] at z
    refine ev_neg hC (ev_let _ rfl ?_)
    exact z
  by_cases hA : lowerB (bt s (i : Int)) = true
  · have h45 : bt s (i : Int) ≠ 45 := by
      intro h
      rw [h] at hA
      exact absurd hA (by decide)
    obtain ⟨L, h1, h2, ⟨g1, g2⟩, z1, z2⟩ := name_ev s hs i h45 (n - 1) 1 (Nat.le_refl _) (by omega) (fun q a1 a2 => by omega)
    rw [ext_ext s i s.size L (Nat.le_refl _) h2] at z2
    obtain ⟨r, h0, w1, w2⟩ := good 1 (s.extract i (i + L)) L h1 h2 (by rw [size_ext s i (i + L) h2]; omega) (vt_name s i L h1 h2 hA g1 g2)
    refine ⟨r, h0, ?_, w2 (tokf _ (ev_pos hA z2))⟩
    refine ev_neg h35 (ev_let _ (l3Letter_eq _ _) (ev_pos hA ?_))
    refine ev_bind ((i + L : Nat) : Int) ?_ ?_
    · simp only [spec_l3Name.f]
      refine Ev.step (fun k => by rw [spec_l3Name.l0]) ?_
      refine ev_pos (by omega) (ev_pos (by omega) (ev_let _ (l3Letter_eq _ _) (ev_pos hA ?_)))
      rw [e1]
      exact z1
    · refine ev_pos (by omega) (ev_pos (by omega) (ev_pos (by omega) (ev_pos (by omega) ?_)))
      rw [Int.toNat_natCast, Int.toNat_natCast]
      exact w1
  by_cases hB : digitB (bt s (i : Int)) = true
  · obtain ⟨L, h1, h2, g2, z1, z2⟩ := num_ev s hs i acc (by omega) (n - 1) 1 (Nat.le_refl _) (by omega) (fun q a2 => by rw [show q = 0 by omega]; exact hB)
    rw [ext_ext s i s.size L (Nat.le_refl _) h2] at z2
    obtain ⟨r, h0, w1, w2⟩ := good 2 (s.extract i (i + L)) L h1 h2 (by rw [size_ext s i (i + L) h2]; omega) (vt_num s i L h1 h2 g2)
    refine ⟨r, h0, ?_, w2 (tokf _ (ev_neg hA (ev_pos hB z2)))⟩
    refine ev_neg h35 (ev_let _ (l3Letter_eq _ _) (ev_neg hA (ev_let _ (l3Digit_eq _ _) (ev_pos hB ?_))))
    refine Ev.step (fun k => by rw [spec_Lex.l2]) ?_
    refine ev_pos (by omega) (ev_pos (by omega) (ev_let _ (l3Digit_eq _ _) (ev_pos hB ?_)))
    rw [e1]
    exact z1 r w1
  by_cases hC : bt s (i : Int) = 34
  · have hq := impl_quotedEnd_ev (s.extract i s.size) (by omega)
    have hl2 := spec_l2End_ev s i (by omega) hlt
    have hdrop := drop_at hlt
    have hbr : bts (s.extract i s.size) = 34 :: (bts s).drop (i + 1) := by
      rw [bts_extract, List.take_of_length_le (by rw [bts_length]; omega), hdrop, hC]
    unfold mQuotedEnd at hq
    simp only [hbr, if_true] at hq
    cases hu : unq ((bts s).drop (i + 1)) with
    | none =>
      rw [hu] at hq hl2
      refine ⟨_, okF, ?_, fail 3 _ 0 (tokf _ (ev_neg hA (ev_neg hB (ev_pos hC (ev_bind _ hq (ev_const rfl))))))⟩
      refine ev_neg h35 (ev_let _ (l3Letter_eq _ _) (ev_neg hA (ev_let _ (l3Digit_eq _ _) (ev_neg hB (ev_pos hC ?_)))))
      exact ev_bind _ hl2 (ev_pos (by show (-1 : Int) < 0; omega) (ev_const rfl))
    | some tq =>
      obtain ⟨t, q⟩ := tq
      rw [hu] at hq hl2
      have hlen := unq_len _ _ _ _ (Nat.le_refl _) hu
      obtain ⟨p, hp, hup⟩ := unq_split _ _ _ _ (Nat.le_refl _) hu
      rw [List.length_drop, bts_length] at hlen
      have hpl : p.length + q.length = s.size - (i + 1) := by rw [← List.length_append, ← hp, List.length_drop, bts_length]
      obtain ⟨L, hL⟩ : ∃ L : Nat, L = 1 + p.length := ⟨_, rfl⟩
      have eA : lEnd s (some (t, q)) = ((i + L : Nat) : Int) := by show (s.size : Int) - q.length = _; omega
      have eB : qEnd (s.extract i s.size) [] (some (t, q)) = ((L : Int), strOfNums t) := by
        show (((s.extract i s.size).size : Int) - (q.length : Int), strOfNums ([] ++ t)) = _
        rw [hr, List.nil_append]
        congr 1
        omega
      rw [eA] at hl2
      rw [eB] at hq
      obtain ⟨r, h0, w1, w2⟩ := good 3 (strOfNums t) L (by omega) (by omega) (by rw [size_str]; omega) (.inr (.inr (.inl rfl)))
      refine ⟨r, h0, ?_, w2 (tokf _ (ev_neg hA (ev_neg hB (ev_pos hC (ev_bind _ hq (ev_const rfl))))))⟩
      refine ev_neg h35 (ev_let _ (l3Letter_eq _ _) (ev_neg hA (ev_let _ (l3Digit_eq _ _) (ev_neg hB (ev_pos hC ?_)))))
      refine ev_bind _ hl2 (ev_neg (by omega) (ev_pos (by omega) (ev_pos (by omega) (ev_pos (by omega) ?_))))
      rw [Int.toNat_natCast, Int.toNat_natCast]
      have hx : mUnquote (s.extract i (i + L)) = (strOfNums t, true) := by
        have e : bts (s.extract i (i + L)) = 34 :: p := by
          rw [bts_extract, ← List.take_drop, hdrop, hC, hp, hL, Nat.add_comm 1, List.take_succ_cons, List.take_left]
        unfold mUnquote
        simp only [e, if_true, hup]
      have z := spec_UnquoteText_ev (s.extract i (i + L)) (by rw [size_ext s i (i + L) (by omega)]; omega)
      rw [hx] at z
      exact ev_bind _ z (ev_pos (by omega) w1)
  obtain ⟨t, ht, z⟩ := mark_ev s hs i hlt
  rcases ht with ⟨h1, a, b, c, h2⟩ | ⟨h1, h2, h3, hk, h4⟩
  · refine ⟨_, okF, ?_, fail a b c (tokf _ (ev_neg hA (ev_neg hB (ev_neg hC h2))))⟩
    refine ev_neg h35 (ev_let _ (l3Letter_eq _ _) (ev_neg hA (ev_let _ (l3Digit_eq _ _) (ev_neg hB (ev_neg hC ?_)))))
    exact ev_bind _ z (ev_pos h1 (ev_const rfl))
  · obtain ⟨r, h0, w1, w2⟩ := good 4 t t.size h2 h3 (Nat.le_refl _) (.inr (.inr (.inr ⟨rfl, hk⟩)))
    refine ⟨r, h0, ?_, w2 (tokf _ (ev_neg hA (ev_neg hB (ev_neg hC h4))))⟩
    refine ev_neg h35 (ev_let _ (l3Letter_eq _ _) (ev_neg hA (ev_let _ (l3Digit_eq _ _) (ev_neg hB (ev_neg hC ?_)))))
    refine ev_bind _ z (ev_neg h1 (ev_pos (by omega) ?_))
    rw [eL _ h3]
    exact w1
theorem Lex_ev (s : ByteArray) (hs : s.size ≤ 1048576) : ∃ r, okR s r ∧ Ev (fun k => spec_Lex.f k s) r ∧ Ev (fun k => impl_Lex.f k s) r := lex_ev s hs s.size 0 [] (by omega) (Nat.zero_le _) (Nat.zero_le _) (fun x hx => absurd hx (by simp))

/-! #### JoinI -/
def mTokenText (a : Int) (b : ByteArray) : ByteArray := if a = 3 then mQuote b else b
theorem impl_TokenText_ev (a : Int) (b : ByteArray) (c : Int) (hb : b.size ≤ 35184372088832) : Ev (fun k => impl_TokenText.f k a b c) (mTokenText a b) := by
  simp only [impl_TokenText.f]
  unfold mTokenText
  refine ev_ite (fun h => ?_) (fun h => ?_)
  · rw [if_pos h]; exact ev_bind _ (impl_QuoteText_ev b hb) (ev_const rfl)
  · rw [if_neg h]; exact ev_const rfl
def tkt (x : TK) : ByteArray := mTokenText x.f0 x.f1
theorem tkt_size (x : TK) : (tkt x).size ≤ 2 * x.f1.size + 2 := by
  unfold tkt mTokenText
  split
  · unfold mQuote
    rw [size_str]
    have := quoteL_len (bts x.f1)
    rw [bts_length] at this
    simp only [List.length_cons, List.length_append, List.length_nil]
    omega
  · omega
def spc : ByteArray := ⟨#[32]⟩
def jl : List TK → Bool → ByteArray → ByteArray
  | [], _, acc => acc
  | x :: l, true, acc => jl l true ((acc ++ spc) ++ tkt x)
  | x :: l, false, acc => jl l true (acc ++ tkt x)
def cost : List TK → Nat
  | [] => 0
  | x :: l => (tkt x).size + 1 + cost l
theorem cost_le (l : List TK) : cost l ≤ 3 * l.length + 2 * muK l := by
  induction l with
  | nil => simp [cost]
  | cons x l ih => simp only [cost, muK, List.length_cons]; have := tkt_size x; omega
theorem size_app (a b : ByteArray) : (a ++ b).size = a.size + b.size := ByteArray.size_append
theorem spc_size : spc.size = 1 := rfl
theorem dat_app (a b : ByteArray) : (a ++ b).data.toList = a.data.toList ++ b.data.toList := by rw [ByteArray.data_append, Array.toList_append]
theorem jl_true (l : List TK) (acc : ByteArray) : (jl l true acc).data.toList = acc.data.toList ++ Lib.joinTail [32] (l.map fun x => (tkt x).data.toList) := by
  induction l generalizing acc with
  | nil => simp [jl, Lib.joinTail]
  | cons x l ih =>
    rw [jl, ih, dat_app, dat_app]
    simp only [Lib.joinTail, List.map_cons, List.flatten_cons, List.append_assoc]
    rfl
theorem jl_join (l : List TK) : (jl l false ⟨#[]⟩).data.toList = Lib.join (l.map fun x => (tkt x).data.toList) [32] := by
  cases l with
  | nil => rfl
  | cons x l => rw [jl, jl_true, List.map_cons, Lib.join_cons, dat_app]; rfl
theorem jl_size (l : List TK) (b : Bool) (acc : ByteArray) : (jl l b acc).size ≤ acc.size + cost l := by
  induction l generalizing acc b with
  | nil => cases b <;> simp [jl, cost]
  | cons x l ih =>
    cases b
    · rw [jl]; have := ih true (acc ++ tkt x); rw [size_app] at this; simp only [cost]; omega
    · rw [jl]; have := ih true ((acc ++ spc) ++ tkt x); rw [size_app, size_app, spc_size] at this; simp only [cost]; omega
theorem impl_Join_l0 : ∀ (suf pre : List TK) (hb : (pre ++ suf).length ≤ 1048576) (hm : muK suf ≤ 1048576) (ha : cost (pre ++ suf) ≤ 1000000000), Ev (fun k => impl_JoinTokens.l0 k (pre.map tkt) (pre ++ suf) ((pre ++ suf).length : Int) (pre.length : Int)) (jl (pre ++ suf) false ⟨#[]⟩)
  | [], pre, hb, hm, ha => by
    refine Ev.step (fun k => by rw [impl_JoinTokens.l0]) ?_
    refine ev_neg (by simp) ?_
    have e : strings_Join.f (pre.map tkt) spc = some (jl (pre ++ []) false ⟨#[]⟩) := by
      rw [List.append_nil] at ha hb ⊢
      have h := jl_join pre
      have h2 := jl_size pre false ⟨#[]⟩
      have hs : (⟨#[]⟩ : ByteArray).size = 0 := rfl
      have e1 : (pre.map tkt).map (·.data.toList) = pre.map fun x => (tkt x).data.toList := by rw [List.map_map]; rfl
      have e2 : spc.data.toList = [32] := rfl
      have h3 := congrArg List.length h
      rw [szd] at h3
      unfold strings_Join.f
      rw [e1, e2, ← h, if_pos (by rw [List.length_map]; omega), if_pos (by rw [szd]; omega)]
    exact ev_let _ e (ev_const rfl)
  | x :: suf, pre, hb, hm, ha => by
    have ex : rd_T44 (pre ++ x :: suf) (pre.length : Int) = x := by unfold rd_T44; exact at_pre pre suf x _
    have hb' := hb
    simp only [List.length_append, List.length_cons] at hb'
    rw [muK] at hm
    have ht : Ev (fun k => impl_TokenText.f k x.f0 x.f1 x.f2) (tkt x) := impl_TokenText_ev x.f0 x.f1 x.f2 (by omega)
    refine Ev.step (fun k => by rw [impl_JoinTokens.l0]) ?_
    refine ev_pos (by simp only [List.length_append, List.length_cons]; omega) (ev_pos (by omega) (ev_pos (by simp only [List.length_append, List.length_cons]; omega) ?_))
    rw [ex, next_pre pre x (by omega)]
    refine ev_bind _ ht (ev_pos (by rw [List.length_map]; omega) ?_)
    have z := impl_Join_l0 suf (pre ++ [x]) (by simpa using hb) (by omega) (by simpa using ha)
    rw [List.append_assoc, List.map_append] at z
    exact z
theorem impl_JoinTokens_ev (l : List TK) (hb : l.length ≤ 1048576) (hm : muK l ≤ 1048576) : Ev (fun k => impl_JoinTokens.f k l) (jl l false ⟨#[]⟩) := by
  simp only [impl_JoinTokens.f]
  have h := cost_le l
  exact impl_Join_l0 l [] (by simpa using hb) hm (by rw [List.nil_append]; omega)

theorem quoteL_byte {l : List Int} (h : ∀ x ∈ l, 0 ≤ x ∧ x ≤ 255) : ∀ x ∈ quoteL l, 0 ≤ x ∧ x ≤ 255 := by
  intro x hx
  unfold quoteL at hx
  obtain ⟨c, hc, hx⟩ := List.mem_flatMap.1 hx
  have := h c hc
  unfold quoteB at hx
  split at hx <;> simp at hx <;> omega
theorem unq_quote (rest : List Int) : ∀ l : List Int, unq (quoteL l ++ 34 :: rest) = some (l, rest)
  | [] => by rw [show quoteL ([] : List Int) = [] from rfl, List.nil_append, unq_cons, if_pos rfl]
  | c :: l => by
    have ih := unq_quote rest l
    rw [quoteL_cons]
    unfold quoteB
    by_cases h : c = 34 ∨ c = 92
    · rw [if_pos h]
      show unq (92 :: (c :: (quoteL l ++ 34 :: rest))) = _
      rw [unq_cons, if_neg (by decide), if_pos rfl]
      show (if c = 34 ∨ c = 92 then (unq (quoteL l ++ 34 :: rest)).map (fun z => (c :: z.1, z.2)) else none) = _
      rw [if_pos h, ih]; rfl
    · rw [if_neg h]
      show unq (c :: (quoteL l ++ 34 :: rest)) = _
      rw [unq_cons, if_neg (by omega), if_neg (by omega), ih]; rfl
theorem bts_mQuote (s : ByteArray) : bts (mQuote s) = 34 :: (quoteL (bts s) ++ [34]) := by
  unfold mQuote
  rw [bts_str]
  · rfl
  · intro x hx
    simp only [List.cons_append, List.mem_cons, List.mem_append, List.not_mem_nil, or_false] at hx
    rcases hx with rfl | hx | rfl
    · omega
    · exact quoteL_byte (fun y hy => bts_byte hy) x hx
    · omega
theorem mQuote_len (s : ByteArray) : (mQuote s).size ≤ 2 * s.size + 2 := by
  rw [← bts_length, bts_mQuote]
  have := quoteL_len (bts s)
  rw [bts_length] at this
  simp; omega
/-! a text that begins with a token's own text -/
def gap : List Int → Prop
  | [] => True
  | c :: _ => c = 32
theorem bt_pre {u t : ByteArray} {rest : List Int} (h : bts u = bts t ++ rest) {m : Nat} (hm : m < t.size) : bt u (m : Int) = bt t (m : Int) := by
  rw [bt_eq, bt_eq, h, Int.toNat_natCast, List.getD_eq_getElem?_getD, List.getD_eq_getElem?_getD, List.getElem?_append_left (by rw [bts_length]; exact hm)]
theorem size_pre {u t : ByteArray} {rest : List Int} (h : bts u = bts t ++ rest) : u.size = t.size + rest.length := by
  rw [← bts_length, h, List.length_append, bts_length]
theorem ext_pre {u t : ByteArray} {rest : List Int} (h : bts u = bts t ++ rest) : u.extract 0 t.size = t := by
  apply bts_inj
  rw [bts_extract, h, List.drop_zero, ← bts_length t, List.take_left]
theorem bt_gap {u t : ByteArray} {rest : List Int} (h : bts u = bts t ++ rest) (g : gap rest) : u.size = t.size ∨ (t.size < u.size ∧ bt u (t.size : Int) = 32) := by
  have hz := size_pre h
  cases rest with
  | nil => left; simpa using hz
  | cons c r =>
    right
    refine ⟨by rw [hz]; simp, ?_⟩
    rw [bt_eq, h, Int.toNat_natCast, List.getD_eq_getElem?_getD, List.getElem?_append_right (by rw [bts_length]; exact Nat.le_refl _), bts_length, Nat.sub_self]
    exact g
theorem tokName (u t : ByteArray) (rest : List Int) (hu : u.size ≤ 1048576) (h : bts u = bts t ++ rest) (g : gap rest) (h1 : 1 ≤ t.size) (h2 : ∀ q : Nat, 1 ≤ q → q < t.size → nameB (bt t (q : Int)) = true) (h3 : bt t ((t.size - 1 : Nat) : Int) ≠ 45) :
    ∀ (d j : Nat), 1 ≤ j → j + d = t.size → Ev (fun k => impl_tokenAt.l0 k u (j : Int)) ((1 : Int), t, (0 : Int), (t.size : Int)) := by
  have hz := size_pre h
  have fin : Ev (fun k => impl_tokenAt.j1 k u (t.size : Int)) ((1 : Int), t, (0 : Int), (t.size : Int)) := by
    have e1 : wrap64 ((t.size : Int) - 1) = ((t.size - 1 : Nat) : Int) := by rw [w64 (by omega) (by omega)]; omega
    refine Ev.step (fun k => by rw [impl_tokenAt.j1]) (Ev.step (fun k => by rw [impl_tokenAt.l1]) ?_)
    rw [e1, bt_pre h (by omega), Int.toNat_natCast, ext_pre h]
    exact ev_pos (by omega) (ev_pos (by omega) (ev_neg h3 (ev_pos (by omega) (ev_pos (by omega) (ev_const rfl)))))
  intro d
  induction d with
  | zero =>
    intro j hj1 hj
    have e : j = t.size := by omega
    subst e
    refine Ev.step (fun k => by rw [impl_tokenAt.l0]) ?_
    rcases bt_gap h g with hg | ⟨hg, hg2⟩
    · exact ev_neg (by omega) fin
    · refine ev_pos (by omega) (ev_pos (by omega) (ev_let _ (isNameByte_eq _) (ev_neg ?_ fin)))
      rw [hg2]; decide
  | succ d ih =>
    intro j hj1 hj
    have e2 : wrap64 ((j : Int) + 1) = ((j + 1 : Nat) : Int) := by rw [w64 (by omega) (by omega)]; omega
    refine Ev.step (fun k => by rw [impl_tokenAt.l0]) ?_
    refine ev_pos (by omega) (ev_pos (by omega) (ev_let _ (isNameByte_eq _) (ev_pos ?_ ?_)))
    · rw [bt_pre h (by omega)]; exact h2 j hj1 (by omega)
    · rw [e2]; exact ih (j + 1) (by omega) (by omega)
theorem tokNum (u t : ByteArray) (rest : List Int) (hu : u.size ≤ 1048576) (h : bts u = bts t ++ rest) (g : gap rest) (h1 : 1 ≤ t.size) (h2 : ∀ q : Nat, q < t.size → digitB (bt t (q : Int)) = true) :
    ∀ (d j : Nat), 1 ≤ j → j + d = t.size → Ev (fun k => impl_tokenAt.l2 k u (j : Int)) ((2 : Int), t, (0 : Int), (t.size : Int)) := by
  have hz := size_pre h
  intro d
  induction d with
  | zero =>
    intro j hj1 hj
    have e : j = t.size := by omega
    subst e
    refine Ev.step (fun k => by rw [impl_tokenAt.l2]) ?_
    rw [Int.toNat_natCast, ext_pre h]
    rcases bt_gap h g with hg | ⟨hg, hg2⟩
    · exact ev_neg (by omega) (ev_pos (by omega) (ev_pos (by omega) (ev_const rfl)))
    · refine ev_pos (by omega) (ev_pos (by omega) (ev_let _ (isDigit_eq _) (ev_neg ?_ (ev_pos (by omega) (ev_const rfl)))))
      rw [hg2]; decide
  | succ d ih =>
    intro j hj1 hj
    have e2 : wrap64 ((j : Int) + 1) = ((j + 1 : Nat) : Int) := by rw [w64 (by omega) (by omega)]; omega
    refine Ev.step (fun k => by rw [impl_tokenAt.l2]) ?_
    refine ev_pos (by omega) (ev_pos (by omega) (ev_let _ (isDigit_eq _) (ev_pos ?_ ?_)))
    · rw [bt_pre h (by omega)]; exact h2 j (by omega)
    · rw [e2]; exact ih (j + 1) (by omega) (by omega)
theorem list_two {u : ByteArray} {x y : UInt8} : u.toList = [x, y] ↔ bts u = [(x.toNat : Int), (y.toNat : Int)] := by
  rw [← two_list x y, toList_eq]
  constructor
  · rintro rfl; rfl
  · intro h; exact bts_inj (by rw [h]; rfl)
theorem tokMark (u t : ByteArray) (rest : List Int) (hu : u.size ≤ 1048576) (h : bts u = bts t ++ rest) (g : gap rest) (hk : MK t) : Ev (fun k => impl_tokenAt.l3 k u ops2 4 0) ((4 : Int), t, (0 : Int), (t.size : Int)) := by
  have hz := size_pre h
  have step : ∀ (j : Nat) (x y : UInt8) (hj : j < 4) (hg : rdOf ByteArray.empty ops2 (j : Int) = two x y) (r : Int × ByteArray × Int × Int), (¬ (2 ≤ u.size ∧ (u.extract 0 2).toList = [x, y]) → Ev (fun k => impl_tokenAt.l3 k u ops2 4 ((j + 1 : Nat) : Int)) r) → ((2 ≤ u.size ∧ (u.extract 0 2).toList = [x, y]) → r = ((4 : Int), two x y, (0 : Int), (2 : Int))) → Ev (fun k => impl_tokenAt.l3 k u ops2 4 (j : Int)) r := by
    intro j x y hj hg r h1 h2
    have ej : wrap64 ((j : Int) + 1) = ((j + 1 : Nat) : Int) := by rw [w64 (by omega) (by omega)]; omega
    have ho : ops2.length = 4 := rfl
    have hpe := pre_eq u x y
    refine Ev.step (fun k => by rw [impl_tokenAt.l3]) ?_
    refine ev_pos (by omega) (ev_pos (by omega) (ev_pos (by omega) ?_))
    rw [hg, ej]
    refine ev_let _ hpe ?_
    have hiff : (decide (2 ≤ u.size) && ((u.extract 0 2).toList == ([x, y] : List UInt8))) = true ↔ (2 ≤ u.size ∧ (u.extract 0 2).toList = [x, y]) := by
      rw [Bool.and_eq_true, decide_eq_true_eq, beq_iff_eq]
    refine ev_ite (fun h => ?_) (fun h => ?_)
    · rw [h2 (hiff.1 h)]; exact ev_const rfl
    · exact h1 (fun hh => h (hiff.2 hh))
  rcases hk with hk | ⟨c, hc, y, hy, hyc⟩
  · have two_ext : ∀ x y : UInt8, t = two x y → (2 ≤ u.size ∧ (u.extract 0 2).toList = [x, y]) := by
      rintro x y rfl
      have := ext_pre h
      have e2 : (two x y).size = 2 := rfl
      rw [e2] at this hz
      exact ⟨by omega, by rw [this, two_list]⟩
    have no : ∀ x y x' y' : UInt8, t = two x y → ([x, y] : List UInt8) ≠ [x', y'] → ¬ (2 ≤ u.size ∧ (u.extract 0 2).toList = [x', y']) := by
      intro x y x' y' ht hne hh
      have := (two_ext x y ht).2
      exact hne (by rw [← this, ← hh.2])
    simp only [ops2, List.mem_cons, List.not_mem_nil, or_false] at hk
    rcases hk with hk | hk | hk | hk
    · refine step 0 33 61 (by omega) rfl _ (fun hno => absurd (two_ext _ _ hk) hno) (fun _ => by rw [hk]; rfl)
    · refine step 0 33 61 (by omega) rfl _ (fun _ => step 1 60 61 (by omega) rfl _ (fun hno => absurd (two_ext _ _ hk) hno) (fun _ => by rw [hk]; rfl)) (fun hh => absurd hh (no _ _ _ _ hk (by decide)))
    · refine step 0 33 61 (by omega) rfl _ (fun _ => step 1 60 61 (by omega) rfl _ (fun _ => step 2 62 61 (by omega) rfl _ (fun hno => absurd (two_ext _ _ hk) hno) (fun _ => by rw [hk]; rfl)) (fun hh => absurd hh (no _ _ _ _ hk (by decide)))) (fun hh => absurd hh (no _ _ _ _ hk (by decide)))
    · refine step 0 33 61 (by omega) rfl _ (fun _ => step 1 60 61 (by omega) rfl _ (fun _ => step 2 62 61 (by omega) rfl _ (fun _ => step 3 46 46 (by omega) rfl _ (fun hno => absurd (two_ext _ _ hk) hno) (fun _ => by rw [hk]; rfl)) (fun hh => absurd hh (no _ _ _ _ hk (by decide)))) (fun hh => absurd hh (no _ _ _ _ hk (by decide)))) (fun hh => absurd hh (no _ _ _ _ hk (by decide)))
  · have ht1 : t.size = 1 := by rw [← bts_length, hc]; rfl
    have no : ∀ x y : UInt8, (y.toNat : Int) ≠ 32 → ¬ (2 ≤ u.size ∧ (u.extract 0 2).toList = [x, y]) := by
      rintro x y hy32 ⟨hs2, hh⟩
      rw [list_two, bts_extract, List.drop_zero, h, hc] at hh
      cases rest with
      | nil => rw [ht1] at hz; simp at hz; omega
      | cons d r =>
        simp only [List.cons_append, List.nil_append, List.take_succ_cons, List.cons.injEq] at hh
        have g' : d = 32 := g
        omega
    refine step 0 33 61 (by omega) rfl _ (fun _ => step 1 60 61 (by omega) rfl _ (fun _ => step 2 62 61 (by omega) rfl _ (fun _ => step 3 46 46 (by omega) rfl _ (fun _ => ?_) (fun hh => absurd hh (no _ _ (by decide)))) (fun hh => absurd hh (no _ _ (by decide)))) (fun hh => absurd hh (no _ _ (by decide)))) (fun hh => absurd hh (no _ _ (by decide)))
    have e0 : bt u 0 = c := by rw [bt_eq, h, hc]; rfl
    have hb : 0 ≤ c ∧ c ≤ 255 := e0 ▸ bt_byte u 0
    have hib := ib_bts marks c hb.1 hb.2
    have hany : ((bts marks).any fun y => y == c) = true := List.any_eq_true.2 ⟨y, hy, hyc⟩
    rw [hany] at hib
    refine Ev.step (fun k => by rw [impl_tokenAt.l3]) ?_
    refine ev_neg (by omega) (ev_pos (by omega) (ev_let _ rfl (ev_pos ?_ (ev_pos (by omega) (ev_pos (by omega) (ev_const ?_))))))
    · rw [e0]; exact of_decide_eq_true hib
    · have e := ext_pre h
      rw [ht1] at e
      rw [e, ht1]; rfl
theorem mk_head {t : ByteArray} (hk : MK t) : 1 ≤ t.size ∧ lowerB (bt t 0) = false ∧ digitB (bt t 0) = false ∧ bt t 0 ≠ 34 ∧ bt t 0 ≠ 32 ∧ bt t 0 ≠ 10 ∧ bt t 0 ≠ 35 := by
  have key : ∀ c : Int, bt t 0 = c → (c = 33 ∨ c ∈ bts marks) → lowerB (bt t 0) = false ∧ digitB (bt t 0) = false ∧ bt t 0 ≠ 34 ∧ bt t 0 ≠ 32 ∧ bt t 0 ≠ 10 ∧ bt t 0 ≠ 35 := by
    intro c hc h
    have hall : ∀ c ∈ (33 :: bts marks), lowerB c = false ∧ digitB c = false ∧ c ≠ 34 ∧ c ≠ 32 ∧ c ≠ 10 ∧ c ≠ 35 := by
      have e : bts marks = [123, 125, 59, 91, 93, 40, 41, 60, 62, 61, 43, 45, 47, 124, 46, 44, 36, 58] := rfl
      rw [e]; decide
    rw [hc]
    exact hall c (by simpa using h)
  rcases hk with hk | ⟨c, hc, y, hy, hyc⟩
  · simp only [ops2, List.mem_cons, List.not_mem_nil, or_false] at hk
    rcases hk with rfl | rfl | rfl | rfl
    · exact ⟨by decide, key 33 rfl (.inl rfl)⟩
    · exact ⟨by decide, key 60 rfl (.inr (by decide))⟩
    · exact ⟨by decide, key 62 rfl (.inr (by decide))⟩
    · exact ⟨by decide, key 46 rfl (.inr (by decide))⟩
  · refine ⟨by rw [← bts_length, hc]; simp, key c (by rw [bt_eq, hc]; rfl) (.inr ?_)⟩
    rw [← eq_of_beq hyc]; exact hy
theorem tkt_head {x : TK} (hv : VT x) : 1 ≤ (tkt x).size ∧ bt (tkt x) 0 ≠ 32 ∧ bt (tkt x) 0 ≠ 10 ∧ bt (tkt x) 0 ≠ 35 := by
  unfold tkt mTokenText
  rcases hv with ⟨h0, h1, h2, -⟩ | ⟨h0, h1, h2⟩ | h0 | ⟨h0, hk⟩
  · rw [if_neg (by omega)]
    unfold lowerB at h2
    simp only [Bool.and_eq_true, decide_eq_true_eq] at h2
    exact ⟨h1, by omega, by omega, by omega⟩
  · rw [if_neg (by omega)]
    have h2 : digitB (bt x.f1 0) = true := h2 0 (by omega)
    unfold digitB at h2
    simp only [Bool.and_eq_true, decide_eq_true_eq] at h2
    exact ⟨h1, by omega, by omega, by omega⟩
  · rw [if_pos h0]
    have e : bt (mQuote x.f1) 0 = 34 := by rw [bt_eq, bts_mQuote]; rfl
    refine ⟨by rw [← bts_length, bts_mQuote]; simp, by omega, by omega, by omega⟩
  · rw [if_neg (by omega)]
    have := mk_head hk
    exact ⟨this.1, this.2.2.2.2⟩
theorem tokAt (x : TK) (hv : VT x) (u : ByteArray) (rest : List Int) (hu : u.size ≤ 1048576) (h : bts u = bts (tkt x) ++ rest) (g : gap rest) : Ev (fun k => impl_tokenAt.f k u) (x.f0, x.f1, (0 : Int), ((tkt x).size : Int)) := by
  have hhd := tkt_head hv
  have hz := size_pre h
  have e0 : bt u 0 = bt (tkt x) 0 := bt_pre (m := 0) h (by omega)
  simp only [impl_tokenAt.f, e0]
  refine ev_pos (by omega) (ev_let _ (isLower_eq _) ?_)
  rcases hv with ⟨h0, h1, h2, h3, h4⟩ | ⟨h0, h1, h2⟩ | h0 | ⟨h0, hk⟩
  · have et : tkt x = x.f1 := by unfold tkt mTokenText; rw [if_neg (by omega)]
    rw [et] at h ⊢
    rw [h0]
    exact ev_pos h2 (tokName u x.f1 rest hu h g h1 h3 h4 (x.f1.size - 1) 1 (Nat.le_refl _) (by omega))
  · have et : tkt x = x.f1 := by unfold tkt mTokenText; rw [if_neg (by omega)]
    rw [et] at h ⊢
    rw [h0]
    have hd : digitB (bt x.f1 0) = true := h2 0 (by omega)
    have hl : ¬ lowerB (bt x.f1 0) = true := by
      unfold digitB at hd; unfold lowerB
      simp only [Bool.and_eq_true, decide_eq_true_eq] at hd ⊢
      omega
    exact ev_neg hl (ev_let _ (isDigit_eq _) (ev_pos hd (tokNum u x.f1 rest hu h g h1 h2 (x.f1.size - 1) 1 (Nat.le_refl _) (by omega))))
  · have et : tkt x = mQuote x.f1 := by unfold tkt mTokenText; rw [if_pos h0]
    rw [et] at h hz ⊢
    have e34 : bt (mQuote x.f1) 0 = 34 := by rw [bt_eq, bts_mQuote]; rfl
    rw [e34, h0]
    have hq := impl_quotedEnd_ev u (by omega)
    have hb : bts u = 34 :: (quoteL (bts x.f1) ++ 34 :: rest) := by rw [h, bts_mQuote]; simp
    unfold mQuotedEnd at hq
    simp only [hb, if_true, unq_quote, qEnd, List.nil_append, str_bts] at hq
    have es : (u.size : Int) - (rest.length : Int) = ((mQuote x.f1).size : Int) := by omega
    rw [es] at hq
    exact ev_neg (by decide) (ev_let _ (isDigit_eq _) (ev_neg (by decide) (ev_pos rfl (ev_bind _ hq (ev_const rfl)))))
  · have et : tkt x = x.f1 := by unfold tkt mTokenText; rw [if_neg (by omega)]
    rw [et] at h ⊢
    obtain ⟨k1, k2, k3, k4, -⟩ := mk_head hk
    rw [h0]
    exact ev_neg (by rw [k2]; simp) (ev_let _ (isDigit_eq _) (ev_neg (by rw [k3]; simp) (ev_neg k4 (ev_let _ rfl (tokMark u x.f1 rest hu h g hk)))))
/-! the lexer on joined tokens -/
def KK : List TK → List Int → List Int
  | [], e => e
  | x :: l, e => 32 :: (bts (tkt x) ++ KK l e)
def JJ : List TK → List Int → List Int
  | [], e => e
  | x :: l, e => bts (tkt x) ++ KK l e
theorem gap_KK (l : List TK) {e : List Int} (h : gap e) : gap (KK l e) := by
  cases l with
  | nil => exact h
  | cons x l => exact rfl
theorem drop_bt {s : ByteArray} {p : Nat} {c : Int} {r : List Int} (h : (bts s).drop p = c :: r) : p < s.size ∧ bt s (p : Int) = c ∧ (bts s).drop (p + 1) = r := by
  have hp : p < s.size := by
    rcases Nat.lt_or_ge p s.size with hh | hh
    · exact hh
    · rw [List.drop_eq_nil_of_le (by rw [bts_length]; omega)] at h; cases h
  rw [drop_at hp, List.cons.injEq] at h
  exact ⟨hp, h.1, h.2⟩
theorem lexSpace {s : ByteArray} (hs : s.size ≤ 1048576) {p : Nat} {acc : List TK} {R : List TK × Int} {r : List Int} (h : (bts s).drop p = 32 :: r) (z : Ev (fun k => impl_Lex.l0 k s acc ((p + 1 : Nat) : Int)) R) : Ev (fun k => impl_Lex.l0 k s acc (p : Int)) R := by
  obtain ⟨hp, hb, -⟩ := drop_bt h
  have e1 : wrap64 ((p : Int) + 1) = ((p + 1 : Nat) : Int) := by rw [w64 (by omega) (by omega)]; omega
  rw [← e1] at z
  refine Ev.step (fun k => by rw [impl_Lex.l0]) ?_
  refine ev_pos (by omega) (ev_pos (by omega) (ev_pos hb ?_))
  exact Ev.step (fun k => by rw [impl_Lex.j1]) (ev_pos (by rw [hb]; decide) z)
theorem lexTok {s : ByteArray} (hs : s.size ≤ 1048576) {p : Nat} {acc : List TK} {R : List TK × Int} {rest : List Int} {x : TK} (hv : VT x) (ha : acc.length < 4398046511104) (h : (bts s).drop p = bts (tkt x) ++ rest) (g : gap rest) (z : Ev (fun k => impl_Lex.l0 k s (acc ++ [(⟨x.f0, x.f1, (p : Int)⟩ : TK)]) ((p + (tkt x).size : Nat) : Int)) R) : Ev (fun k => impl_Lex.l0 k s acc (p : Int)) R := by
  obtain ⟨h1, h32, h10, h35⟩ := tkt_head hv
  have hlen := congrArg List.length h
  rw [List.length_drop, List.length_append, bts_length, bts_length] at hlen
  have hp : p < s.size := by omega
  have hb : bt s (p : Int) = bt (tkt x) 0 := by
    have e := drop_at hp
    rw [h] at e
    rw [bt_eq (tkt x)]
    cases ht : bts (tkt x) with
    | nil => have hn := congrArg List.length ht; rw [bts_length, List.length_nil] at hn; omega
    | cons c l => rw [ht, List.cons_append, List.cons.injEq] at e; rw [← e.1]; rfl
  have hu : bts (s.extract p s.size) = bts (tkt x) ++ rest := by
    rw [bts_extract, List.take_of_length_le (by rw [bts_length]; exact Nat.le_refl _), h]
  have hsz := size_ext s p s.size (Nat.le_refl _)
  have zt := tokAt x hv (s.extract p s.size) rest (by omega) hu g
  have e1 : wrap64 ((p : Int) + ((tkt x).size : Int)) = ((p + (tkt x).size : Nat) : Int) := by rw [w64 (by omega) (by omega)]; omega
  rw [← e1] at z
  refine Ev.step (fun k => by rw [impl_Lex.l0]) ?_
  refine ev_pos (by omega) (ev_pos (by omega) (ev_neg (by rw [hb]; exact h32) ?_))
  refine Ev.step (fun k => by rw [impl_Lex.j1]) ?_
  rw [Int.toNat_natCast]
  exact ev_neg (by rw [hb, beq_iff_eq]; exact h10) (ev_neg (by rw [hb]; exact h35) (ev_pos (by omega) (ev_pos (by omega) (ev_bind _ zt (ev_neg (by show ¬ (((tkt x).size : Int)) = 0; omega) (ev_pos ha z))))))
def Rel (s : ByteArray) (x y : TK) : Prop := y.f0 = x.f0 ∧ y.f1 = x.f1 ∧ ∃ p : Nat, y.f2 = (p : Int) ∧ ∃ rest, (bts s).drop p = bts (tkt x) ++ rest
inductive RelL (s : ByteArray) : List TK → List TK → Prop
  | nil : RelL s [] []
  | cons {x y l m} : Rel s x y → RelL s l m → RelL s (x :: l) (y :: m)
theorem lexKK (s : ByteArray) (hs : s.size ≤ 1048576) (e : List Int) (ge : gap e) (hend : ∀ (p : Nat) (acc : List TK), (bts s).drop p = e → Ev (fun k => impl_Lex.l0 k s acc (p : Int)) (acc, (-1 : Int))) :
    ∀ (l : List TK) (p : Nat) (acc : List TK), (∀ x ∈ l, VT x) → acc.length + l.length < 4398046511104 → (bts s).drop p = KK l e → ∃ ys, RelL s l ys ∧ Ev (fun k => impl_Lex.l0 k s acc (p : Int)) (acc ++ ys, (-1 : Int))
  | [], p, acc, hv, ha, h => ⟨[], .nil, by rw [List.append_nil]; exact hend p acc h⟩
  | x :: l, p, acc, hv, ha, h => by
    simp only [List.length_cons] at ha
    obtain ⟨hp, -, h2⟩ := drop_bt h
    have h3 : (bts s).drop (p + 1 + (tkt x).size) = KK l e := by
      rw [← List.drop_drop, h2, ← bts_length, List.drop_left]
    obtain ⟨ys, w1, w2⟩ := lexKK s hs e ge hend l (p + 1 + (tkt x).size) (acc ++ [(⟨x.f0, x.f1, ((p + 1 : Nat) : Int)⟩ : TK)]) (fun y hy => hv y (List.mem_cons_of_mem _ hy)) (by simp; omega) h3
    refine ⟨(⟨x.f0, x.f1, ((p + 1 : Nat) : Int)⟩ : TK) :: ys, .cons ⟨rfl, rfl, p + 1, rfl, _, h2⟩ w1, ?_⟩
    rw [List.append_assoc] at w2
    exact lexSpace hs h (lexTok hs (hv x List.mem_cons_self) (by omega) h2 (gap_KK l ge) w2)
theorem lexJJ (s : ByteArray) (hs : s.size ≤ 1048576) (e : List Int) (ge : gap e) (hend : ∀ (p : Nat) (acc : List TK), (bts s).drop p = e → Ev (fun k => impl_Lex.l0 k s acc (p : Int)) (acc, (-1 : Int)))
    (l : List TK) (hv : ∀ x ∈ l, VT x) (hl : l.length < 4398046511104) (h : bts s = JJ l e) : ∃ ys, RelL s l ys ∧ Ev (fun k => impl_Lex.f k s) (ys, (-1 : Int)) := by
  simp only [impl_Lex.f]
  cases l with
  | nil =>
    refine ⟨[], .nil, ?_⟩
    exact hend 0 [] h
  | cons x l =>
    simp only [List.length_cons] at hl
    have h2 : (bts s).drop 0 = bts (tkt x) ++ KK l e := h
    have h3 : (bts s).drop ((tkt x).size) = KK l e := by
      rw [show bts s = bts (tkt x) ++ KK l e from h, ← bts_length, List.drop_left]
    obtain ⟨ys, w1, w2⟩ := lexKK s hs e ge hend l (tkt x).size ([] ++ [(⟨x.f0, x.f1, ((0 : Nat) : Int)⟩ : TK)]) (fun y hy => hv y (List.mem_cons_of_mem _ hy)) (by simp; omega) h3
    refine ⟨(⟨x.f0, x.f1, ((0 : Nat) : Int)⟩ : TK) :: ys, .cons ⟨rfl, rfl, 0, rfl, _, h2⟩ w1, ?_⟩
    rw [List.append_assoc] at w2
    have e0 : (0 + (tkt x).size : Nat) = (tkt x).size := by omega
    exact lexTok (p := 0) hs (hv x List.mem_cons_self) (by simp) h2 (gap_KK l ge) (by rw [e0]; exact w2)
theorem endNil (s : ByteArray) (p : Nat) (acc : List TK) (h : (bts s).drop p = []) : Ev (fun k => impl_Lex.l0 k s acc (p : Int)) (acc, (-1 : Int)) := by
  have : s.size ≤ p := by
    have := congrArg List.length h
    rw [List.length_drop, bts_length, List.length_nil] at this; omega
  exact Ev.step (fun k => by rw [impl_Lex.l0]) (ev_neg (by omega) (ev_const rfl))
theorem endRemark (s : ByteArray) (hs : s.size ≤ 1048576) (acc : List TK) : ∀ (r : List Int) (p : Nat), (∀ c ∈ r, c ≠ 10) → (bts s).drop p = r → Ev (fun k => impl_Lex.l1 k s acc (p : Int)) (acc, (-1 : Int))
  | [], p, hr, h => by
    have : s.size ≤ p := by
      have := congrArg List.length h
      rw [List.length_drop, bts_length, List.length_nil] at this; omega
    exact Ev.step (fun k => by rw [impl_Lex.l1]) (ev_neg (by omega) (endNil s p acc h))
  | c :: r, p, hr, h => by
    obtain ⟨hp, hb, h2⟩ := drop_bt h
    have e1 : wrap64 ((p : Int) + 1) = ((p + 1 : Nat) : Int) := by rw [w64 (by omega) (by omega)]; omega
    refine Ev.step (fun k => by rw [impl_Lex.l1]) (ev_pos (by omega) (ev_pos (by omega) (ev_neg (by rw [hb]; exact hr c List.mem_cons_self) ?_)))
    rw [e1]
    exact endRemark s hs acc r (p + 1) (fun d hd => hr d (List.mem_cons_of_mem _ hd)) h2
def remark : ByteArray := ⟨#[32, 35, 32, 114, 101, 109, 97, 114, 107, 32, 123]⟩
theorem endRem (s : ByteArray) (hs : s.size ≤ 1048576) (p : Nat) (acc : List TK) (h : (bts s).drop p = bts remark) : Ev (fun k => impl_Lex.l0 k s acc (p : Int)) (acc, (-1 : Int)) := by
  have hr : bts remark = 32 :: 35 :: [32, 114, 101, 109, 97, 114, 107, 32, 123] := rfl
  rw [hr] at h
  obtain ⟨hp, hb, h2⟩ := drop_bt h
  obtain ⟨hp2, hb2, -⟩ := drop_bt h2
  refine lexSpace hs h (Ev.step (fun k => by rw [impl_Lex.l0]) ?_)
  refine ev_pos (by omega) (ev_pos (by omega) (ev_neg (by rw [hb2]; decide) ?_))
  refine Ev.step (fun k => by rw [impl_Lex.j1]) ?_
  refine ev_neg (by rw [hb2]; decide) (ev_pos hb2 ?_)
  exact endRemark s hs acc _ (p + 1) (by decide) h2
theorem bts_app (a b : ByteArray) : bts (a ++ b) = bts a ++ bts b := by
  unfold bts
  rw [dat_app, List.map_append]
theorem KK_app (l : List TK) (a b : List Int) : KK l a ++ b = KK l (a ++ b) := by
  induction l with
  | nil => rfl
  | cons x l ih => simp only [KK, List.cons_append, List.append_assoc, ih]
theorem JJ_app (l : List TK) (a b : List Int) : JJ l a ++ b = JJ l (a ++ b) := by
  cases l with
  | nil => rfl
  | cons x l => simp only [JJ, List.append_assoc, KK_app]
theorem jl_KK (l : List TK) (acc : ByteArray) : bts (jl l true acc) = bts acc ++ KK l [] := by
  induction l generalizing acc with
  | nil => simp [jl, KK]
  | cons x l ih =>
    rw [jl, ih, bts_app, bts_app, show bts spc = [32] from rfl]
    simp [KK]
theorem jl_JJ (l : List TK) : bts (jl l false ⟨#[]⟩) = JJ l [] := by
  cases l with
  | nil => rfl
  | cons x l =>
    rw [jl, jl_KK, bts_app]
    rfl
/-! the draw -/
def G4 : List ByteArray := [(⟨#[32]⟩ : ByteArray), (⟨#[]⟩ : ByteArray), (⟨#[10]⟩ : ByteArray), (⟨#[32, 32]⟩ : ByteArray)]
theorem source_l0 (s : List Int) (hs : s.length ≤ 1000000) : ∀ (n : Nat) (acc : ByteArray) (i h : Int), 0 ≤ i → n ≤ 1000 → acc.size + n * 4000 ≤ 100000000 → ∃ r i' h', r.size ≤ acc.size + n * 4000 ∧ Ev (fun k => spec_l3Source.l0 k acc (n : Int) s i h) (r, i', h') := by
  intro n
  induction n with
  | zero =>
    intro acc i h h0 hn ha
    exact ⟨acc, i, h, by omega, Ev.step (fun k => by rw [spec_l3Source.l0]) (ev_neg (by simp) (ev_const rfl))⟩
  | succ n ih =>
    intro acc i h h0 hn ha
    have en : wrap64 (((n + 1 : Nat) : Int) - 1) = (n : Int) := by rw [w64 (by omega) (by omega)]; omega
    have tail : ∀ (t : ByteArray) (ht : t.size ≤ 3000) (i2 h2 : Int), 0 ≤ i2 → ∃ r i' h', r.size ≤ acc.size + (n + 1) * 4000 ∧ Ev (fun k => if acc.size + t.size ≤ 9223372036854775807 then ((spec_l1Str.f s i2 h2 G4).bind fun bt254 => (if (acc ++ t).size + bt254.1.size ≤ 9223372036854775807 then (spec_l3Source.l0 k ((acc ++ t) ++ bt254.1) (wrap64 (((n + 1 : Nat) : Int) - 1)) s bt254.2.1 bt254.2.2) else (none))) else (none)) (r, i', h') := by
      intro t ht i2 h2 z2
      obtain ⟨w, i3, h3, e3, m3, z3⟩ := l1Str_ex s i2 h2 G4 z2 hs (by decide)
      have hw : w.size ≤ 1000 := size_all (by decide) m3
      have hsz : ((acc ++ t) ++ w).size ≤ acc.size + 4000 := by rw [ByteArray.size_append, ByteArray.size_append]; omega
      obtain ⟨r, i', h', hr, z⟩ := ih ((acc ++ t) ++ w) i3 h3 z3 (by omega) (by omega)
      refine ⟨r, i', h', by omega, ev_pos (by omega) (ev_let _ e3 (ev_pos (by rw [ByteArray.size_append]; show acc.size + t.size + w.size ≤ _; omega) ?_))⟩
      rw [en]
      exact z
    obtain ⟨j, i1, h1, e1, p1, q1, z1⟩ := l1Below_ex s i h 5 h0 hs (by omega)
    by_cases c0 : j = 0
    · obtain ⟨t, i2, h2, e2, m2, z2⟩ := l1Str_ex s i1 h1 [(⟨#[97]⟩ : ByteArray), (⟨#[98]⟩ : ByteArray), (⟨#[110, 97, 109, 101]⟩ : ByteArray), (⟨#[117, 115, 101, 114]⟩ : ByteArray), (⟨#[112, 111, 114, 116]⟩ : ByteArray), (⟨#[109, 111, 100, 101]⟩ : ByteArray), (⟨#[108, 101, 118, 101, 108]⟩ : ByteArray), (⟨#[120, 49]⟩ : ByteArray), (⟨#[97, 45, 98]⟩ : ByteArray)] z1 hs (by decide)
      have ht : t.size ≤ 1000 := size_all (by decide) m2
      have en2 : spec_l2Name.f s i1 h1 = some (t, i2, h2) := by unfold spec_l2Name.f; rw [e2]; rfl
      obtain ⟨r, i', h', hr, z⟩ := tail t (by omega) i2 h2 z2
      refine ⟨r, i', h', hr, Ev.step (fun k => by rw [spec_l3Source.l0]) (ev_pos (by omega) (ev_let _ e1 (ev_pos c0 (ev_let _ en2 ?_))))⟩
      exact z
    by_cases c1 : j = 1
    · obtain ⟨t, i2, h2, e2, s2, z2⟩ := l2Text_ex s i1 h1 z1 hs
      have hq := mQuote_len t
      obtain ⟨r, i', h', hr, z⟩ := tail (mQuote t) (by omega) i2 h2 z2
      refine ⟨r, i', h', hr, Ev.step (fun k => by rw [spec_l3Source.l0]) (ev_pos (by omega) (ev_let _ e1 (ev_neg c0 (ev_pos c1 (ev_let _ e2 (ev_bind _ (spec_QuoteText_ev t (by omega)) ?_))))))⟩
      exact z
    by_cases c2 : j = 2
    · obtain ⟨t, i2, h2, e2, m2, z2⟩ := l1Str_ex s i1 h1 [(⟨#[48]⟩ : ByteArray), (⟨#[49, 50]⟩ : ByteArray), (⟨#[48, 48, 55]⟩ : ByteArray), (⟨#[35, 32, 110, 111, 116, 101]⟩ : ByteArray), (⟨#[35]⟩ : ByteArray), (⟨#[97, 45, 45]⟩ : ByteArray), (⟨#[97, 45, 49, 45, 98]⟩ : ByteArray)] z1 hs (by decide)
      have ht : t.size ≤ 1000 := size_all (by decide) m2
      obtain ⟨r, i', h', hr, z⟩ := tail t (by omega) i2 h2 z2
      refine ⟨r, i', h', hr, Ev.step (fun k => by rw [spec_l3Source.l0]) (ev_pos (by omega) (ev_let _ e1 (ev_neg c0 (ev_neg c1 (ev_pos c2 (ev_let _ e2 ?_))))))⟩
      exact z
    · obtain ⟨t, i2, h2, e2, m2, z2⟩ := l1Str_ex s i1 h1 [(⟨#[123]⟩ : ByteArray), (⟨#[125]⟩ : ByteArray), (⟨#[59]⟩ : ByteArray), (⟨#[33, 61]⟩ : ByteArray), (⟨#[60]⟩ : ByteArray), (⟨#[60, 61]⟩ : ByteArray), (⟨#[46, 46]⟩ : ByteArray), (⟨#[46]⟩ : ByteArray), (⟨#[61]⟩ : ByteArray), (⟨#[45]⟩ : ByteArray), (⟨#[47]⟩ : ByteArray), (⟨#[124]⟩ : ByteArray), (⟨#[36]⟩ : ByteArray), (⟨#[33]⟩ : ByteArray), (⟨#[38]⟩ : ByteArray), (⟨#[34, 120]⟩ : ByteArray), (⟨#[34, 92, 110, 34]⟩ : ByteArray), (⟨#[91]⟩ : ByteArray)] z1 hs (by decide)
      have ht : t.size ≤ 1000 := size_all (by decide) m2
      obtain ⟨r, i', h', hr, z⟩ := tail t (by omega) i2 h2 z2
      refine ⟨r, i', h', hr, Ev.step (fun k => by rw [spec_l3Source.l0]) (ev_pos (by omega) (ev_let _ e1 (ev_neg c0 (ev_neg c1 (ev_neg c2 (ev_let _ e2 ?_))))))⟩
      exact z
theorem relL_len {s : ByteArray} {l m : List TK} (h : RelL s l m) : m.length = l.length := by
  induction h with
  | nil => rfl
  | cons _ _ ih => simp [ih]
theorem relL_at {s : ByteArray} {l m : List TK} (h : RelL s l m) : ∀ (i : Nat) (hi : i < l.length) (hm : i < m.length), Rel s l[i] m[i] := by
  induction h with
  | nil => intro i hi; simp at hi
  | cons r _ ih =>
    intro i hi hm
    cases i with
    | zero => exact r
    | succ i => simp only [List.getElem_cons_succ]; exact ih i (by simpa using hi) (by simpa using hm)
theorem rd_at {l : List TK} {i : Nat} (h : i < l.length) : rd_T44 l (i : Int) = l[i] := by
  unfold rd_T44
  rw [Int.toNat_natCast, List.getD_eq_getElem?_getD, List.getElem?_eq_getElem h]; rfl
theorem p_le {z p t r : Nat} (h : z - p = t + r) (h1 : 1 ≤ t) : p + 1 ≤ z := by omega
theorem p_next {p : Nat} (h : p + 1 ≤ 1048576) : wrap64 ((p : Int) + 1) = ((p + 1 : Nat) : Int) := by rw [w64 (by omega) (by omega)]; omega
theorem tokens_l0 (l : List TK) (s s2 : ByteArray) (a b : List TK) (hs : s.size ≤ 1048576) (hl : l.length ≤ 1048576) (hm : ∀ x ∈ l, x.f1.size ≤ 1048576) (hv : ∀ x ∈ l, VT x) (ha : RelL s l a) (hb : RelL s2 l b) : ∀ (d i : Nat), i + d = l.length → Ev (fun k => laws_FnTokens.l0 k l s a b (i : Int)) true := by
  have la := relL_len ha
  have lb := relL_len hb
  intro d
  induction d with
  | zero =>
    intro i hi
    exact Ev.step (fun k => by rw [laws_FnTokens.l0]) (ev_neg (by omega) (ev_const rfl))
  | succ d ih =>
    intro i hi
    have z := ih (i + 1) (by omega)
    have en : wrap64 ((i : Int) + 1) = ((i + 1 : Nat) : Int) := by rw [w64 (by omega) (by omega)]; omega
    have hil : i < l.length := by omega
    have hia : i < a.length := by omega
    have hib : i < b.length := by omega
    obtain ⟨a0, a1, p, ap, rest, hd⟩ := relL_at ha i hil hia
    obtain ⟨b0, b1, -⟩ := relL_at hb i hil hib
    have hx : l[i] ∈ l := List.getElem_mem _
    obtain ⟨t1, -⟩ := tkt_head (hv _ hx)
    have hmx := hm _ hx
    have hlen := congrArg List.length hd
    rw [List.length_drop, List.length_append, bts_length, bts_length] at hlen
    have hp : p + 1 ≤ s.size := p_le hlen t1
    have e1 : wrap64 ((p : Int) + 1) = ((p + 1 : Nat) : Int) := p_next (Nat.le_trans hp hs)
    refine Ev.step (fun k => by rw [laws_FnTokens.l0]) ?_
    rw [rd_at hil, rd_at hia, rd_at hib, en, a0, a1, b1, ap, e1]
    have i1 : (i : Int) < (l.length : Int) := Int.ofNat_lt.2 hil
    have i2 : (0 : Int) ≤ (i : Int) := Int.natCast_nonneg i
    have i3 : (i : Int) < (a.length : Int) := Int.ofNat_lt.2 hia
    have i4 : (i : Int) < (b.length : Int) := Int.ofNat_lt.2 hib
    have p1 : (0 : Int) ≤ (p : Int) := Int.natCast_nonneg p
    have p2 : (p : Int) ≤ ((p + 1 : Nat) : Int) := Int.ofNat_le.2 (Nat.le_succ p)
    have p3 : ((p + 1 : Nat) : Int) ≤ (s.size : Int) := Int.ofNat_le.2 hp
    have t2 : (1 : Int) ≤ ((tkt l[i]).size : Int) := Int.ofNat_le.2 t1
    have ht := impl_TokenText_ev l[i].f0 l[i].f1 l[i].f2 (Nat.le_trans hmx (by decide))
    refine ev_pos i1 (ev_pos i2 (ev_pos i3 (ev_pos rfl (ev_pos rfl (ev_pos i4 (ev_pos rfl ?_))))))
    refine ev_pos p1 (ev_pos p2 (ev_pos p3 (ev_bind _ ht ?_)))
    refine ev_pos (by decide) (ev_pos t2 (ev_pos ?_ z))
    rw [toList_eq, Int.toNat_natCast, Int.toNat_natCast]
    apply bts_inj
    show bts (s.extract p (p + 1)) = bts ((tkt l[i]).extract 0 1)
    rw [bts_extract, List.drop_take, hd, show p + 1 - p = 1 by omega, bts_extract, List.drop_zero, List.take_append_of_le_length (by rw [bts_length]; exact t1)]
theorem FnTokens : laws_FnTokens.Pure := by
  intro l0 _ _ _
  refine Ev.rounds ?_
  simp only [laws_FnTokens.f, laws_big.f, Option.bind_some]
  refine ev_ite (fun _ => ev_const rfl) (fun hbig => ?_)
  have hl : l0.length ≤ 4096 := by simp at hbig; omega
  obtain ⟨h1, new⟩ := l1New_ex l0 (by omega)
  obtain ⟨j, i2, h2, e2, p2, q2, z2⟩ := l1Below_ex l0 0 h1 9 (by omega) (by omega) (by omega)
  obtain ⟨n, rfl⟩ := Int.eq_ofNat_of_zero_le p2
  obtain ⟨src, i3, h3, hsz, es⟩ := source_l0 l0 (by omega) n ⟨#[]⟩ i2 h2 z2 (by omega) (by show 0 + n * 4000 ≤ _; omega)
  have hsz' : src.size ≤ 40000 := by have : src.size ≤ 0 + n * 4000 := hsz; omega
  obtain ⟨r, ⟨o1, o2, o3⟩, z, -⟩ := Lex_ev src (by omega)
  have draw : Ev (fun k => spec_DrawJoinTokens.f k l0) r.1 := by
    simp only [spec_DrawJoinTokens.f, spec_l3Source.f]
    exact ev_bind _ new (ev_bind _ (ev_let _ e2 es) (ev_bind _ z (ev_const rfl)))
  have hmx : ∀ x ∈ r.1, x.f1.size ≤ 1048576 := by
    have : ∀ (l : List TK), ∀ x ∈ l, x.f1.size ≤ muK l := by
      intro l
      induction l with
      | nil => intro x hx; simp at hx
      | cons y l ih =>
        intro x hx
        rcases List.mem_cons.1 hx with rfl | hx
        · simp only [muK]; omega
        · have := ih x hx; simp only [muK]; omega
    intro x hx
    have := this r.1 x hx
    omega
  obtain ⟨s, hs⟩ : ∃ s, s = jl r.1 false ⟨#[]⟩ := ⟨_, rfl⟩
  have hj := impl_JoinTokens_ev r.1 (by omega) (by omega)
  have hc := cost_le r.1
  have hss : s.size ≤ 1000000 := by
    have := jl_size r.1 false ⟨#[]⟩
    rw [← hs] at this
    have e : (⟨#[]⟩ : ByteArray).size = 0 := rfl
    omega
  rw [← hs] at hj
  have hJ : bts s = JJ r.1 [] := by rw [hs]; exact jl_JJ r.1
  have hre : remark.size = 11 := rfl
  have hs2 : (s ++ remark).size ≤ 1048576 := by rw [ByteArray.size_append]; omega
  have hJ2 : bts (s ++ remark) = JJ r.1 (bts remark) := by rw [bts_app, hJ, JJ_app, List.nil_append]
  obtain ⟨a, ra, za⟩ := lexJJ s (by omega) [] trivial (fun p acc h => endNil s p acc h) r.1 o3 (by omega) hJ
  obtain ⟨b, rb, zb⟩ := lexJJ (s ++ remark) hs2 (bts remark) (show gap (32 :: [35, 32, 114, 101, 109, 97, 114, 107, 32, 123]) from rfl) (fun p acc h => endRem (s ++ remark) hs2 p acc h) r.1 o3 (by omega) hJ2
  have la := relL_len ra
  have lb := relL_len rb
  refine ev_bind _ draw (ev_bind _ hj (ev_bind _ za (ev_pos (by omega) (ev_bind _ zb (ev_pos rfl (ev_pos rfl (ev_pos (by show (a.length : Int) = _; omega) ?_)))))))
  refine Ev.step (fun k => by rw [laws_FnTokens.j0]) (ev_neg (by simp [lb]) ?_)
  exact tokens_l0 r.1 s (s ++ remark) a b (by omega) (by omega) hmx o3 ra rb r.1.length 0 (by omega)

end Go.Proofs.Ytmkhoakhfdjplaa.Pure.LFnTokens
namespace Go.Proofs.Ytmkhoakhfdjplaa.Pure
theorem FnTokens : PFnTokens.laws_FnTokens.Pure := LFnTokens.FnTokens
end Go.Proofs.Ytmkhoakhfdjplaa.Pure
