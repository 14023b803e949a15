/- For every code: what QuoteText writes is read again by UnquoteText, and SortTexts keeps every text as often as it stands there, in order. -/
import Derived.Test.YtidcnmjdlkgclaaPFnQuotedx0
import Derived.Test.YtidcnmjdlkgclaaPFnQuotedx1
import Derived.Test.YtidcnmjdlkgclaaPFnQuotedx2
import Derived.Test.YtidcnmjdlkgclaaPFnQuotedx3
import Derived.Test.YtidcnmjdlkgclaaBase
import Derived.Test.YtidcnmjdlkgclaaExt
import Derived.Sort.KeysCollected
namespace Go.Proofs.Ytidcnmjdlkgclaa.Pure.LFnQuoted
open Go.RowKit Go.Proofs.Ytidcnmjdlkgclaa.PFnQuoted Go.Proofs.YtidcnmjdlkgclaaW.PrintWords Go.Proofs.YtidcnmjdlkgclaaW.PrintLast Go.Proofs.YtidcnmjdlkgclaaW.PrintMore Go.Proofs.Ytidcnmjdlkgclaa.Base
set_option linter.unusedVariables false
set_option linter.unusedSimpArgs false

/-! #### draw -/
/-! the reference's own draws -/
theorem and255 (x : Int) : 0 ≤ Go.bits .and .i64 x 255 ∧ Go.bits .and .i64 x 255 ≤ 255 := by
  have h : (BitVec.ofInt 64 x &&& BitVec.ofInt 64 255).toNat ≤ 255 := by
    rw [BitVec.toNat_and]; exact Nat.and_le_right
  show 0 ≤ IntKind.i64.wrap ((BitVec.ofInt 64 x &&& BitVec.ofInt 64 255).toNat) ∧ IntKind.i64.wrap ((BitVec.ofInt 64 x &&& BitVec.ofInt 64 255).toNat) ≤ 255
  rw [IntKind.wrap_i64]
  omega
theorem l1Byte_ex (s : List Int) (i h : Int) (h0 : 0 ≤ i) (hs : s.length ≤ 1000000) : ∃ b i' h', spec_l1Byte.f s i h = some (b, i', h') ∧ 0 ≤ b ∧ b ≤ 255 ∧ 0 ≤ i' := by
  unfold spec_l1Byte.f
  by_cases h1 : i < (s.length : Int)
  · rw [if_pos h1, if_pos h0]
    exact ⟨_, _, _, rfl, (and255 _).1, (and255 _).2, by rw [w64 (by omega) (by omega)]; omega⟩
  · rw [if_neg h1]
    exact ⟨_, _, _, rfl, (and255 _).1, (and255 _).2, h0⟩
theorem tmod_in {a b : Int} (ha : 0 ≤ a) (hb : 0 < b) : 0 ≤ Int.tmod a b ∧ Int.tmod a b < b := ⟨Int.tmod_nonneg b ha, Int.tmod_lt_of_pos a hb⟩
theorem l1Below_ex (s : List Int) (i h a : Int) (h0 : 0 ≤ i) (hs : s.length ≤ 1000000) (ha : 0 < a) : ∃ r i' h', spec_l1Below.f s i h a = some (r, i', h') ∧ 0 ≤ r ∧ r < a ∧ 0 ≤ i' := by
  unfold spec_l1Below.f
  rw [if_neg (by omega)]
  obtain ⟨b1, i1, h1, e1, p1, q1, z1⟩ := l1Byte_ex s i h h0 hs
  rw [e1, Option.bind_some]
  by_cases h2 : a ≤ 256
  · rw [if_pos h2, if_neg (by omega)]
    exact ⟨_, _, _, rfl, (tmod_in p1 ha).1, (tmod_in p1 ha).2, z1⟩
  · rw [if_neg h2]
    obtain ⟨b2, i2, h2', e2, p2, q2, z2⟩ := l1Byte_ex s i1 h1 z1 hs
    obtain ⟨b3, i3, h3', e3, p3, q3, z3⟩ := l1Byte_ex s i2 h2' z2 hs
    simp only [Option.bind_some, e2, e3]
    rw [if_neg (by omega)]
    have hp : 0 ≤ wrap64 ((wrap64 ((wrap64 (b1 * 65536)) + (wrap64 (b2 * 256)))) + b3) := by
      rw [w64 (x := b1 * 65536) (by omega) (by omega), w64 (x := b2 * 256) (by omega) (by omega), w64 (x := b1 * 65536 + b2 * 256) (by omega) (by omega), w64 (by omega) (by omega)]; omega
    exact ⟨_, _, _, rfl, (tmod_in hp ha).1, (tmod_in hp ha).2, z3⟩
theorem l1New_l0 (l : List Int) (hl : l.length ≤ 1000000) : ∀ (d i : Nat) (h : Int), i + d = l.length → ∃ h', Ev (fun k => spec_l1New.l0 k l h i) (l, 0, h') := by
  intro d
  induction d with
  | zero =>
    intro i h hi
    exact ⟨h, Ev.step (fun k => by rw [spec_l1New.l0]) (ev_neg (by omega) (ev_const rfl))⟩
  | succ d ih =>
    intro i h hi
    by_cases h1 : (i : Int) < 4000
    · obtain ⟨h', z⟩ := ih (i + 1) (Go.bits .and .i64 (wrap64 ((wrap64 ((wrap64 (h * 141)) + (wrap64 (rd l i)))) + 11)) 1073741823) (by omega)
      refine ⟨h', Ev.step (fun k => by rw [spec_l1New.l0]) (ev_pos (by omega) (ev_pos h1 (ev_pos (by omega) ?_)))⟩
      have e : wrap64 ((i : Int) + 1) = ((i + 1 : Nat) : Int) := by rw [w64 (by omega) (by omega)]; omega
      rw [e]; exact z
    · exact ⟨h, Ev.step (fun k => by rw [spec_l1New.l0]) (ev_pos (by omega) (ev_neg h1 (ev_const rfl)))⟩
theorem l1New_ex (l : List Int) (hl : l.length ≤ 1000000) : ∃ h', Ev (fun k => spec_l1New.f k l) (l, 0, h') := by
  simp only [spec_l1New.f]
  exact l1New_l0 l hl l.length 0 _ (by omega)

/-! #### drawStr -/
theorem l1Str_ex (s : List Int) (i h : Int) (l : List ByteArray) (h0 : 0 ≤ i) (hs : s.length ≤ 1000000) (hl : 0 < l.length) : ∃ r i' h', spec_l1Str.f s i h l = some (r, i', h') ∧ r ∈ l ∧ 0 ≤ i' := by
  obtain ⟨j, i', h', e, p, q, z⟩ := l1Below_ex s i h (l.length : Int) h0 hs (by omega)
  unfold spec_l1Str.f
  simp only [e, Option.bind_some]
  rw [if_pos p, if_pos q]
  refine ⟨_, _, _, rfl, ?_, z⟩
  unfold rdOf
  rw [List.getD_eq_getElem?_getD, List.getElem?_eq_getElem (by omega)]
  exact List.getElem_mem _
theorem size_all {l : List ByteArray} (h : (l.all fun b => decide (b.size ≤ 1000)) = true) {r : ByteArray} (hr : r ∈ l) : r.size ≤ 1000 := by
  simpa using List.all_eq_true.1 h r hr
theorem l2Text_ex (s : List Int) (i h : Int) (h0 : 0 ≤ i) (hs : s.length ≤ 1000000) : ∃ r i' h', spec_l2Text.f s i h = some (r, i', h') ∧ r.size ≤ 1000 ∧ 0 ≤ i' := by
  unfold spec_l2Text.f
  obtain ⟨r, i', h', e, hm, z⟩ := l1Str_ex s i h [(⟨#[]⟩ : ByteArray), (⟨#[97]⟩ : ByteArray), (⟨#[98, 111, 120]⟩ : ByteArray), (⟨#[120, 32, 121]⟩ : ByteArray), (⟨#[34]⟩ : ByteArray), (⟨#[92]⟩ : ByteArray), (⟨#[97, 34, 98]⟩ : ByteArray), (⟨#[49, 48]⟩ : ByteArray), (⟨#[45, 51]⟩ : ByteArray), (⟨#[116, 114, 117, 101]⟩ : ByteArray), (⟨#[60, 38, 62]⟩ : ByteArray), (⟨#[108, 111]⟩ : ByteArray), (⟨#[101, 116, 104, 48]⟩ : ByteArray), (⟨#[108, 111, 110, 103, 32, 116, 101, 120, 116, 32, 119, 105, 116, 104, 32, 109, 97, 110, 121, 32, 119, 111, 114, 100, 115, 32, 105, 110, 32, 105, 116, 44, 32, 114, 101, 97, 108, 108, 121]⟩ : ByteArray)] h0 hs (by decide)
  rw [e]
  exact ⟨r, i', h', rfl, size_all (by decide) hm, z⟩

/-! #### mQuote -/
def quoteB (c : Int) : List Int := if c = 34 ∨ c = 92 then [92, c] else [c]
def quoteL (l : List Int) : List Int := l.flatMap quoteB
def mQuote (s : ByteArray) : ByteArray := strOfNums (34 :: quoteL (bts s) ++ [34])
theorem quoteL_cons (c : Int) (l : List Int) : quoteL (c :: l) = quoteB c ++ quoteL l := by simp [quoteL]
theorem quoteB_len (c : Int) : (quoteB c).length ≤ 2 := by unfold quoteB; split <;> simp
theorem quoteL_len (l : List Int) : (quoteL l).length ≤ 2 * l.length := by
  induction l with
  | nil => simp [quoteL]
  | cons c l ih =>
    rw [quoteL_cons, List.length_append, List.length_cons]
    have := quoteB_len c
    omega

/-! #### impl_QuoteText -/
theorem impl_QuoteText_l0 (s : ByteArray) (hs : s.size ≤ 35184372088832) : ∀ (n i : Nat) (acc : List Int), i + n = s.size → acc.length ≤ 2 * i + 1 → Ev (fun k => impl_QuoteText.l0 k s acc i) (strOfNums (acc ++ quoteL ((bts s).drop i) ++ [34])) := by
  intro n
  induction n with
  | zero =>
    intro i acc hi ha
    refine Ev.step (fun k => by rw [impl_QuoteText.l0]) ?_
    refine ev_neg (by omega) (ev_pos (by omega) (ev_const ?_))
    rw [List.drop_eq_nil_of_le (by rw [bts_length]; omega)]
    simp [quoteL]
  | succ n ih =>
    intro i acc hi ha
    have e2 : wrap64 ((i : Int) + 1) = ((i + 1 : Nat) : Int) := by rw [w64 (by omega) (by omega)]; omega
    refine Ev.step (fun k => by rw [impl_QuoteText.l0]) ?_
    refine ev_pos (by omega) (ev_pos (by omega) ?_)
    rw [e2, drop_cons (z := 0) (by rw [bts_length]; omega), quoteL_cons, ← Int.toNat_natCast i, ← bt_eq, Int.toNat_natCast]
    refine ev_ite (fun h => ?_) (fun h => ev_ite (fun h2 => ?_) (fun h2 => ?_))
    · refine ev_pos (by omega) (ev_let _ rfl (ev_pos (by simp; omega) ?_))
      have := ih (i + 1) (acc ++ [92] ++ [bt s i]) (by omega) (by simp; omega)
      rw [quoteB, if_pos (.inl h)]
      simpa using this
    · refine ev_pos (by omega) (ev_let _ rfl (ev_pos (by simp; omega) ?_))
      have := ih (i + 1) (acc ++ [92] ++ [bt s i]) (by omega) (by simp; omega)
      rw [quoteB, if_pos (.inr h2)]
      simpa using this
    · refine ev_pos (by omega) ?_
      have := ih (i + 1) (acc ++ [bt s i]) (by omega) (by simp; omega)
      rw [quoteB, if_neg (by omega)]
      simpa using this
theorem impl_QuoteText_ev (s : ByteArray) (hs : s.size ≤ 35184372088832) : Ev (fun k => impl_QuoteText.f k s) (mQuote s) := by
  have := impl_QuoteText_l0 s hs s.size 0 [34] (by omega) (by simp)
  show Ev (fun k => impl_QuoteText.l0 k s [34] 0) _
  unfold mQuote
  simpa using this

/-! #### unq -/
/-- What the bytes behind an opening quotation mark mean, and what stands behind the closing one. -/
def unq : List Int → Option (List Int × List Int)
  | [] => none
  | c :: r =>
    if c = 34 then some ([], r)
    else if c = 92 then
      match r with
      | [] => none
      | d :: r' => if d = 34 ∨ d = 92 then (unq r').map (fun z => (d :: z.1, z.2)) else none
    else (unq r).map (fun z => (c :: z.1, z.2))
theorem unq_cons (c : Int) (r : List Int) : unq (c :: r) = if c = 34 then some ([], r) else if c = 92 then (match r with | [] => none | d :: r' => if d = 34 ∨ d = 92 then (unq r').map (fun z => (d :: z.1, z.2)) else none) else (unq r).map (fun z => (c :: z.1, z.2)) := by
  rw [unq.eq_def]
theorem unq_len : ∀ (n : Nat) (l t q : List Int), l.length ≤ n → unq l = some (t, q) → t.length + q.length < l.length := by
  intro n
  induction n with
  | zero =>
    intro l t q hl h
    cases l with
    | nil => simp [unq] at h
    | cons c r => simp at hl
  | succ n ih =>
    intro l t q hl h
    cases l with
    | nil => simp [unq] at h
    | cons c r =>
      rw [unq_cons] at h
      simp only [List.length_cons] at hl ⊢
      split at h
      · simp only [Option.some.injEq, Prod.mk.injEq] at h
        obtain ⟨rfl, rfl⟩ := h
        simp
      · split at h
        · split at h
          · cases h
          · rename_i d r'
            simp only [List.length_cons] at hl ⊢
            split at h
            · obtain ⟨⟨t', q'⟩, h1, h2⟩ := Option.map_eq_some_iff.1 h
              simp only [Prod.mk.injEq] at h2
              obtain ⟨rfl, rfl⟩ := h2
              have := ih r' t' q' (by omega) h1
              simp only [List.length_cons]
              omega
            · cases h
        · obtain ⟨⟨t', q'⟩, h1, h2⟩ := Option.map_eq_some_iff.1 h
          simp only [Prod.mk.injEq] at h2
          obtain ⟨rfl, rfl⟩ := h2
          have := ih r t' q' (by omega) h1
          simp only [List.length_cons]
          omega
theorem drop_at {s : ByteArray} {i : Nat} (h : i < s.size) : (bts s).drop i = bt s i :: (bts s).drop (i + 1) := by
  rw [drop_cons (z := 0) (by rw [bts_length]; exact h), bt_eq, Int.toNat_natCast]

/-! #### impl_quotedEnd -/
def qEnd (s : ByteArray) (acc : List Int) : Option (List Int × List Int) → Int × ByteArray
  | none => (0, ⟨#[]⟩)
  | some (t, q) => ((s.size : Int) - q.length, strOfNums (acc ++ t))
theorem impl_quotedEnd_l0 (s : ByteArray) (hs : s.size ≤ 35184372088832) : ∀ (n i : Nat) (acc : List Int), s.size - i ≤ n → i ≤ s.size → acc.length ≤ i → Ev (fun k => impl_quotedEnd.l0 k s acc i) (qEnd s acc (unq ((bts s).drop i))) := by
  intro n
  induction n with
  | zero =>
    intro i acc hi hi2 ha
    refine Ev.step (fun k => by rw [impl_quotedEnd.l0]) ?_
    refine ev_neg (by omega) (ev_const ?_)
    rw [List.drop_eq_nil_of_le (by rw [bts_length]; omega)]; rfl
  | succ n ih =>
    intro i acc hi hi2 ha
    by_cases hlt : i < s.size
    · have e2 : wrap64 ((i : Int) + 1) = ((i + 1 : Nat) : Int) := by rw [w64 (by omega) (by omega)]; omega
      have e3 : wrap64 (((i + 1 : Nat) : Int) + 1) = ((i + 2 : Nat) : Int) := by rw [w64 (by omega) (by omega)]; omega
      refine Ev.step (fun k => by rw [impl_quotedEnd.l0]) ?_
      refine ev_pos (by omega) (ev_pos (by omega) ?_)
      rw [e2, e3, drop_at hlt, unq_cons]
      refine ev_ite (fun h => ?_) (fun h => ?_)
      · rw [if_pos h]
        refine ev_const ?_
        show some ((((i + 1 : Nat)) : Int), strOfNums acc) = some ((s.size : Int) - (((bts s).drop (i + 1)).length : Int), strOfNums (acc ++ []))
        rw [List.append_nil, List.length_drop, bts_length]
        congr 2
        omega
      · rw [if_neg h]
        refine ev_ite (fun h2 => ?_) (fun h2 => ?_)
        · rw [if_pos h2]
          refine ev_ite (fun h3 => ?_) (fun h3 => ?_)
          · rw [List.drop_eq_nil_of_le (by rw [bts_length]; omega)]
            exact ev_const rfl
          · rw [drop_at (show i + 1 < s.size by omega)]
            simp only []
            have z := ih (i + 2) (acc ++ [bt s ((i + 1 : Nat) : Int)]) (by omega) (by omega) (by simp; omega)
            have e5 : ∀ o : Option (List Int × List Int), qEnd s (acc ++ [bt s ((i + 1 : Nat) : Int)]) o = qEnd s acc (o.map (fun z => (bt s ((i + 1 : Nat) : Int) :: z.1, z.2))) := by
              intro o; cases o <;> simp [qEnd]
            rw [e5] at z
            refine ev_pos (by omega) (ev_pos (by omega) (ev_ite (fun h4 => ?_) (fun h4 => ev_ite (fun h5 => ?_) (fun h5 => ?_))))
            · rw [if_pos (.inl h4)]
              exact ev_pos (by omega) z
            · rw [if_pos (.inr h5)]
              exact ev_pos (by omega) z
            · rw [if_neg (by omega)]
              exact ev_const rfl
        · rw [if_neg h2]
          have z := ih (i + 1) (acc ++ [bt s (i : Int)]) (by omega) (by omega) (by simp; omega)
          have e5 : ∀ o : Option (List Int × List Int), qEnd s (acc ++ [bt s (i : Int)]) o = qEnd s acc (o.map (fun z => (bt s (i : Int) :: z.1, z.2))) := by
            intro o; cases o <;> simp [qEnd]
          rw [e5] at z
          exact ev_pos (by omega) z
    · refine Ev.step (fun k => by rw [impl_quotedEnd.l0]) ?_
      refine ev_neg (by omega) (ev_const ?_)
      rw [List.drop_eq_nil_of_le (by rw [bts_length]; omega)]; rfl
def mQuotedEnd (s : ByteArray) : Int × ByteArray :=
  match bts s with
  | [] => (0, ⟨#[]⟩)
  | c :: l => if c = 34 then qEnd s [] (unq l) else (0, ⟨#[]⟩)
theorem impl_quotedEnd_ev (s : ByteArray) (hs : s.size ≤ 35184372088832) : Ev (fun k => impl_quotedEnd.f k s) (mQuotedEnd s) := by
  have hl := bts_length s
  simp only [impl_quotedEnd.f]
  unfold mQuotedEnd
  cases hc : bts s with
  | nil =>
    rw [hc] at hl
    simp only [List.length_nil] at hl
    refine ev_pos (toList_nil.2 (by omega)) (Ev.step (fun k => by rw [impl_quotedEnd.j0]) ?_)
    exact ev_pos (by simp) (ev_const rfl)
  | cons c l =>
    rw [hc] at hl
    simp only [List.length_cons] at hl
    show Ev _ (if c = 34 then qEnd s [] (unq l) else (0, ⟨#[]⟩))
    have ec : bt s 0 = c := by rw [bt_eq, hc]; rfl
    have hd : (bts s).drop 1 = l := by rw [hc]; rfl
    refine ev_neg (fun h => by have := toList_nil.1 h; omega) (ev_pos (by omega) (Ev.step (fun k => by rw [impl_quotedEnd.j0]) ?_))
    rw [ec]
    by_cases h : c = 34
    · rw [if_pos h]
      refine ev_neg (by simp [h]) ?_
      have z := impl_quotedEnd_l0 s hs s.size 1 [] (by omega) (by omega) (by simp)
      rw [hd] at z
      exact z
    · rw [if_neg h]
      exact ev_pos (by simpa using h) (ev_const rfl)

/-! #### sortB -/
abbrev key (y : ByteArray) : List UInt8 := y.data.toList
def Srt (l : List ByteArray) : Prop := l.Pairwise fun x y => key x ≤ key y
theorem bytesLess_lt : ∀ (x y : List UInt8), Op.bytesLess x y = decide (x < y)
  | [], [] => by simp [Op.bytesLess]
  | _ :: _, [] => by simp [Op.bytesLess]
  | [], _ :: _ => by simp [Op.bytesLess]
  | a :: x, b :: y => by
    rw [Op.bytesLess, bytesLess_lt x y]
    simp only [List.cons_lt_cons_iff]
    by_cases h1 : a < b <;> by_cases h2 : a = b <;> by_cases h3 : x < y <;> simp [h1, h2, h3]
theorem less_eq (x y : ByteArray) : Op.bytesLess x.toList y.toList = decide (key x < key y) := by rw [bytesLess_lt, toList_data, toList_data]
theorem sortB_eq {l r : List ByteArray} (hp : r.Perm l) (hs : Srt r) : sortB l = r := by
  unfold sortB
  have h1 : (l.map key).mergeSort (fun x y => decide (x ≤ y)) = (r.map key).mergeSort (fun x y => decide (x ≤ y)) := mergeSort_of_perm (hp.symm.map key)
  have h2 : (r.map key).mergeSort (fun x y => decide (x ≤ y)) = r.map key := by
    refine List.mergeSort_of_pairwise ?_
    rw [List.pairwise_map]
    exact hs.imp fun h => decide_eq_true h
  show List.map _ ((l.map key).mergeSort (fun x y => decide (x ≤ y))) = r
  rw [h1, h2, List.map_map]
  conv => rhs; rw [← List.map_id r]
  exact List.map_congr_left fun x _ => rfl
theorem impl_SortTexts_eq (l : List ByteArray) (hl : l.length ≤ 1048576) : impl_SortTexts.f l = some (sortB l) := by
  unfold impl_SortTexts.f slices_Sort.f
  simp only [Option.bind_some, List.nil_append, List.length_nil, Nat.zero_add]
  rw [if_pos (by omega), if_pos (by omega)]; rfl

theorem quoteL_byte {l : List Int} (h : ∀ x ∈ l, 0 ≤ x ∧ x ≤ 255) : ∀ x ∈ quoteL l, 0 ≤ x ∧ x ≤ 255 := by
  intro x hx
  unfold quoteL at hx
  obtain ⟨c, hc, hx⟩ := List.mem_flatMap.1 hx
  have := h c hc
  unfold quoteB at hx
  split at hx <;> simp at hx <;> omega
theorem unq_quote : ∀ l : List Int, unq (quoteL l ++ [34]) = some (l, [])
  | [] => by rw [show quoteL ([] : List Int) = [] from rfl, List.nil_append, unq_cons, if_pos rfl]
  | c :: l => by
    have ih := unq_quote l
    rw [quoteL_cons]
    unfold quoteB
    by_cases h : c = 34 ∨ c = 92
    · rw [if_pos h]
      show unq (92 :: (c :: (quoteL l ++ [34]))) = _
      rw [unq_cons, if_neg (by decide), if_pos rfl]
      show (if c = 34 ∨ c = 92 then (unq (quoteL l ++ [34])).map (fun z => (c :: z.1, z.2)) else none) = _
      rw [if_pos h, ih]; rfl
    · rw [if_neg h]
      show unq (c :: (quoteL l ++ [34])) = _
      rw [unq_cons, if_neg (by omega), if_neg (by omega), ih]; rfl
theorem bts_mQuote (s : ByteArray) : bts (mQuote s) = 34 :: (quoteL (bts s) ++ [34]) := by
  unfold mQuote
  rw [bts_str]
  · rfl
  · intro x hx
    simp only [List.cons_append, List.mem_cons, List.mem_append, List.not_mem_nil, or_false] at hx
    rcases hx with rfl | hx | rfl
    · omega
    · exact quoteL_byte (fun y hy => bts_byte hy) x hx
    · omega
theorem mQuote_len (s : ByteArray) : (mQuote s).size ≤ 2 * s.size + 2 := by
  rw [← bts_length, bts_mQuote]
  have := quoteL_len (bts s)
  rw [bts_length] at this
  simp; omega
theorem impl_UnquoteText_quote (s : ByteArray) (hs : s.size ≤ 1000000) : Ev (fun k => impl_UnquoteText.f k (mQuote s)) (s, true) := by
  have hq := mQuote_len s
  have hl := bts_length (mQuote s)
  simp only [impl_UnquoteText.f]
  refine ev_bind _ (impl_quotedEnd_ev (mQuote s) (by omega)) ?_
  have e : mQuotedEnd (mQuote s) = (((mQuote s).size : Int), s) := by
    unfold mQuotedEnd
    rw [bts_mQuote]
    show (if (34 : Int) = 34 then qEnd (mQuote s) [] (unq (quoteL (bts s) ++ [34])) else (0, ⟨#[]⟩)) = _
    rw [if_pos rfl, unq_quote, qEnd]
    simp only [List.nil_append, List.length_nil]
    rw [str_bts]
    exact congrArg (·, s) (by omega)
  rw [e]
  have h0 : 0 < (mQuote s).size := by rw [← hl, bts_mQuote]; simp
  exact ev_neg (by simp only []; omega) (ev_pos rfl (ev_const rfl))
theorem drawSort_l0 (s : List Int) (hs : s.length ≤ 1000000) : ∀ (n : Nat) (acc : List ByteArray) (i h : Int), 0 ≤ i → acc.length + n ≤ 1000 → ∃ r, r.length ≤ 1000 ∧ Ev (fun k => spec_DrawSortTexts.l0 k acc (n : Int) s i h) r := by
  intro n
  induction n with
  | zero =>
    intro acc i h h0 hn
    exact ⟨acc, by omega, Ev.step (fun k => by rw [spec_DrawSortTexts.l0]) (ev_neg (by simp) (ev_const rfl))⟩
  | succ n ih =>
    intro acc i h h0 hn
    obtain ⟨t, i', h', e, _, z⟩ := l2Text_ex s i h h0 hs
    obtain ⟨r, hr, w⟩ := ih (acc ++ [t]) i' h' z (by simp; omega)
    refine ⟨r, hr, Ev.step (fun k => by rw [spec_DrawSortTexts.l0]) ?_⟩
    have en : wrap64 (((n + 1 : Nat) : Int) - 1) = (n : Int) := by rw [w64 (by omega) (by omega)]; omega
    refine ev_pos (by omega) (ev_let _ e ?_)
    refine ev_pos (by omega) ?_
    rw [en]; exact w
theorem rdOf_at {l : List ByteArray} {i : Nat} (h : i < l.length) : rdOf ByteArray.empty l (i : Int) = l[i] := by
  unfold rdOf
  rw [Int.toNat_natCast, List.getD_eq_getElem?_getD, List.getElem?_eq_getElem h]; rfl
def cn (l : List ByteArray) (y : ByteArray) : Nat := l.countP fun z => decide (z = y)
theorem count_next (l : List ByteArray) (y : ByteArray) {k : Nat} (h : k < l.length) : cn (l.take (k + 1)) y = cn (l.take k) y + if l[k] = y then 1 else 0 := by
  unfold cn
  rw [List.take_succ_eq_append_getElem h, List.countP_append]
  congr 1
  by_cases e : l[k] = y <;> simp [e]
theorem quoted_l1 (l x : List ByteArray) (i : Nat) (hl : l.length ≤ 1000) (hx : x.length = l.length) (hi : i < l.length) (R : Bool)
    (HR : Ev (fun k => laws_FnQuoted.l1 k l x (i : Int) ((cn l l[i] : Nat) : Int) ((cn x l[i] : Nat) : Int) (l.length : Int)) R) :
    ∀ (d k : Nat), k + d = l.length → Ev (fun K => laws_FnQuoted.l1 K l x (i : Int) ((cn (l.take k) l[i] : Nat) : Int) ((cn (x.take k) l[i] : Nat) : Int) (k : Int)) R := by
  intro d
  induction d with
  | zero =>
    intro k hk
    have e1 : l.take k = l := List.take_of_length_le (by omega)
    have e2 : x.take k = x := List.take_of_length_le (by omega)
    have e3 : k = l.length := by omega
    rw [e1, e2, e3]; exact HR
  | succ d ih =>
    intro k hk
    have hkl : k < l.length := by omega
    have hkx : k < x.length := by omega
    have z := ih (k + 1) (by omega)
    have n1 := count_next l l[i] hkl
    have n2 := count_next x l[i] hkx
    rw [n1, n2] at z
    have c1 : cn (l.take k) l[i] ≤ 1000 := Nat.le_trans List.countP_le_length (by simp; omega)
    have c2 : cn (x.take k) l[i] ≤ 1000 := Nat.le_trans List.countP_le_length (by simp; omega)
    have w : ∀ n : Nat, n ≤ 1000 → wrap64 ((n : Int) + 1) = ((n + 1 : Nat) : Int) := fun n hn => by rw [w64 (by omega) (by omega)]; omega
    refine Ev.step (fun k => by rw [laws_FnQuoted.l1]) (ev_pos (by omega) (ev_pos (by omega) (ev_pos (by omega) (ev_pos (by omega) ?_))))
    rw [rdOf_at hkl, rdOf_at hi, rdOf_at hkx, w _ c1, w _ c2, w k (by omega)]
    refine ev_ite (fun h => ?_) (fun h => ?_)
    · rw [if_pos (toList_eq.1 h)] at z
      refine ev_pos (by omega) (ev_ite (fun h2 => ?_) (fun h2 => ?_))
      · rw [if_pos (toList_eq.1 h2)] at z; exact z
      · rw [if_neg (fun e => h2 (toList_eq.2 e))] at z; exact z
    · rw [if_neg (fun e => h (toList_eq.2 e))] at z
      refine ev_pos (by omega) (ev_ite (fun h2 => ?_) (fun h2 => ?_))
      · rw [if_pos (toList_eq.1 h2)] at z; exact z
      · rw [if_neg (fun e => h2 (toList_eq.2 e))] at z; exact z
theorem quoted_l0 (l x : List ByteArray) (hl : l.length ≤ 1000) (hp : x.Perm l) (hs : Srt x) : ∀ (d i : Nat), i + d = l.length → Ev (fun k => laws_FnQuoted.l0 k l x (i : Int)) true := by
  have hx := hp.length_eq
  intro d
  induction d with
  | zero =>
    intro i hi
    exact Ev.step (fun k => by rw [laws_FnQuoted.l0]) (ev_neg (by omega) (ev_const rfl))
  | succ d ih =>
    intro i hi
    have hil : i < l.length := by omega
    have z := ih (i + 1) (by omega)
    have en : wrap64 ((i : Int) + 1) = ((i + 1 : Nat) : Int) := by rw [w64 (by omega) (by omega)]; omega
    refine Ev.step (fun k => by rw [laws_FnQuoted.l0]) (ev_pos (by omega) ?_)
    refine quoted_l1 l x i hl hx hil true ?_ l.length 0 (by omega)
    refine Ev.step (fun k => by rw [laws_FnQuoted.l1]) (ev_neg (by omega) (ev_pos (by unfold cn; rw [hp.countP_eq]) ?_))
    rw [en]
    refine ev_ite (fun h0 => ?_) (fun h0 => z)
    have e1 : wrap64 ((i : Int) - 1) = ((i - 1 : Nat) : Int) := by rw [w64 (by omega) (by omega)]; omega
    rw [e1, rdOf_at (show i < x.length by omega), rdOf_at (show i - 1 < x.length by omega), less_eq]
    refine ev_pos (by omega) (ev_pos (by omega) (ev_pos (by omega) (ev_pos (by omega) (ev_neg ?_ z))))
    intro hc
    have hlt : key x[i] < key x[i - 1] := of_decide_eq_true hc
    have hle := List.pairwise_iff_getElem.1 hs (i - 1) i (by omega) (by omega) (by omega)
    exact hle hlt
theorem srt_sortB (l : List ByteArray) : (sortB l).Perm l ∧ Srt (sortB l) := by
  have tr : ∀ a b c : List UInt8, decide (a ≤ b) = true → decide (b ≤ c) = true → decide (a ≤ c) = true := fun a b c h1 h2 => by simp only [decide_eq_true_eq] at *; exact List.le_trans h1 h2
  have tot : ∀ a b : List UInt8, (decide (a ≤ b) || decide (b ≤ a)) = true := fun a b => by simp only [Bool.or_eq_true, decide_eq_true_eq]; exact List.le_total a b
  have hp := List.mergeSort_perm (l.map key) (fun x y => decide (x ≤ y))
  have hs := List.pairwise_mergeSort tr tot (l.map key)
  constructor
  · have h2 := hp.map (fun c : List UInt8 => (⟨c.toArray⟩ : ByteArray))
    have e : (l.map key).map (fun c : List UInt8 => (⟨c.toArray⟩ : ByteArray)) = l := by
      rw [List.map_map]
      conv => rhs; rw [← List.map_id l]
      exact List.map_congr_left fun x _ => rfl
    rw [e] at h2
    exact h2
  · show List.Pairwise _ (((l.map key).mergeSort (fun x y => decide (x ≤ y))).map fun c => (⟨c.toArray⟩ : ByteArray))
    rw [List.pairwise_map]
    exact hs.imp fun h => of_decide_eq_true h
theorem FnQuoted : laws_FnQuoted.Pure := by
  intro l0 _ _ _
  refine Ev.rounds ?_
  simp only [laws_FnQuoted.f, laws_big.f, Option.bind_some]
  refine ev_ite (fun _ => ev_const rfl) (fun hbig => ?_)
  have hl : l0.length ≤ 4096 := by simp at hbig; omega
  obtain ⟨h1, new⟩ := l1New_ex l0 (by omega)
  obtain ⟨t1, i2, h2, e2, s2, z2⟩ := l2Text_ex l0 0 h1 (by omega) (by omega)
  obtain ⟨t2, i3, h3, e3, s3, z3⟩ := l2Text_ex l0 i2 h2 z2 (by omega)
  have dq : Ev (fun k => spec_DrawQuoteText.f k l0) (t1 ++ t2) := by
    simp only [spec_DrawQuoteText.f]
    refine ev_bind _ new (ev_let _ e2 (ev_let _ e3 ?_))
    exact ev_pos (show t1.size + t2.size ≤ 9223372036854775807 by omega) (ev_const rfl)
  obtain ⟨j, i4, h4, e4, p4, q4, z4⟩ := l1Below_ex l0 0 h1 6 (by omega) (by omega) (by omega)
  obtain ⟨n, rfl⟩ := Int.eq_ofNat_of_zero_le p4
  obtain ⟨l, hll, dl⟩ := drawSort_l0 l0 (by omega) n [] i4 h4 z4 (by simp; omega)
  have ds : Ev (fun k => spec_DrawSortTexts.f k l0) l := by
    simp only [spec_DrawSortTexts.f]
    exact ev_bind _ new (ev_let _ e4 dl)
  have sz : (t1 ++ t2).size ≤ 2000 := by rw [ByteArray.size_append]; omega
  have hq := impl_QuoteText_ev (t1 ++ t2) (by omega)
  have hu := impl_UnquoteText_quote (t1 ++ t2) (by omega)
  obtain ⟨sp, ss⟩ := srt_sortB l
  refine ev_bind _ dq (ev_bind _ hq (ev_bind _ hu (ev_bind _ ds (ev_let _ (impl_SortTexts_eq l (by omega)) (ev_pos rfl (ev_pos rfl ?_))))))
  refine Ev.step (fun k => by rw [laws_FnQuoted.j0]) (ev_neg (by simp [sp.length_eq]) ?_)
  exact quoted_l0 l (sortB l) hll sp ss l.length 0 (by omega)

end Go.Proofs.Ytidcnmjdlkgclaa.Pure.LFnQuoted
namespace Go.Proofs.Ytidcnmjdlkgclaa.Pure
theorem FnQuoted : PFnQuoted.laws_FnQuoted.Pure := LFnQuoted.FnQuoted
end Go.Proofs.Ytidcnmjdlkgclaa.Pure
