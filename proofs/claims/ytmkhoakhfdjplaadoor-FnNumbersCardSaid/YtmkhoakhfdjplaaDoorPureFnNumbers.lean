/- For every code: what the program's FormatInt writes is read again by ParseInt and by ReadInt, just where the number is no greater than MaxNumber, and what ReadInt reads lies within the same bounds. -/
import Derived.Test.YtmkhoakhfdjplaaDoorPFnNumbersx0
import Derived.Test.YtmkhoakhfdjplaaDoorPFnNumbersx1
import Derived.Test.YtmkhoakhfdjplaaDoorPFnNumbersx2
import Derived.Test.YtmkhoakhfdjplaaDoorPFnNumbersx3
import Derived.Test.YtmkhoakhfdjplaaDoorQFnNumbers
import Derived.Test.YtmkhoakhfdjplaaDoorBase
import Derived.Test.YtmkhoakhfdjplaaDoorExt
import Derived.Lib.ItoaLen
namespace Go.Proofs.YtmkhoakhfdjplaaDoor.Pure.LFnNumbers
open Go.RowKit Go.Proofs.YtmkhoakhfdjplaaDoor.PFnNumbers Go.Proofs.YtmkhoakhfdjplaaDoorW.PrintWords Go.Proofs.YtmkhoakhfdjplaaDoorW.PrintLast Go.Proofs.YtmkhoakhfdjplaaDoorW.PrintMore Go.Proofs.YtmkhoakhfdjplaaDoor.Base
set_option linter.unusedVariables false
set_option linter.unusedSimpArgs false

/-! #### draw -/
/-! the reference's own draws -/
theorem and255 (x : Int) : 0 ≤ Go.bits .and .i64 x 255 ∧ Go.bits .and .i64 x 255 ≤ 255 := by
  have h : (BitVec.ofInt 64 x &&& BitVec.ofInt 64 255).toNat ≤ 255 := by
    rw [BitVec.toNat_and]; exact Nat.and_le_right
  show 0 ≤ IntKind.i64.wrap ((BitVec.ofInt 64 x &&& BitVec.ofInt 64 255).toNat) ∧ IntKind.i64.wrap ((BitVec.ofInt 64 x &&& BitVec.ofInt 64 255).toNat) ≤ 255
  rw [IntKind.wrap_i64]
  omega
theorem l1Byte_ex (s : List Int) (i h : Int) (h0 : 0 ≤ i) (hs : s.length ≤ 1000000) : ∃ b i' h', spec_l1Byte.f s i h = some (b, i', h') ∧ 0 ≤ b ∧ b ≤ 255 ∧ 0 ≤ i' := by
  unfold spec_l1Byte.f
  by_cases h1 : i < (s.length : Int)
  · rw [if_pos h1, if_pos h0]
    exact ⟨_, _, _, rfl, (and255 _).1, (and255 _).2, by rw [w64 (by omega) (by omega)]; omega⟩
  · rw [if_neg h1]
    exact ⟨_, _, _, rfl, (and255 _).1, (and255 _).2, h0⟩
theorem tmod_in {a b : Int} (ha : 0 ≤ a) (hb : 0 < b) : 0 ≤ Int.tmod a b ∧ Int.tmod a b < b := ⟨Int.tmod_nonneg b ha, Int.tmod_lt_of_pos a hb⟩
theorem l1Below_ex (s : List Int) (i h a : Int) (h0 : 0 ≤ i) (hs : s.length ≤ 1000000) (ha : 0 < a) : ∃ r i' h', spec_l1Below.f s i h a = some (r, i', h') ∧ 0 ≤ r ∧ r < a ∧ 0 ≤ i' := by
  unfold spec_l1Below.f
  rw [if_neg (by omega)]
  obtain ⟨b1, i1, h1, e1, p1, q1, z1⟩ := l1Byte_ex s i h h0 hs
  rw [e1, Option.bind_some]
  by_cases h2 : a ≤ 256
  · rw [if_pos h2, if_neg (by omega)]
    exact ⟨_, _, _, rfl, (tmod_in p1 ha).1, (tmod_in p1 ha).2, z1⟩
  · rw [if_neg h2]
    obtain ⟨b2, i2, h2', e2, p2, q2, z2⟩ := l1Byte_ex s i1 h1 z1 hs
    obtain ⟨b3, i3, h3', e3, p3, q3, z3⟩ := l1Byte_ex s i2 h2' z2 hs
    simp only [Option.bind_some, e2, e3]
    rw [if_neg (by omega)]
    have hp : 0 ≤ wrap64 ((wrap64 ((wrap64 (b1 * 65536)) + (wrap64 (b2 * 256)))) + b3) := by
      rw [w64 (x := b1 * 65536) (by omega) (by omega), w64 (x := b2 * 256) (by omega) (by omega), w64 (x := b1 * 65536 + b2 * 256) (by omega) (by omega), w64 (by omega) (by omega)]; omega
    exact ⟨_, _, _, rfl, (tmod_in hp ha).1, (tmod_in hp ha).2, z3⟩
theorem l1New_l0 (l : List Int) (hl : l.length ≤ 1000000) : ∀ (d i : Nat) (h : Int), i + d = l.length → ∃ h', Ev (fun k => spec_l1New.l0 k l h i) (l, 0, h') := by
  intro d
  induction d with
  | zero =>
    intro i h hi
    exact ⟨h, Ev.step (fun k => by rw [spec_l1New.l0]) (ev_neg (by omega) (ev_const rfl))⟩
  | succ d ih =>
    intro i h hi
    by_cases h1 : (i : Int) < 4000
    · obtain ⟨h', z⟩ := ih (i + 1) (Go.bits .and .i64 (wrap64 ((wrap64 ((wrap64 (h * 141)) + (wrap64 (rd l i)))) + 11)) 1073741823) (by omega)
      refine ⟨h', Ev.step (fun k => by rw [spec_l1New.l0]) (ev_pos (by omega) (ev_pos h1 (ev_pos (by omega) ?_)))⟩
      have e : wrap64 ((i : Int) + 1) = ((i + 1 : Nat) : Int) := by rw [w64 (by omega) (by omega)]; omega
      rw [e]; exact z
    · exact ⟨h, Ev.step (fun k => by rw [spec_l1New.l0]) (ev_pos (by omega) (ev_neg h1 (ev_const rfl)))⟩
theorem l1New_ex (l : List Int) (hl : l.length ≤ 1000000) : ∃ h', Ev (fun k => spec_l1New.f k l) (l, 0, h') := by
  simp only [spec_l1New.f]
  exact l1New_l0 l hl l.length 0 _ (by omega)

/-! #### drawInt -/
theorem rd_mem {l : List Int} {j : Int} (h0 : 0 ≤ j) (h1 : j < (l.length : Int)) : rd l j ∈ l := by
  unfold rd
  rw [List.getD_eq_getElem?_getD, List.getElem?_eq_getElem (by omega)]
  exact List.getElem_mem _
theorem l1Int_ex (s : List Int) (i h : Int) (l : List Int) (h0 : 0 ≤ i) (hs : s.length ≤ 1000000) (hl : 0 < l.length) : ∃ r i' h', spec_l1Int.f s i h l = some (r, i', h') ∧ r ∈ l ∧ 0 ≤ i' := by
  obtain ⟨j, i', h', e, p, q, z⟩ := l1Below_ex s i h (l.length : Int) h0 hs (by omega)
  unfold spec_l1Int.f
  simp only [e, Option.bind_some]
  rw [if_pos p, if_pos q]
  exact ⟨_, _, _, rfl, rd_mem p q, z⟩
def I64 (n : Int) : Prop := -9223372036854775808 ≤ n ∧ n ≤ 9223372036854775807
theorem i64_all {l : List Int} (h : (l.all fun n => decide (-9223372036854775808 ≤ n) && decide (n ≤ 9223372036854775807)) = true) {r : Int} (hr : r ∈ l) : I64 r := by
  have := List.all_eq_true.1 h r hr
  simpa [I64] using this
theorem l1Odd_ex (s : List Int) (i h : Int) (h0 : 0 ≤ i) (hs : s.length ≤ 1000000) : ∃ r i' h', spec_l1Odd.f s i h = some (r, i', h') ∧ I64 r ∧ 0 ≤ i' := by
  unfold spec_l1Odd.f
  obtain ⟨r, i', h', e, hm, z⟩ := l1Int_ex s i h [(-1), 0, 1, 2, 255, 256, 65535, 2147483647, 2147483648, 4294967295, 4294967296, (-2147483648), 9223372036854775807, (-9223372036854775808)] h0 hs (by decide)
  rw [e]
  exact ⟨r, i', h', rfl, i64_all (by decide) hm, z⟩
theorem l1Num_ex (s : List Int) (i h : Int) (h0 : 0 ≤ i) (hs : s.length ≤ 1000000) : ∃ r i' h', spec_l1Num.f s i h = some (r, i', h') ∧ I64 r ∧ 0 ≤ i' := by
  unfold spec_l1Num.f
  obtain ⟨j, i1, h1, e1, p1, q1, z1⟩ := l1Below_ex s i h 5 h0 hs (by omega)
  simp only [e1, Option.bind_some]
  by_cases c0 : j = 0
  · rw [if_pos c0]
    obtain ⟨r, i2, h2, e2, g2, z2⟩ := l1Odd_ex s i1 h1 z1 hs
    simp only [e2, Option.bind_some]
    exact ⟨_, _, _, rfl, g2, z2⟩
  rw [if_neg c0]
  by_cases c1 : j = 1
  · rw [if_pos c1]
    obtain ⟨r, i2, h2, e2, p2, q2, z2⟩ := l1Below_ex s i1 h1 50 z1 hs (by omega)
    simp only [e2, Option.bind_some]
    exact ⟨_, _, _, rfl, by rw [w64 (by omega) (by omega)]; unfold I64; omega, z2⟩
  rw [if_neg c1]
  by_cases c2 : j = 2
  · rw [if_pos c2]
    obtain ⟨r, i2, h2, e2, hm, z2⟩ := l1Int_ex s i1 h1 [1000000000, 1000000001, (-1000000000), 999999999] z1 hs (by decide)
    simp only [e2, Option.bind_some]
    exact ⟨_, _, _, rfl, i64_all (by decide) hm, z2⟩
  rw [if_neg c2]
  obtain ⟨r, i2, h2, e2, p2, q2, z2⟩ := l1Below_ex s i1 h1 30 z1 hs (by omega)
  simp only [e2, Option.bind_some]
  exact ⟨_, _, _, rfl, by unfold I64; omega, z2⟩

/-! #### mRead -/
/-- The number that some digits stand for, behind others that stand for n; none where a byte is no digit, or the number is too great. -/
def mDig : Int → List Int → Option Int
  | n, [] => some n
  | n, c :: l => if 48 ≤ c ∧ c ≤ 57 then (if 10 * n + (c - 48) > 1000000000 then none else mDig (10 * n + (c - 48)) l) else none
theorem mDig_bound : ∀ (l : List Int) (n v : Int), 0 ≤ n → n ≤ 1000000000 → mDig n l = some v → 0 ≤ v ∧ v ≤ 1000000000
  | [], n, v, h0, h1, h => by
    simp only [mDig, Option.some.injEq] at h
    omega
  | c :: l, n, v, h0, h1, h => by
    simp only [mDig] at h
    split at h
    · split at h
      · cases h
      · exact mDig_bound l _ v (by omega) (by omega) h
    · cases h
def signB (c : Int) : Bool := decide (c = 45 ∨ c = 43)
/-- A number's sign and what stands behind it. -/
def mSplit : List Int → Bool × List Int
  | [] => (false, [])
  | c :: l => if c = 45 then (true, l) else if c = 43 then (false, l) else (false, c :: l)
def mEnd (b : Bool) : Option Int → Int × Bool
  | none => (0, false)
  | some v => (if b = true then -v else v, true)
def mFin (b : Bool) : List Int → Int × Bool
  | [] => (0, false)
  | c :: r => mEnd b (mDig 0 (c :: r))
def mReadL (l : List Int) : Int × Bool := mFin (mSplit l).1 (mSplit l).2
theorem bts_tail (s : ByteArray) (c : Int) (l : List Int) (h : bts s = c :: l) : bts (s.extract 1 s.size) = l := by
  rw [bts_extract, List.take_of_length_le (by rw [bts_length]; omega), h]; rfl

/-! #### mItoa -/
/-! decimal numerals -/
def itoaS (n : Int) : ByteArray := ⟨(Lib.itoa n).toArray⟩
def digs (u : Nat) : List UInt8 := if u = 0 then [] else Lib.decDigits u
theorem digs_step {u : Nat} (h : u ≠ 0) : digs u = digs (u / 10) ++ [UInt8.ofNat (48 + u % 10)] := by
  unfold digs
  rw [if_neg h]
  by_cases h2 : u < 10
  · rw [if_pos (show u / 10 = 0 by omega), Lib.decDigits_one h2, Nat.mod_eq_of_lt h2]; rfl
  · rw [if_neg (show ¬ u / 10 = 0 by omega), Lib.decDigits, dif_neg h2]
theorem impl_FormatInt_eq (n : Int) (h0 : -9223372036854775808 ≤ n) (h1 : n ≤ 9223372036854775807) : impl_FormatInt.f n = some (itoaS n) := by
  unfold impl_FormatInt.f strconv_Itoa.f
  rw [if_pos h0, if_pos h1]; rfl

/-! #### mParse -/
theorem mReadL_bound (l : List Int) : -1000000000 ≤ (mReadL l).1 ∧ (mReadL l).1 ≤ 1000000000 := by
  unfold mReadL
  generalize (mSplit l).1 = b
  cases (mSplit l).2 with
  | nil => simp [mFin]
  | cons c r =>
    simp only [mFin]
    cases h : mDig 0 (c :: r) with
    | none => simp [mEnd]
    | some v =>
      have := mDig_bound _ _ _ (by omega) (by omega) h
      cases b <;> simp [mEnd] <;> omega
/-- The number that a string stands for, written as the program writes numbers. -/
def mParse (s : ByteArray) : Int × Bool := if (mReadL (bts s)).2 = true ∧ itoaS (mReadL (bts s)).1 = s then ((mReadL (bts s)).1, true) else (0, false)
theorem mParse_bound (s : ByteArray) : -1000000000 ≤ (mParse s).1 ∧ (mParse s).1 ≤ 1000000000 := by
  have := mReadL_bound (bts s)
  unfold mParse
  split <;> simp <;> omega
theorem decDigits_mem : ∀ (n u : Nat), u ≤ n → ∀ c ∈ Lib.decDigits u, 48 ≤ c.toNat ∧ c.toNat ≤ 57 := by
  have one : ∀ d : Nat, d < 10 → 48 ≤ (UInt8.ofNat (48 + d)).toNat ∧ (UInt8.ofNat (48 + d)).toNat ≤ 57 := by
    intro d hd
    rw [UInt8.toNat_ofNat']
    omega
  intro n
  induction n with
  | zero =>
    intro u hu c hc
    rw [Lib.decDigits_one (by omega), List.mem_singleton] at hc
    subst hc
    exact one u (by omega)
  | succ n ih =>
    intro u hu c hc
    by_cases h : u < 10
    · rw [Lib.decDigits_one h, List.mem_singleton] at hc
      subst hc
      exact one u h
    · rw [Lib.decDigits, dif_neg h, List.mem_append, List.mem_singleton] at hc
      rcases hc with hc | rfl
      · exact ih (u / 10) (by omega) c hc
      · exact one (u % 10) (by omega)
theorem bts_itoaS (n : Int) : bts (itoaS n) = (Lib.itoa n).map fun c => (c.toNat : Int) := rfl
theorem itoaS_no_plus (n : Int) (l : List Int) : bts (itoaS n) ≠ 43 :: l := by
  rw [bts_itoaS]
  unfold Lib.itoa
  split
  · intro h
    simp only [List.map_cons, List.cons.injEq] at h
    exact absurd h.1 (by decide)
  · intro h
    cases hd : Lib.decDigits n.toNat with
    | nil => rw [hd] at h; cases h
    | cons c r =>
      have := decDigits_mem _ _ (Nat.le_refl _) c (by rw [hd]; exact List.mem_cons_self)
      rw [hd, List.map_cons, List.cons.injEq] at h
      omega

/-! #### impl_ReadInt -/
theorem impl_ReadInt_l0 (s : ByteArray) (b : Bool) (hs : s.size ≤ 4611686018427387904) : ∀ (d i : Nat) (n : Int), i + d = s.size → 0 ≤ n → n ≤ 10000000009 → Ev (fun k => impl_ReadInt.l0 k s b n i) (mEnd b (if n ≤ 1000000000 then mDig n ((bts s).drop i) else none)) := by
  intro d
  induction d with
  | zero =>
    intro i n hi h0 h1
    refine Ev.step (fun k => by rw [impl_ReadInt.l0]) ?_
    refine ev_neg (by omega) ?_
    rw [List.drop_eq_nil_of_le (by rw [bts_length]; omega)]
    refine ev_ite (fun h => ?_) (fun h => ?_)
    · rw [if_neg (show ¬ n ≤ 1000000000 by omega)]; exact ev_const rfl
    · rw [if_pos (show n ≤ 1000000000 by omega), mDig]
      cases b with
      | true =>
        refine ev_pos rfl (ev_const ?_)
        rw [w64 (by omega) (by omega)]; rfl
      | false => exact ev_neg (by simp) (ev_const rfl)
  | succ d ih =>
    intro i n hi h0 h1
    have hb := bt_range s i
    have e2 : wrap64 ((i : Int) + 1) = ((i + 1 : Nat) : Int) := by rw [w64 (by omega) (by omega)]; omega
    refine Ev.step (fun k => by rw [impl_ReadInt.l0]) ?_
    refine ev_pos (by omega) (ev_pos (by omega) ?_)
    rw [drop_cons (z := 0) (by rw [bts_length]; omega), ← Int.toNat_natCast i, ← bt_eq, Int.toNat_natCast, mDig]
    have bad : ¬ (48 ≤ bt s i ∧ bt s i ≤ 57) → Ev (fun k => impl_ReadInt.j3 k s b n i true) (mEnd b (if n ≤ 1000000000 then (if 48 ≤ bt s i ∧ bt s i ≤ 57 then (if 10 * n + (bt s i - 48) > 1000000000 then none else mDig (10 * n + (bt s i - 48)) ((bts s).drop (i + 1))) else none) else none)) := by
      intro hh
      rw [if_neg hh, ite_self]
      refine Ev.step (fun k => by rw [impl_ReadInt.j3]) ?_
      exact ev_pos rfl (ev_const rfl)
    refine ev_ite (fun h => bad (by omega)) (fun h => ?_)
    by_cases h2 : bt s i > 57
    · rw [decide_eq_true h2]; exact bad (by omega)
    · rw [decide_eq_false h2, if_pos (show 48 ≤ bt s i ∧ bt s i ≤ 57 by omega)]
      refine Ev.step (fun k => by rw [impl_ReadInt.j3]) ?_
      rw [e2]
      refine ev_neg (by simp) (ev_ite (fun h3 => ?_) (fun h3 => ?_))
      · have e3 : wrap64 (wrap64 (n * 10) + (bt s i - 48) % 256) = 10 * n + (bt s i - 48) := by
          rw [w64 (x := n * 10) (by omega) (by omega), Int.emod_eq_of_lt (by omega) (by omega), w64 (by omega) (by omega)]; omega
        rw [if_pos h3, e3]
        refine ev_pos (by omega) (ev_pos (by omega) ?_)
        have z := ih (i + 1) (10 * n + (bt s i - 48)) (by omega) (by omega) (by omega)
        by_cases h4 : 10 * n + (bt s i - 48) > 1000000000
        · rw [if_neg (by omega)] at z; rw [if_pos h4]; exact z
        · rw [if_pos (by omega)] at z; rw [if_neg h4]; exact z
      · rw [if_neg h3]
        have z := ih (i + 1) n (by omega) (by omega) (by omega)
        rw [if_neg h3] at z
        exact z
theorem impl_ReadInt_j1 (s : ByteArray) (b : Bool) (hs : s.size ≤ 4611686018427387904) : Ev (fun k => impl_ReadInt.j1 k s b) (mFin b (bts s)) := by
  have hl := bts_length s
  refine Ev.step (fun k => by rw [impl_ReadInt.j1]) ?_
  cases hc : bts s with
  | nil =>
    rw [hc, List.length_nil] at hl
    exact ev_pos (toList_nil.2 (by omega)) (ev_const rfl)
  | cons c r =>
    rw [hc, List.length_cons] at hl
    refine ev_neg (fun h => by have := toList_nil.1 h; omega) ?_
    have z := impl_ReadInt_l0 s b hs s.size 0 0 (by omega) (by omega) (by omega)
    rw [if_pos (by omega), List.drop_zero, hc] at z
    exact z
theorem impl_ReadInt_ev (s : ByteArray) (hs : s.size ≤ 4611686018427387904) : Ev (fun k => impl_ReadInt.f k s) (mReadL (bts s)) := by
  have hl := bts_length s
  simp only [impl_ReadInt.f]
  cases hc : bts s with
  | nil =>
    rw [hc, List.length_nil] at hl
    refine ev_pos (toList_nil.2 (by omega)) (Ev.step (fun k => by rw [impl_ReadInt.j0]) ?_)
    refine ev_neg (by simp) ?_
    have z := impl_ReadInt_j1 s false hs
    rw [hc] at z
    exact z
  | cons c l =>
    rw [hc, List.length_cons] at hl
    have ec : bt s 0 = c := by rw [bt_eq, hc]; rfl
    have ht := bts_tail s c l hc
    have hts : (s.extract 1 s.size).size ≤ 4611686018427387904 := by rw [← bts_length, ht]; omega
    have hz := fun b => impl_ReadInt_j1 (s.extract 1 s.size) b hts
    rw [ht] at hz
    refine ev_neg (fun h => by have := toList_nil.1 h; omega) (ev_pos (by omega) ?_)
    rw [ec]
    by_cases h : c = 45
    · refine ev_pos h (Ev.step (fun k => by rw [impl_ReadInt.j0]) ?_)
      refine ev_pos rfl (ev_pos (by omega) (ev_pos (by omega) ?_))
      rw [ec, h, mReadL, mSplit, if_pos rfl]
      exact hz true
    · refine ev_neg h (Ev.step (fun k => by rw [impl_ReadInt.j0]) ?_)
      by_cases h2 : c = 43
      · refine ev_pos (by simp [h2]) (ev_pos (by omega) (ev_pos (by omega) ?_))
        rw [ec, h2, mReadL, mSplit, if_neg (show ¬ (43 : Int) = 45 by decide), if_pos rfl]
        exact hz false
      · refine ev_neg (by simp [h2]) ?_
        have z := impl_ReadInt_j1 s false hs
        rw [hc] at z
        rw [mReadL, mSplit, if_neg h, if_neg h2]
        exact z

/-! #### impl_ParseInt -/
theorem impl_ParseInt_ev (s : ByteArray) (hs : s.size ≤ 4611686018427387904) : Ev (fun k => impl_ParseInt.f k s) (mParse s) := by
  have hb := mReadL_bound (bts s)
  simp only [impl_ParseInt.f]
  refine ev_bind _ (impl_ReadInt_ev s hs) ?_
  unfold mParse
  by_cases h : (mReadL (bts s)).2 = true
  · refine ev_pos h (ev_let _ (impl_FormatInt_eq _ (by omega) (by omega)) ?_)
    by_cases h2 : itoaS (mReadL (bts s)).1 = s
    · rw [if_pos (show (mReadL (bts s)).2 = true ∧ itoaS (mReadL (bts s)).1 = s from ⟨h, h2⟩)]; exact ev_pos (toList_eq.2 h2) (ev_const rfl)
    · rw [if_neg (show ¬ ((mReadL (bts s)).2 = true ∧ itoaS (mReadL (bts s)).1 = s) from fun z => h2 z.2)]; exact ev_neg (fun z => h2 (toList_eq.1 z)) (ev_const rfl)
  · rw [if_neg (show ¬ ((mReadL (bts s)).2 = true ∧ itoaS (mReadL (bts s)).1 = s) from fun z => h z.1)]; exact ev_neg h (ev_const rfl)

/-! #### spec_FormatInt -/
def finS (n : Int) (l : List UInt8) : ByteArray := ⟨((if n < 0 then [45] else []) ++ l).toArray⟩
theorem data_app (a b : ByteArray) : (a ++ b).data.toList = a.data.toList ++ b.data.toList := by rw [ByteArray.data_append]; simp
theorem spec_FormatInt_l0 (n : Int) : ∀ (d : Nat) (x : Int) (s : ByteArray), x.natAbs < 10 ^ d → x.natAbs ≤ 9223372036854775808 → s.size + d ≤ 100 → Ev (fun k => spec_FormatInt.l0 k n s x) (finS n (digs x.natAbs ++ s.data.toList)) := by
  have done : ∀ (s : ByteArray), s.size ≤ 100 → Ev (fun k => spec_FormatInt.l0 k n s 0) (finS n (digs (0 : Int).natAbs ++ s.data.toList)) := by
    intro s hs
    refine Ev.step (fun k => by rw [spec_FormatInt.l0]) (ev_pos rfl ?_)
    refine ev_ite (fun h => ev_pos (by omega) (ev_const ?_)) (fun h => ev_const ?_)
    · refine congrArg some (bytes_ext ?_)
      rw [data_app]; simp [finS, h, digs]
    · refine congrArg some (bytes_ext ?_)
      simp [finS, h, digs]
  intro d
  induction d with
  | zero =>
    intro x s hx hb hs
    have : x = 0 := by simp at hx; omega
    subst this
    exact done s (by omega)
  | succ d ih =>
    intro x s hx hb hs
    by_cases h0 : x = 0
    · subst h0; exact done s (by omega)
    have hc : ∀ c : Int, c = ((48 + x.natAbs % 10 : Nat) : Int) → (strOfNums [c] ++ s).data.toList = UInt8.ofNat (48 + x.natAbs % 10) :: s.data.toList ∧ (strOfNums [c]).size = 1 ∧ (strOfNums [c] ++ s).size = s.size + 1 := by
      intro c hc
      subst hc
      have e1 : (strOfNums [((48 + x.natAbs % 10 : Nat) : Int)]).size = 1 := by rw [size_str]; rfl
      refine ⟨?_, e1, by rw [ByteArray.size_append, e1]; omega⟩
      rw [data_app]
      show [UInt8.ofNat (((48 + x.natAbs % 10 : Nat) : Int)).toNat] ++ _ = _
      rw [Int.toNat_natCast]; rfl
    have hd : (Int.tdiv x 10).natAbs = x.natAbs / 10 := by rw [Int.natAbs_tdiv]; rfl
    have hp : x.natAbs / 10 < 10 ^ d := by rw [Nat.pow_succ] at hx; omega
    have next : ∀ c : Int, c = ((48 + x.natAbs % 10 : Nat) : Int) → wrap64 (Int.tdiv x 10) = Int.tdiv x 10 → Ev (fun k => (some ([c] : List Int)).bind fun y => (if (strOfNums y).size + s.size ≤ 9223372036854775807 then spec_FormatInt.l0 k n (strOfNums y ++ s) (wrap64 (Int.tdiv x 10)) else none)) (finS n (digs x.natAbs ++ s.data.toList)) := by
      intro c hc' hw
      obtain ⟨h1, h2, h3⟩ := hc c hc'
      refine ev_let _ rfl (ev_pos (by rw [h2]; omega) ?_)
      rw [hw]
      have z := ih (Int.tdiv x 10) (strOfNums [c] ++ s) (by rw [hd]; exact hp) (by rw [hd]; omega) (by rw [h3]; omega)
      rw [hd, h1] at z
      rw [digs_step (show x.natAbs ≠ 0 by omega), List.append_assoc]
      exact z
    refine Ev.step (fun k => by rw [spec_FormatInt.l0]) (ev_neg h0 ?_)
    have q1 : ∀ m : Nat, Int.tmod (m : Int) 10 = ((m % 10 : Nat) : Int) := fun _ => rfl
    have q2 : ∀ m : Nat, Int.tdiv (m : Int) 10 = ((m / 10 : Nat) : Int) := fun _ => rfl
    rcases Int.natAbs_eq x with hx' | hx'
    · have e1 : Int.tmod x 10 = ((x.natAbs % 10 : Nat) : Int) := by conv => lhs; rw [hx', q1]
      have e2 : Int.tdiv x 10 = ((x.natAbs / 10 : Nat) : Int) := by conv => lhs; rw [hx', q2]
      rw [e1]
      refine ev_neg (by omega) (next _ ?_ (by rw [e2]; exact w64 (by omega) (by omega)))
      rw [w64 (by omega) (by omega)]; omega
    · have e1 : Int.tmod x 10 = -((x.natAbs % 10 : Nat) : Int) := by conv => lhs; rw [hx', Int.neg_tmod, q1]
      have e2 : Int.tdiv x 10 = -((x.natAbs / 10 : Nat) : Int) := by conv => lhs; rw [hx', Int.neg_tdiv, q2]
      rw [e1]
      by_cases h1 : x.natAbs % 10 = 0
      · rw [h1]
        refine ev_neg (by omega) (next _ ?_ (by rw [e2]; exact w64 (by omega) (by omega)))
        rw [h1, w64 (by omega) (by omega)]; omega
      · refine ev_pos (by omega) (next _ ?_ (by rw [e2]; exact w64 (by omega) (by omega)))
        rw [Int.neg_neg, w64 (x := ((x.natAbs % 10 : Nat) : Int)) (by omega) (by omega), w64 (by omega) (by omega)]; omega
theorem finS_eq {n : Int} (h : n ≠ 0) : finS n (digs n.natAbs ++ (⟨#[]⟩ : ByteArray).data.toList) = itoaS n := by
  unfold finS itoaS Lib.itoa digs
  rw [if_neg (show ¬ n.natAbs = 0 by omega)]
  by_cases h1 : n < 0
  · simp [h1]
  · simp [h1, show n.natAbs = n.toNat by omega]
theorem itoaS_zero : itoaS 0 = ⟨#[48]⟩ := by
  unfold itoaS Lib.itoa
  rw [if_neg (by decide), show (0 : Int).toNat = 0 from rfl, Lib.decDigits_one (by decide)]; rfl
theorem spec_FormatInt_ev (n : Int) (h0 : -9223372036854775808 ≤ n) (h1 : n ≤ 9223372036854775807) : Ev (fun k => spec_FormatInt.f k n) (itoaS n) := by
  simp only [spec_FormatInt.f]
  by_cases h : n = 0
  · subst h
    exact ev_pos rfl (ev_const (by rw [itoaS_zero]))
  · refine ev_neg h ?_
    rw [← finS_eq h]
    exact spec_FormatInt_l0 n 19 n ⟨#[]⟩ (by have e : (10 : Nat) ^ 19 = 10000000000000000000 := by decide
                                             omega) (by omega) (by show 0 + 19 ≤ 100; omega)

theorem mDig_snoc : ∀ (l : List Int) (a c : Int), mDig a (l ++ [c]) = (mDig a l).bind fun v => if 48 ≤ c ∧ c ≤ 57 then (if 10 * v + (c - 48) > 1000000000 then none else some (10 * v + (c - 48))) else none
  | [], a, c => by
    simp only [List.nil_append, mDig, Option.bind_some]
  | x :: l, a, c => by
    simp only [List.cons_append, mDig]
    split
    · split
      · rfl
      · exact mDig_snoc l _ c
    · rfl
def decL (u : Nat) : List Int := (Lib.decDigits u).map fun c => (c.toNat : Int)
theorem ofNat_dig (d : Nat) (h : d < 10) : ((UInt8.ofNat (48 + d)).toNat : Int) = 48 + d := by
  rw [UInt8.toNat_ofNat']; omega
theorem mDig_dec : ∀ (n u : Nat), u ≤ n → mDig 0 (decL u) = if u ≤ 1000000000 then some (u : Int) else none := by
  intro n
  induction n with
  | zero =>
    intro u hu
    obtain rfl : u = 0 := by omega
    rw [decL, Lib.decDigits_one (by decide)]; rfl
  | succ n ih =>
    intro u hu
    by_cases h : u < 10
    · rw [decL, Lib.decDigits_one h, List.map_cons, List.map_nil, ofNat_dig u h, if_pos (by omega)]
      simp only [mDig]
      rw [if_pos (by omega), if_neg (by omega)]
      exact congrArg some (by omega)
    · have e : decL u = decL (u / 10) ++ [((UInt8.ofNat (48 + u % 10)).toNat : Int)] := by
        rw [decL, Lib.decDigits, dif_neg h, List.map_append]; rfl
      rw [e, mDig_snoc, ih (u / 10) (by omega), ofNat_dig (u % 10) (by omega)]
      by_cases h1 : u / 10 ≤ 1000000000
      · rw [if_pos h1, Option.bind_some, if_pos (by omega)]
        by_cases h2 : u ≤ 1000000000
        · rw [if_neg (by omega), if_pos h2]
          exact congrArg some (by omega)
        · rw [if_pos (by omega), if_neg h2]
      · rw [if_neg h1, if_neg (by omega)]; rfl
theorem decL_form (u : Nat) : ∃ c l, decL u = c :: l ∧ 48 ≤ c := by
  cases h : Lib.decDigits u with
  | nil =>
    have := Lib.decDigits_length u
    rw [h] at this
    rw [Lib.nDigits] at this
    split at this <;> simp at this
  | cons c l =>
    refine ⟨(c.toNat : Int), l.map fun c => (c.toNat : Int), by rw [decL, h, List.map_cons], ?_⟩
    have := decDigits_mem _ _ (Nat.le_refl _) c (by rw [h]; exact List.mem_cons_self)
    omega
theorem mReadL_itoa (n : Int) : mReadL (bts (itoaS n)) = if -1000000000 ≤ n ∧ n ≤ 1000000000 then (n, true) else (0, false) := by
  rw [bts_itoaS]
  unfold Lib.itoa
  by_cases h : n < 0
  · rw [if_pos h, List.map_cons]
    show mFin true (decL n.natAbs) = _
    obtain ⟨c, l, e, _⟩ := decL_form n.natAbs
    have hd := mDig_dec _ _ (Nat.le_refl n.natAbs)
    rw [e] at hd ⊢
    rw [mFin, hd]
    by_cases h1 : n.natAbs ≤ 1000000000
    · rw [if_pos h1, if_pos (by omega), mEnd, if_pos rfl]
      exact congrArg (·, true) (by omega)
    · rw [if_neg h1, if_neg (by omega)]; rfl
  · rw [if_neg h]
    show mReadL (decL n.toNat) = _
    obtain ⟨c, l, e, hc⟩ := decL_form n.toNat
    have hd := mDig_dec _ _ (Nat.le_refl n.toNat)
    rw [e] at hd ⊢
    rw [mReadL, mSplit, if_neg (by omega), if_neg (by omega)]
    show mEnd false (mDig 0 (c :: l)) = _
    rw [hd]
    by_cases h1 : n.toNat ≤ 1000000000
    · rw [if_pos h1, if_pos (by omega), mEnd, if_neg (by simp)]
      exact congrArg (·, true) (by omega)
    · rw [if_neg h1, if_neg (by omega)]; rfl
theorem mParse_itoa (n : Int) : mParse (itoaS n) = if -1000000000 ≤ n ∧ n ≤ 1000000000 then (n, true) else (0, false) := by
  unfold mParse
  rw [mReadL_itoa]
  by_cases h : -1000000000 ≤ n ∧ n ≤ 1000000000
  · rw [if_pos h, if_pos (show (n, true).2 = true ∧ itoaS (n, true).1 = itoaS n from ⟨rfl, rfl⟩)]
  · rw [if_neg h, if_neg (by simp)]
theorem itoaS_sz {n : Int} (h : I64 n) : (itoaS n).size ≤ 21 := by
  rw [← szd]; exact Lib.itoa_length_le n h.1 h.2
theorem l1Form_ex (s : List Int) (i h : Int) (h0 : 0 ≤ i) (hs : s.length ≤ 1000000) : ∃ r i' h', Ev (fun k => spec_l1Form.f k s i h) (r, i', h') ∧ r.size ≤ 1000 := by
  simp only [spec_l1Form.f, spec_l1Once.f]
  obtain ⟨j, i1, h1, e1, p1, q1, z1⟩ := l1Below_ex s i h 2 h0 hs (by omega)
  simp only [e1, Option.bind_some]
  by_cases c : (j == 0) = true
  · simp only [if_pos c]
    unfold spec_l1Str.f
    obtain ⟨m, i2, h2, e2, p2, q2, z2⟩ := l1Below_ex s i1 h1 17 z1 hs (by omega)
    simp only [List.length_cons, List.length_nil, Nat.zero_add, Nat.reduceAdd, Int.cast_ofNat_Int]
    rw [e2]
    simp only [Option.bind_some]
    rw [if_pos p2, if_pos q2]
    refine ⟨_, _, _, ev_const rfl, ?_⟩
    have all : ∀ l : List ByteArray, (l.all fun b => decide (b.size ≤ 1000)) = true → (rdOf ByteArray.empty l m).size ≤ 1000 := by
      intro l hl
      unfold rdOf
      rw [List.getD_eq_getElem?_getD]
      cases hg : l[m.toNat]? with
      | none => decide
      | some b => simpa using List.all_eq_true.1 hl b (List.mem_of_getElem? hg)
    exact all _ (by decide)
  · simp only [if_neg c]
    obtain ⟨n, i2, h2, e2, g2, z2⟩ := l1Num_ex s i1 h1 z1 hs
    simp only [e2, Option.bind_some]
    refine ⟨_, _, _, ev_bind _ (spec_FormatInt_ev n g2.1 g2.2) (ev_const rfl), ?_⟩
    have := itoaS_sz g2; omega
theorem FnNumbers : laws_FnNumbers.Pure := by
  rintro l ⟨_, _⟩
  refine Ev.rounds ?_
  simp only [laws_FnNumbers.f, laws_big.f, Option.bind_some]
  refine ev_ite (fun _ => ev_const rfl) (fun hbig => ?_)
  have hl : l.length ≤ 4096 := by simp at hbig; omega
  obtain ⟨h1, new⟩ := l1New_ex l (by omega)
  obtain ⟨n, i2, h2, e2, gn, z2⟩ := l1Num_ex l 0 h1 (by omega) (by omega)
  have dn : Ev (fun k => spec_DrawFormatInt.f k l) n := by
    simp only [spec_DrawFormatInt.f]
    exact ev_bind _ new (ev_let _ e2 (ev_const rfl))
  obtain ⟨t, i3, h3, e3, ht⟩ := l1Form_ex l 0 h1 (by omega) (by omega)
  have dt : Ev (fun k => spec_DrawReadInt.f k l) t := by
    simp only [spec_DrawReadInt.f]
    exact ev_bind _ new (ev_bind _ e3 (ev_const rfl))
  have hs := itoaS_sz gn
  refine ev_bind _ dn (ev_let _ (impl_FormatInt_eq n gn.1 gn.2) (ev_bind _ (impl_ParseInt_ev _ (by omega)) (ev_bind _ (impl_ReadInt_ev _ (by omega)) ?_)))
  rw [mReadL_itoa, mParse_itoa]
  have go : ∀ b : Bool, (b = true ↔ -1000000000 ≤ n ∧ n ≤ 1000000000) → Ev (fun k => laws_FnNumbers.j0 k l n (if -1000000000 ≤ n ∧ n ≤ 1000000000 then (n, true) else (0, false)).1 (if -1000000000 ≤ n ∧ n ≤ 1000000000 then (n, true) else (0, false)).2 (if -1000000000 ≤ n ∧ n ≤ 1000000000 then (n, true) else (0, false)).1 (if -1000000000 ≤ n ∧ n ≤ 1000000000 then (n, true) else (0, false)).2 b) true := by
    intro b hb
    have hz := mReadL_bound (bts t)
    have tail : Ev (fun k => if (mReadL (bts t)).2 = true then ((impl_FormatInt.f (mReadL (bts t)).1).bind fun y => ((impl_Min.f (mReadL (bts t)).1 1000000000).bind fun u => ((impl_Max.f u (-1000000000)).bind fun v => ((impl_FormatInt.f v).bind fun w => (some (y.toList == w.toList)))))) else (some true)) true := by
      refine ev_ite (fun _ => ?_) (fun _ => ev_const rfl)
      have e1 : mn (mReadL (bts t)).1 1000000000 = (mReadL (bts t)).1 := by unfold mn; split <;> omega
      have e2 : mx (mReadL (bts t)).1 (-1000000000) = (mReadL (bts t)).1 := by unfold mx; split <;> omega
      have ef := impl_FormatInt_eq (mReadL (bts t)).1 (by omega) (by omega)
      refine ev_let _ ef (ev_let _ rfl (ev_let _ rfl ?_))
      rw [e1, e2]
      exact ev_let _ ef (ev_const (by simp))
    refine Ev.step (fun k => by rw [laws_FnNumbers.j0]) (ev_bind _ dt (ev_bind _ (impl_ReadInt_ev t (by omega)) ?_))
    by_cases c : -1000000000 ≤ n ∧ n ≤ 1000000000
    · have := hb.2 c
      subst this
      simp only [if_pos c]
      exact ev_pos (by simp) (ev_pos (by simp) (ev_pos (by simp) (ev_pos (by simp) (ev_pos (by simp) tail))))
    · have : b = false := by cases b with | false => rfl | true => exact absurd (hb.1 rfl) c
      subst this
      simp only [if_neg c]
      exact ev_pos (by simp) (ev_pos (by simp) (ev_neg (by simp) tail))
  refine ev_ite (fun h => go _ (by simp; omega)) (fun h => go _ (by simp; omega))

end Go.Proofs.YtmkhoakhfdjplaaDoor.Pure.LFnNumbers
namespace Go.Proofs.YtmkhoakhfdjplaaDoor.Pure
theorem FnNumbers : PFnNumbers.laws_FnNumbers.Pure := LFnNumbers.FnNumbers
end Go.Proofs.YtmkhoakhfdjplaaDoor.Pure
