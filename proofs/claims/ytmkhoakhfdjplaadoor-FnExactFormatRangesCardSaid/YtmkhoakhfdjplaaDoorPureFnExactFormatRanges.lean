/- For all ranges, the program's FormatRanges returns what the reference's FormatRanges returns. -/
import Derived.Test.YtmkhoakhfdjplaaDoorPFnExactFormatRangesx0
import Derived.Test.YtmkhoakhfdjplaaDoorPFnExactFormatRangesx1
import Derived.Test.YtmkhoakhfdjplaaDoorPFnExactFormatRangesx2
import Derived.Test.YtmkhoakhfdjplaaDoorQFnExactFormatRanges
import Derived.Test.YtmkhoakhfdjplaaDoorBase
import Derived.Test.YtmkhoakhfdjplaaDoorExt
import Derived.Lib.Join
import Derived.Lib.ItoaLen
namespace Go.Proofs.YtmkhoakhfdjplaaDoor.Pure.LFnExactFormatRanges
open Go.RowKit Go.Proofs.YtmkhoakhfdjplaaDoor.PFnExactFormatRanges Go.Proofs.YtmkhoakhfdjplaaDoorW.PrintWords Go.Proofs.YtmkhoakhfdjplaaDoorW.PrintLast Go.Proofs.YtmkhoakhfdjplaaDoorW.PrintMore Go.Proofs.YtmkhoakhfdjplaaDoor.Base
set_option linter.unusedVariables false
set_option linter.unusedSimpArgs false

/-! #### the law's own helpers -/
def mustr : List ByteArray → Nat
  | [] => 0
  | x :: l => x.size + mustr l
theorem mustr_mem {l : List ByteArray} {x : ByteArray} (h : x ∈ l) : x.size ≤ mustr l := by
  induction l with
  | nil => cases h
  | cons y l ih =>
    simp only [mustr]
    rcases List.mem_cons.1 h with rfl | h
    · omega
    · have := ih h; omega
theorem mustr_append (l l' : List ByteArray) : mustr (l ++ l') = mustr l + mustr l' := by
  induction l with
  | nil => simp [mustr]
  | cons x l ih => simp only [List.cons_append, mustr, ih]; omega
theorem szRangeS_ok (l : List S59) (left : Int) (g : l.length ≤ maxLen ∧ ∀ y ∈ l, G59 y) (h0 : 0 ≤ left) (h1 : left ≤ 1048576) : SzOk (fun k => laws_szRangeS.f l left) left (l.length + 0) := by
  have hl := g.1
  simp only [laws_szRangeS.f]
  have e : wrap64 (left - (l.length : Int)) = left - (l.length : Int) := w64 (by have := hl; unfold maxLen at this; omega) (by omega)
  simp only [e]; clear e
  refine sz_len ?_; intro q
  generalize ec : left - (l.length : Int) = c0 at q ⊢
  have q' : c0 ≤ 1048576 := by omega
  have z := sz_ret c0 (by assumption)
  exact z
def cv59 (x : S59) : S57 := ⟨x.f0, x.f1⟩
def cvl59 : List S59 → List S57
  | [] => []
  | x :: l => cv59 x :: cvl59 l
theorem cvl59_length (l : List S59) : (cvl59 l).length = l.length := by
  induction l with
  | nil => rfl
  | cons x l ih => simp only [cvl59, List.length_cons, ih]
theorem cvl59_append (l l' : List S59) : cvl59 (l ++ l') = cvl59 l ++ cvl59 l' := by
  induction l with
  | nil => rfl
  | cons x l ih => simp only [List.cons_append, cvl59, ih]
theorem cvl59_map (l : List S59) : cvl59 l = l.map cv59 := by
  induction l with
  | nil => rfl
  | cons x l ih => simp only [List.map_cons, cvl59, ih]
theorem toRange_ev (v0 : Int) (v1 : Int) : Ev (fun k => laws_toRange.f v0 v1) (v0, v1) := by
  simp only [laws_toRange.f]
  exact ev_const rfl
theorem toRangeS_l0 : ∀ (suf pre : List S59) (hb : (pre ++ suf).length ≤ 1048576) (hm : True), Ev (fun k => laws_toRangeS.l0 k (pre ++ suf) ((cvl59 pre) ++ List.replicate suf.length z57) (pre.length : Int)) (cvl59 (pre ++ suf))
  | [], pre, hb, hm => by
    refine Ev.step (fun k => by rw [laws_toRangeS.l0]) ?_
    refine ev_neg (by simp) (ev_const ?_)
    simp
  | x :: suf, pre, hb, hm => by
    have ex : rd_T59 (pre ++ x :: suf) (pre.length : Int) = x := by unfold rd_T59; exact at_pre pre suf x _
    have hb' := hb
    simp only [List.length_append, List.length_cons] at hb'
    refine Ev.step (fun k => by rw [laws_toRangeS.l0]) ?_
    refine ev_pos (by simp only [List.length_append, List.length_cons]; omega) (ev_pos (by omega) ?_)
    rw [ex]
    refine ev_bind _ (toRange_ev _ _) ?_
    refine ev_pos (by simp only [List.length_append, cvl59_length, List.length_replicate, List.length_cons]; omega) ?_
    have es : (cvl59 pre ++ List.replicate (x :: suf).length z57).set ((pre.length : Int)).toNat (cv59 x) = cvl59 (pre ++ [x]) ++ List.replicate suf.length z57 := by
      have h2 := set_pre (cvl59 pre) (List.replicate suf.length z57) z57 (cv59 x)
      rw [cvl59_length] at h2
      rw [List.length_cons, List.replicate_succ, h2, cvl59_append]; rfl
    rw [next_pre pre x (by omega)]
    have z := toRangeS_l0 suf (pre ++ [x]) (by simpa using hb) trivial
    rw [List.append_assoc] at z
    rw [← es] at z
    have e2 : (⟨(cv59 x).f0, (cv59 x).f1⟩ : S57) = cv59 x := by rfl
    show Ev (fun k => laws_toRangeS.l0 k (pre ++ x :: suf) ((cvl59 pre ++ List.replicate (x :: suf).length z57).set ((pre.length : Int)).toNat (⟨(cv59 x).f0, (cv59 x).f1⟩ : S57)) ((pre ++ [x]).length : Int)) (cvl59 (pre ++ x :: suf))
    rw [e2]
    exact z
theorem toRangeS_ev (l : List S59) (hm : l.length ≤ 1048576) : Ev (fun k => laws_toRangeS.f k l) (cvl59 l) := by
  simp only [laws_toRangeS.f]
  have hl : l.length ≤ 1048576 := by omega
  refine ev_pos (by omega) (ev_pos (by omega) ?_)
  have z := toRangeS_l0 l [] (by simpa using hl) trivial
  simpa [cvl59] using z
theorem eqRange_ev (v0 : Int) (v1 : Int) : Ev (fun k => laws_eqRange.f v0 v1 v0 v1) true := by
  simp only [laws_eqRange.f]
  refine ev_pos (by simp) ?_
  refine ev_pos (by simp) ?_
  exact ev_const rfl
theorem eqRangeS_l0 : ∀ (suf pre : List S57) (hb : (pre ++ suf).length ≤ 4611686018427387904) (hm : True), Ev (fun k => laws_eqRangeS.l0 k (pre ++ suf) (pre ++ suf) (pre.length : Int)) true
  | [], pre, hb, hm => by
    refine Ev.step (fun k => by rw [laws_eqRangeS.l0]) ?_
    exact ev_neg (by simp) (ev_const rfl)
  | x :: suf, pre, hb, hm => by
    have ex : rd_T57 (pre ++ x :: suf) (pre.length : Int) = x := by unfold rd_T57; exact at_pre pre suf x _
    have hb' := hb
    simp only [List.length_append, List.length_cons] at hb'
    refine Ev.step (fun k => by rw [laws_eqRangeS.l0]) ?_
    refine ev_pos (by simp only [List.length_append, List.length_cons]; omega) (ev_pos (by omega) (ev_pos (by simp only [List.length_append, List.length_cons]; omega) ?_))
    rw [ex]
    refine ev_bind _ (eqRange_ev _ _) (ev_pos (by simp) ?_)
    rw [next_pre pre x (by omega)]
    have z := eqRangeS_l0 suf (pre ++ [x]) (by simpa using hb) trivial
    rw [List.append_assoc] at z
    exact z
theorem eqRangeS_ev (l : List S57) (hm : l.length ≤ 4611686018427387904) : Ev (fun k => laws_eqRangeS.f k l l) true := by
  simp only [laws_eqRangeS.f]
  refine ev_pos (by simp) ?_
  exact eqRangeS_l0 l [] (by rw [List.nil_append]; omega) trivial

/-! #### mItoa -/
/-! decimal numerals -/
def itoaS (n : Int) : ByteArray := ⟨(Lib.itoa n).toArray⟩
def digs (u : Nat) : List UInt8 := if u = 0 then [] else Lib.decDigits u
theorem digs_step {u : Nat} (h : u ≠ 0) : digs u = digs (u / 10) ++ [UInt8.ofNat (48 + u % 10)] := by
  unfold digs
  rw [if_neg h]
  by_cases h2 : u < 10
  · rw [if_pos (show u / 10 = 0 by omega), Lib.decDigits_one h2, Nat.mod_eq_of_lt h2]; rfl
  · rw [if_neg (show ¬ u / 10 = 0 by omega), Lib.decDigits, dif_neg h2]
theorem impl_FormatInt_eq (n : Int) (h0 : -9223372036854775808 ≤ n) (h1 : n ≤ 9223372036854775807) : impl_FormatInt.f n = some (itoaS n) := by
  unfold impl_FormatInt.f strconv_Itoa.f
  rw [if_pos h0, if_pos h1]; rfl

/-! #### spec_FormatInt -/
def finS (n : Int) (l : List UInt8) : ByteArray := ⟨((if n < 0 then [45] else []) ++ l).toArray⟩
theorem data_app (a b : ByteArray) : (a ++ b).data.toList = a.data.toList ++ b.data.toList := by rw [ByteArray.data_append]; simp
theorem spec_FormatInt_l0 (n : Int) : ∀ (d : Nat) (x : Int) (s : ByteArray), x.natAbs < 10 ^ d → x.natAbs ≤ 9223372036854775808 → s.size + d ≤ 100 → Ev (fun k => spec_FormatInt.l0 k n s x) (finS n (digs x.natAbs ++ s.data.toList)) := by
  have done : ∀ (s : ByteArray), s.size ≤ 100 → Ev (fun k => spec_FormatInt.l0 k n s 0) (finS n (digs (0 : Int).natAbs ++ s.data.toList)) := by
    intro s hs
    refine Ev.step (fun k => by rw [spec_FormatInt.l0]) (ev_pos rfl ?_)
    refine ev_ite (fun h => ev_pos (by omega) (ev_const ?_)) (fun h => ev_const ?_)
    · refine congrArg some (bytes_ext ?_)
      rw [data_app]; simp [finS, h, digs]
    · refine congrArg some (bytes_ext ?_)
      simp [finS, h, digs]
  intro d
  induction d with
  | zero =>
    intro x s hx hb hs
    have : x = 0 := by simp at hx; omega
    subst this
    exact done s (by omega)
  | succ d ih =>
    intro x s hx hb hs
    by_cases h0 : x = 0
    · subst h0; exact done s (by omega)
    have hc : ∀ c : Int, c = ((48 + x.natAbs % 10 : Nat) : Int) → (strOfNums [c] ++ s).data.toList = UInt8.ofNat (48 + x.natAbs % 10) :: s.data.toList ∧ (strOfNums [c]).size = 1 ∧ (strOfNums [c] ++ s).size = s.size + 1 := by
      intro c hc
      subst hc
      have e1 : (strOfNums [((48 + x.natAbs % 10 : Nat) : Int)]).size = 1 := by rw [size_str]; rfl
      refine ⟨?_, e1, by rw [ByteArray.size_append, e1]; omega⟩
      rw [data_app]
      show [UInt8.ofNat (((48 + x.natAbs % 10 : Nat) : Int)).toNat] ++ _ = _
      rw [Int.toNat_natCast]; rfl
    have hd : (Int.tdiv x 10).natAbs = x.natAbs / 10 := by rw [Int.natAbs_tdiv]; rfl
    have hp : x.natAbs / 10 < 10 ^ d := by rw [Nat.pow_succ] at hx; omega
    have next : ∀ c : Int, c = ((48 + x.natAbs % 10 : Nat) : Int) → wrap64 (Int.tdiv x 10) = Int.tdiv x 10 → Ev (fun k => (some ([c] : List Int)).bind fun y => (if (strOfNums y).size + s.size ≤ 9223372036854775807 then spec_FormatInt.l0 k n (strOfNums y ++ s) (wrap64 (Int.tdiv x 10)) else none)) (finS n (digs x.natAbs ++ s.data.toList)) := by
      intro c hc' hw
      obtain ⟨h1, h2, h3⟩ := hc c hc'
      refine ev_let _ rfl (ev_pos (by rw [h2]; omega) ?_)
      rw [hw]
      have z := ih (Int.tdiv x 10) (strOfNums [c] ++ s) (by rw [hd]; exact hp) (by rw [hd]; omega) (by rw [h3]; omega)
      rw [hd, h1] at z
      rw [digs_step (show x.natAbs ≠ 0 by omega), List.append_assoc]
      exact z
    refine Ev.step (fun k => by rw [spec_FormatInt.l0]) (ev_neg h0 ?_)
    have q1 : ∀ m : Nat, Int.tmod (m : Int) 10 = ((m % 10 : Nat) : Int) := fun _ => rfl
    have q2 : ∀ m : Nat, Int.tdiv (m : Int) 10 = ((m / 10 : Nat) : Int) := fun _ => rfl
    rcases Int.natAbs_eq x with hx' | hx'
    · have e1 : Int.tmod x 10 = ((x.natAbs % 10 : Nat) : Int) := by conv => lhs; rw [hx', q1]
      have e2 : Int.tdiv x 10 = ((x.natAbs / 10 : Nat) : Int) := by conv => lhs; rw [hx', q2]
      rw [e1]
      refine ev_neg (by omega) (next _ ?_ (by rw [e2]; exact w64 (by omega) (by omega)))
      rw [w64 (by omega) (by omega)]; omega
    · have e1 : Int.tmod x 10 = -((x.natAbs % 10 : Nat) : Int) := by conv => lhs; rw [hx', Int.neg_tmod, q1]
      have e2 : Int.tdiv x 10 = -((x.natAbs / 10 : Nat) : Int) := by conv => lhs; rw [hx', Int.neg_tdiv, q2]
      rw [e1]
      by_cases h1 : x.natAbs % 10 = 0
      · rw [h1]
        refine ev_neg (by omega) (next _ ?_ (by rw [e2]; exact w64 (by omega) (by omega)))
        rw [h1, w64 (by omega) (by omega)]; omega
      · refine ev_pos (by omega) (next _ ?_ (by rw [e2]; exact w64 (by omega) (by omega)))
        rw [Int.neg_neg, w64 (x := ((x.natAbs % 10 : Nat) : Int)) (by omega) (by omega), w64 (by omega) (by omega)]; omega
theorem finS_eq {n : Int} (h : n ≠ 0) : finS n (digs n.natAbs ++ (⟨#[]⟩ : ByteArray).data.toList) = itoaS n := by
  unfold finS itoaS Lib.itoa digs
  rw [if_neg (show ¬ n.natAbs = 0 by omega)]
  by_cases h1 : n < 0
  · simp [h1]
  · simp [h1, show n.natAbs = n.toNat by omega]
theorem itoaS_zero : itoaS 0 = ⟨#[48]⟩ := by
  unfold itoaS Lib.itoa
  rw [if_neg (by decide), show (0 : Int).toNat = 0 from rfl, Lib.decDigits_one (by decide)]; rfl
theorem spec_FormatInt_ev (n : Int) (h0 : -9223372036854775808 ≤ n) (h1 : n ≤ 9223372036854775807) : Ev (fun k => spec_FormatInt.f k n) (itoaS n) := by
  simp only [spec_FormatInt.f]
  by_cases h : n = 0
  · subst h
    exact ev_pos rfl (ev_const (by rw [itoaS_zero]))
  · refine ev_neg h ?_
    rw [← finS_eq h]
    exact spec_FormatInt_l0 n 19 n ⟨#[]⟩ (by have e : (10 : Nat) ^ 19 = 10000000000000000000 := by decide
                                             omega) (by omega) (by show 0 + 19 ≤ 100; omega)

/-! #### FormatRanges -/
theorem wf_i64 {n : Int} (h : (Lit.int .i64 n).wf = true) : -9223372036854775808 ≤ n ∧ n ≤ 9223372036854775807 := by
  simpa [Lit.wf, IntKind.min, IntKind.max, IntKind.signed, IntKind.bits] using h
def Rg := S57
def GR (x : S57) : Prop := (-9223372036854775808 ≤ x.f0 ∧ x.f0 ≤ 9223372036854775807) ∧ (-9223372036854775808 ≤ x.f1 ∧ x.f1 ≤ 9223372036854775807)
/-- A range as text. -/
def rL (x : S57) : List UInt8 := Lib.itoa x.f0 ++ (if x.f0 = x.f1 then [] else [46, 46] ++ Lib.itoa x.f1)
def bar (b : Bool) : List UInt8 := if b = true then [124] else []
def fj : List S57 → Bool → List UInt8 → List UInt8
  | [], _, a => a
  | x :: l, b, a => fj l true ((a ++ bar b) ++ rL x)
theorem itoaS_data (n : Int) : (itoaS n).data.toList = Lib.itoa n := rfl
theorem itoaS_size {n : Int} (h : -9223372036854775808 ≤ n ∧ n ≤ 9223372036854775807) : (itoaS n).size ≤ 21 := by
  rw [← szd, itoaS_data]; exact Lib.itoa_length_le n h.1 h.2
theorem rL_len {x : S57} (h : GR x) : (rL x).length ≤ 44 := by
  have h1 := Lib.itoa_length_le x.f0 h.1.1 h.1.2
  have h2 := Lib.itoa_length_le x.f1 h.2.1 h.2.2
  unfold rL
  rw [List.length_append]
  split <;> simp <;> omega
theorem spec_FR_j1 (l : List S57) (x : S57) (i : Int) (acc : ByteArray) (R : ByteArray) (h0 : 0 ≤ i) (h1 : i < (l.length : Int)) (ex : rd_T57 l i = x) (g : GR x) (hs : acc.size ≤ 1000000000)
    (HR : ∀ t : ByteArray, t.data.toList = acc.data.toList ++ rL x → Ev (fun k => spec_FormatRanges.l0 k l t (wrap64 (i + 1))) R) : Ev (fun k => spec_FormatRanges.j1 k l acc i) R := by
  have s0 := itoaS_size g.1
  have s1 := itoaS_size g.2
  refine Ev.step (fun k => by rw [spec_FormatRanges.j1]) (ev_pos h0 (ev_pos h1 ?_))
  rw [ex]
  refine ev_bind _ (spec_FormatInt_ev _ g.1.1 g.1.2) (ev_pos (by omega) ?_)
  refine ev_ite (fun h => HR _ ?_) (fun h => ?_)
  · rw [data_app, itoaS_data, rL, if_pos h, List.append_nil]
  · refine ev_pos (by rw [ByteArray.size_append]; omega) (ev_bind _ (spec_FormatInt_ev _ g.2.1 g.2.2) (ev_pos ?_ (HR _ ?_)))
    · have e2 : (⟨#[46, 46]⟩ : ByteArray).size = 2 := rfl
      rw [ByteArray.size_append, ByteArray.size_append, e2]; omega
    · rw [data_app, data_app, data_app, itoaS_data, itoaS_data, rL, if_neg h]
      simp
theorem spec_FR_l0 : ∀ (suf pre : List S57) (acc : ByteArray) (hb : (pre ++ suf).length ≤ 1048576) (hg : ∀ x ∈ suf, GR x) (hs : acc.size + 45 * suf.length ≤ 1000000000), Ev (fun k => spec_FormatRanges.l0 k (pre ++ suf) acc (pre.length : Int)) ⟨(fj suf (!pre.isEmpty) acc.data.toList).toArray⟩
  | [], pre, acc, hb, hg, hs => by
    refine Ev.step (fun k => by rw [spec_FormatRanges.l0]) ?_
    refine ev_neg (by simp) (ev_const (congrArg some (bytes_ext ?_)))
    simp [fj]
  | x :: suf, pre, acc, hb, hg, hs => by
    have ex : rd_T57 (pre ++ x :: suf) (pre.length : Int) = x := by unfold rd_T57; exact at_pre pre suf x _
    have hb' := hb
    simp only [List.length_append, List.length_cons] at hb'
    rw [List.length_cons] at hs
    have hlt : ((pre.length : Int)) < ((pre ++ x :: suf).length : Int) := by simp only [List.length_append, List.length_cons]; omega
    have gx := hg x List.mem_cons_self
    have lx := rL_len gx
    refine Ev.step (fun k => by rw [spec_FormatRanges.l0]) (ev_pos hlt ?_)
    have next : ∀ a : ByteArray, a.data.toList = acc.data.toList ++ bar (!pre.isEmpty) → a.size ≤ acc.size + 1 → Ev (fun k => spec_FormatRanges.j1 k (pre ++ x :: suf) a (pre.length : Int)) ⟨(fj (x :: suf) (!pre.isEmpty) acc.data.toList).toArray⟩ := by
      intro a ha hsa
      refine spec_FR_j1 _ x _ a _ (by omega) hlt ex gx (by omega) fun t ht => ?_
      rw [next_pre pre x (by omega)]
      have ts : t.size = a.size + (rL x).length := by rw [← szd, ht, List.length_append, szd]
      have z := spec_FR_l0 suf (pre ++ [x]) t (by simpa using hb) (fun y hy => hg y (List.mem_cons_of_mem _ hy)) (by omega)
      rw [List.append_assoc, ht, ha] at z
      have e : (!(pre ++ [x]).isEmpty) = true := by simp
      rw [e] at z
      exact z
    cases pre with
    | nil => exact ev_neg (by simp) (next acc (by simp [bar]) (by omega))
    | cons p pre =>
      have e1 : (⟨#[124]⟩ : ByteArray).size = 1 := rfl
      refine ev_pos (by simp only [List.length_cons]; omega) (ev_pos (by omega) (next _ ?_ ?_))
      · rw [data_app]; simp [bar]
      · rw [ByteArray.size_append, e1]; omega
theorem spec_FormatRanges_ev (l : List S57) (hl : l.length ≤ 1048576) (hg : ∀ x ∈ l, GR x) : Ev (fun k => spec_FormatRanges.f k l) ⟨(fj l false []).toArray⟩ := by
  simp only [spec_FormatRanges.f]
  have z := spec_FR_l0 l [] ⟨#[]⟩ (by simpa using hl) hg (by show 0 + _ ≤ _; omega)
  exact z
theorem fj_join (l : List S57) : ∀ a, fj l true a = a ++ Lib.joinTail [124] (l.map rL) := by
  induction l with
  | nil => intro a; simp [fj, Lib.joinTail]
  | cons x l ih => intro a; rw [fj, ih]; simp [Lib.joinTail, bar]
theorem fj_join0 (l : List S57) : fj l false [] = Lib.join (l.map rL) [124] := by
  cases l with
  | nil => rfl
  | cons x l => rw [fj, fj_join, List.map_cons, Lib.join_cons]; simp [bar]
theorem joinTail_len (l : List S57) (hg : ∀ x ∈ l, GR x) : (Lib.joinTail [124] (l.map rL)).length ≤ 45 * l.length := by
  induction l with
  | nil => simp [Lib.joinTail]
  | cons x l ih =>
    have h1 := ih fun y hy => hg y (List.mem_cons_of_mem _ hy)
    have h2 := rL_len (hg x List.mem_cons_self)
    simp only [Lib.joinTail, List.map_cons, List.flatten_cons, List.length_append, List.length_cons, List.length_nil] at h1 ⊢
    omega
theorem join_len (l : List S57) (hg : ∀ x ∈ l, GR x) : (Lib.join (l.map rL) [124]).length ≤ 45 * l.length := by
  cases l with
  | nil => simp [Lib.join_nil]
  | cons x l =>
    have h1 := joinTail_len l fun y hy => hg y (List.mem_cons_of_mem _ hy)
    have h2 := rL_len (hg x List.mem_cons_self)
    rw [List.map_cons, Lib.join_cons, List.length_append, List.length_cons]
    omega
def rS (x : S57) : ByteArray := ⟨(rL x).toArray⟩
theorem join_ev (l : List S57) (hl : l.length ≤ 1048576) (hg : ∀ x ∈ l, GR x) : strings_Join.f (l.map rS) ⟨#[124]⟩ = some ⟨(fj l false []).toArray⟩ := by
  have h1 := join_len l hg
  have e : (l.map rS).map (·.data.toList) = l.map rL := by rw [List.map_map]; rfl
  unfold strings_Join.f
  rw [e, fj_join0, if_pos (by rw [List.length_map]; omega), if_pos (by show (Lib.join (l.map rL) [124]).length ≤ _; omega)]
theorem impl_FR_l0 : ∀ (suf pre : List S57) (hb : (pre ++ suf).length ≤ 1048576) (hg : ∀ x ∈ pre ++ suf, GR x), Ev (fun k => impl_FormatRanges.l0 k (pre.map rS) (pre ++ suf) ((pre ++ suf).length : Int) (pre.length : Int)) ⟨(fj (pre ++ suf) false []).toArray⟩
  | [], pre, hb, hg => by
    refine Ev.step (fun k => by rw [impl_FormatRanges.l0]) ?_
    rw [List.append_nil] at hb hg ⊢
    exact ev_neg (by simp) (ev_let _ (join_ev pre hb hg) (ev_const rfl))
  | x :: suf, pre, hb, hg => by
    have ex : rd_T57 (pre ++ x :: suf) (pre.length : Int) = x := by unfold rd_T57; exact at_pre pre suf x _
    have hb' := hb
    simp only [List.length_append, List.length_cons] at hb'
    have gx := hg x (by simp)
    have s0 := itoaS_size gx.1
    have s1 := itoaS_size gx.2
    have hlt : ((pre.length : Int)) < ((pre ++ x :: suf).length : Int) := by simp only [List.length_append, List.length_cons]; omega
    refine Ev.step (fun k => by rw [impl_FormatRanges.l0]) (ev_pos hlt (ev_pos (by omega) (ev_pos hlt ?_)))
    rw [ex, next_pre pre x (by omega)]
    have z := impl_FR_l0 suf (pre ++ [x]) (by simpa using hb) (by simpa using hg)
    rw [List.append_assoc, List.map_append] at z
    refine ev_let _ (impl_FormatInt_eq _ gx.1.1 gx.1.2) (ev_ite (fun h => ev_pos (by rw [List.length_map]; omega) ?_) (fun h => ?_))
    · have e : [itoaS x.f0] = List.map rS [x] := by
        rw [List.map_cons, List.map_nil, rS, rL, if_pos h, List.append_nil]; rfl
      rw [e]; exact z
    · have e2 : (⟨#[46, 46]⟩ : ByteArray).size = 2 := rfl
      refine ev_let _ (impl_FormatInt_eq _ gx.2.1 gx.2.2) (ev_pos (by omega) (ev_pos (by rw [ByteArray.size_append, e2]; omega) (ev_pos (by rw [List.length_map]; omega) ?_)))
      have e : [itoaS x.f0 ++ ((⟨#[46, 46]⟩ : ByteArray) ++ itoaS x.f1)] = List.map rS [x] := by
        rw [List.map_cons, List.map_nil]
        refine congrArg (· :: []) (bytes_ext ?_)
        rw [data_app, data_app, itoaS_data, itoaS_data]
        show _ = rL x
        rw [rL, if_neg h]
      rw [e]; exact z
theorem impl_FormatRanges_ev (l : List S57) (hl : l.length ≤ 1048576) (hg : ∀ x ∈ l, GR x) : Ev (fun k => impl_FormatRanges.f k l) ⟨(fj l false []).toArray⟩ := by
  simp only [impl_FormatRanges.f]
  exact impl_FR_l0 l [] (by simpa using hl) (by simpa using hg)

theorem cv_good {l : List S59} (h : ∀ y ∈ l, G59 y) : ∀ x ∈ cvl59 l, GR x := by
  intro x hx
  rw [cvl59_map] at hx
  obtain ⟨y, hy, rfl⟩ := List.mem_map.1 hx
  have g := h y hy
  exact ⟨wf_i64 g.1, wf_i64 g.2⟩
theorem FnExactFormatRanges : laws_FnExactFormatRanges.Pure := by
  rintro l g
  refine Ev.rounds ?_
  simp only [laws_FnExactFormatRanges.f]
  refine sz_guard (szRangeS_ok l 1048576 g (by omega) (by omega)) (fun z hz ez => ?_)
  have hc : (cvl59 l).length ≤ 1048576 := by rw [cvl59_length]; omega
  have hg := cv_good g.2
  refine ev_bind _ (toRangeS_ev l (by omega)) (ev_bind _ (spec_FormatRanges_ev _ hc hg) ?_)
  refine ev_bind _ (toRangeS_ev l (by omega)) (ev_bind _ (impl_FormatRanges_ev _ hc hg) ?_)
  refine ev_pos rfl ?_
  refine ev_bind _ (toRangeS_ev l (by omega)) (ev_bind _ (eqRangeS_ev _ (by omega)) ?_)
  exact ev_pos rfl (ev_const rfl)

end Go.Proofs.YtmkhoakhfdjplaaDoor.Pure.LFnExactFormatRanges
namespace Go.Proofs.YtmkhoakhfdjplaaDoor.Pure
theorem FnExactFormatRanges : PFnExactFormatRanges.laws_FnExactFormatRanges.Pure := LFnExactFormatRanges.FnExactFormatRanges
end Go.Proofs.YtmkhoakhfdjplaaDoor.Pure
