/- For every worth, the program's AtomsOf returns what the reference's AtomsOf returns, and marks laid into the result stay. -/
import Derived.Test.YtmkhoakhfdjplaaDoorPFnExactAtomsOfx0
import Derived.Test.YtmkhoakhfdjplaaDoorPFnExactAtomsOfx1
import Derived.Test.YtmkhoakhfdjplaaDoorPFnExactAtomsOfx2
import Derived.Test.YtmkhoakhfdjplaaDoorPFnExactAtomsOfx3
import Derived.Test.YtmkhoakhfdjplaaDoorQFnExactAtomsOf
import Derived.Test.YtmkhoakhfdjplaaDoorBase
import Derived.Test.YtmkhoakhfdjplaaDoorExt
namespace Go.Proofs.YtmkhoakhfdjplaaDoor.Pure.LFnExactAtomsOf
open Go.RowKit Go.Proofs.YtmkhoakhfdjplaaDoor.PFnExactAtomsOf Go.Proofs.YtmkhoakhfdjplaaDoorW.PrintWords Go.Proofs.YtmkhoakhfdjplaaDoorW.PrintLast Go.Proofs.YtmkhoakhfdjplaaDoorW.PrintMore Go.Proofs.YtmkhoakhfdjplaaDoor.Base
set_option linter.unusedVariables false
set_option linter.unusedSimpArgs false

/-! #### the law's own helpers -/
def mustr : List ByteArray → Nat
  | [] => 0
  | x :: l => x.size + mustr l
theorem mustr_mem {l : List ByteArray} {x : ByteArray} (h : x ∈ l) : x.size ≤ mustr l := by
  induction l with
  | nil => cases h
  | cons y l ih =>
    simp only [mustr]
    rcases List.mem_cons.1 h with rfl | h
    · omega
    · have := ih h; omega
theorem mustr_append (l l' : List ByteArray) : mustr (l ++ l') = mustr l + mustr l' := by
  induction l with
  | nil => simp [mustr]
  | cons x l ih => simp only [List.cons_append, mustr, ih]; omega
theorem szStringS_l0 : ∀ (suf pre : List ByteArray) (left : Int) (hb : (pre ++ suf).length ≤ maxLen) (g : ∀ y ∈ suf, y.size ≤ maxLen) (h0 : 0 ≤ left) (h1 : left ≤ 1048576), SzOk (fun k => laws_szStringS.l0 k (pre ++ suf) left (pre.length : Int)) left (mustr suf)
  | [], pre, left, hb, g, h0, h1 => by
    refine sz_step (fun k => by rw [laws_szStringS.l0]) ?_
    refine sz_neg (by simp) ?_
    exact sz_ret _ h0
  | x :: suf, pre, left, hb, g, h0, h1 => by
    have gx := g x List.mem_cons_self
    have ex : rdOf ByteArray.empty (pre ++ x :: suf) (pre.length : Int) = x := by unfold rdOf; exact at_pre pre suf x _
    refine sz_step (fun k => by rw [laws_szStringS.l0]) ?_
    refine sz_pos (by simp only [List.length_append, List.length_cons]; omega) (sz_pos (by omega) ?_)
    rw [ex]
    rw [mustr]
    have e : wrap64 (left - (x.size : Int)) = left - (x.size : Int) := w64 (by have := gx; unfold maxLen at this; omega) (by omega)
    simp only [e]; clear e
    refine sz_len ?_; intro q
    generalize ec : left - (x.size : Int) = c0 at q ⊢
    have q' : c0 ≤ 1048576 := by omega
    rw [next_pre pre x (by have := hb; simp only [List.length_append, List.length_cons] at this; unfold maxLen at this; omega)]
    have z := szStringS_l0 suf (pre ++ [x]) c0 (by simpa using hb) (fun y hy => g y (List.mem_cons_of_mem _ hy)) (by assumption) (by omega)
    rw [List.append_assoc] at z
    exact z
theorem szStringS_ok (l : List ByteArray) (left : Int) (g : l.length ≤ maxLen ∧ ∀ y ∈ l, y.size ≤ maxLen) (h0 : 0 ≤ left) (h1 : left ≤ 1048576) : SzOk (fun k => laws_szStringS.f k l left) left (l.length + mustr l) := by
  simp only [laws_szStringS.f]
  have e : wrap64 (left - (l.length : Int)) = left - (l.length : Int) := w64 (by have := g.1; unfold maxLen at this; omega) (by omega)
  simp only [e]; clear e
  refine sz_len ?_; intro q
  generalize ec : left - (l.length : Int) = c0 at q ⊢
  have q' : c0 ≤ 1048576 := by omega
  exact szStringS_l0 l [] c0 (by simpa using g.1) g.2 (by assumption) (by assumption)
theorem szWorth_ok (v0 : Int) (v1 : Int) (v2 : ByteArray) (v3 : Bool) (v4 : List ByteArray) (left : Int) (g2 : v2.size ≤ maxLen) (g4 : v4.length ≤ maxLen ∧ ∀ y ∈ v4, y.size ≤ maxLen) (h0 : 0 ≤ left) (h1 : left ≤ 1048576) : SzOk (fun k => laws_szWorth.f k v0 v1 v2 v3 v4 left) left (v2.size + ((v4.length + mustr v4) + 0)) := by
  simp only [laws_szWorth.f]
  have e : wrap64 (left - (v2.size : Int)) = left - (v2.size : Int) := w64 (by have := g2; unfold maxLen at this; omega) (by omega)
  simp only [e]; clear e
  refine sz_len ?_; intro q
  generalize ec : left - (v2.size : Int) = c0 at q ⊢
  have q' : c0 ≤ 1048576 := by omega
  refine sz_call (szStringS_ok _ _ g4 (by assumption) (by omega)) ?_; intro c1 q ec
  have q' : c1 ≤ 1048576 := by omega
  exact sz_ret _ (by assumption)
theorem toStringS_l0 : ∀ (suf pre : List ByteArray) (hb : (pre ++ suf).length ≤ 1048576) (hm : mustr suf ≤ 1048576), Ev (fun k => laws_toStringS.l0 k (pre ++ suf) (pre ++ List.replicate suf.length (⟨#[]⟩ : ByteArray)) (pre.length : Int)) (pre ++ suf)
  | [], pre, hb, hm => by
    refine Ev.step (fun k => by rw [laws_toStringS.l0]) ?_
    refine ev_neg (by simp) (ev_const ?_)
    simp
  | x :: suf, pre, hb, hm => by
    have ex : rdOf ByteArray.empty (pre ++ x :: suf) (pre.length : Int) = x := by unfold rdOf; exact at_pre pre suf x _
    have hb' := hb
    simp only [List.length_append, List.length_cons] at hb'
    rw [mustr] at hm
    refine Ev.step (fun k => by rw [laws_toStringS.l0]) ?_
    refine ev_pos (by simp only [List.length_append, List.length_cons]; omega) (ev_pos (by omega) ?_)
    rw [ex]
    refine ev_pos (by simp only [List.length_append, List.length_replicate, List.length_cons]; omega) ?_
    have es : (pre ++ List.replicate (x :: suf).length (⟨#[]⟩ : ByteArray)).set ((pre.length : Int)).toNat x = (pre ++ [x]) ++ List.replicate suf.length (⟨#[]⟩ : ByteArray) := by
      rw [List.length_cons, List.replicate_succ]; exact set_pre pre _ _ x
    rw [es]
    rw [next_pre pre x (by omega)]
    have z := toStringS_l0 suf (pre ++ [x]) (by simpa using hb) (by omega)
    rw [List.append_assoc] at z
    simpa using z
theorem toStringS_ev (l : List ByteArray) (hm : (l.length + mustr l) ≤ 1048576) : Ev (fun k => laws_toStringS.f k l) l := by
  simp only [laws_toStringS.f]
  have hl : l.length ≤ 1048576 := by omega
  refine ev_pos (by omega) (ev_pos (by omega) ?_)
  have z := toStringS_l0 l [] (by simpa using hl) (by omega)
  simpa using z
theorem toWorth_ev (v0 : Int) (v1 : Int) (v2 : ByteArray) (v3 : Bool) (v4 : List ByteArray) (hm : (v2.size + ((v4.length + mustr v4) + 0)) ≤ 1048576) : Ev (fun k => laws_toWorth.f k v0 v1 v2 v3 v4) (v0, v1, v2, v3, v4) := by
  simp only [laws_toWorth.f]
  refine ev_bind _ (toStringS_ev _ (by omega)) ?_
  exact ev_const rfl
theorem eqStringS_l0 : ∀ (suf pre : List ByteArray) (hb : (pre ++ suf).length ≤ 4611686018427387904) (hm : True), Ev (fun k => laws_eqStringS.l0 k (pre ++ suf) (pre ++ suf) (pre.length : Int)) true
  | [], pre, hb, hm => by
    refine Ev.step (fun k => by rw [laws_eqStringS.l0]) ?_
    exact ev_neg (by simp) (ev_const rfl)
  | x :: suf, pre, hb, hm => by
    have ex : rdOf ByteArray.empty (pre ++ x :: suf) (pre.length : Int) = x := by unfold rdOf; exact at_pre pre suf x _
    have hb' := hb
    simp only [List.length_append, List.length_cons] at hb'
    refine Ev.step (fun k => by rw [laws_eqStringS.l0]) ?_
    refine ev_pos (by simp only [List.length_append, List.length_cons]; omega) (ev_pos (by omega) (ev_pos (by simp only [List.length_append, List.length_cons]; omega) ?_))
    rw [ex]
    refine ev_pos (by simp) ?_
    rw [next_pre pre x (by omega)]
    have z := eqStringS_l0 suf (pre ++ [x]) (by simpa using hb) trivial
    rw [List.append_assoc] at z
    exact z
theorem eqStringS_ev (l : List ByteArray) (hm : l.length ≤ 4611686018427387904) : Ev (fun k => laws_eqStringS.f k l l) true := by
  simp only [laws_eqStringS.f]
  refine ev_pos (by simp) ?_
  exact eqStringS_l0 l [] (by rw [List.nil_append]; omega) trivial
theorem eqWorth_ev (v0 : Int) (v1 : Int) (v2 : ByteArray) (v3 : Bool) (v4 : List ByteArray) (hm : (v2.size + ((v4.length + mustr v4) + 0)) ≤ 4611686018427387904) : Ev (fun k => laws_eqWorth.f k v0 v1 v2 v3 v4 v0 v1 v2 v3 v4) true := by
  simp only [laws_eqWorth.f]
  refine ev_pos (by simp) ?_
  refine ev_pos (by simp) ?_
  refine ev_pos (by simp) ?_
  refine ev_neg (by simp) ?_
  refine ev_bind _ (eqStringS_ev _ (by omega)) (ev_pos (by simp) ?_)
  exact ev_const rfl

/-! #### mItoa -/
/-! decimal numerals -/
def itoaS (n : Int) : ByteArray := ⟨(Lib.itoa n).toArray⟩
def digs (u : Nat) : List UInt8 := if u = 0 then [] else Lib.decDigits u
theorem digs_step {u : Nat} (h : u ≠ 0) : digs u = digs (u / 10) ++ [UInt8.ofNat (48 + u % 10)] := by
  unfold digs
  rw [if_neg h]
  by_cases h2 : u < 10
  · rw [if_pos (show u / 10 = 0 by omega), Lib.decDigits_one h2, Nat.mod_eq_of_lt h2]; rfl
  · rw [if_neg (show ¬ u / 10 = 0 by omega), Lib.decDigits, dif_neg h2]
theorem impl_FormatInt_eq (n : Int) (h0 : -9223372036854775808 ≤ n) (h1 : n ≤ 9223372036854775807) : impl_FormatInt.f n = some (itoaS n) := by
  unfold impl_FormatInt.f strconv_Itoa.f
  rw [if_pos h0, if_pos h1]; rfl

/-! #### spec_FormatInt -/
def finS (n : Int) (l : List UInt8) : ByteArray := ⟨((if n < 0 then [45] else []) ++ l).toArray⟩
theorem data_app (a b : ByteArray) : (a ++ b).data.toList = a.data.toList ++ b.data.toList := by rw [ByteArray.data_append]; simp
theorem spec_FormatInt_l0 (n : Int) : ∀ (d : Nat) (x : Int) (s : ByteArray), x.natAbs < 10 ^ d → x.natAbs ≤ 9223372036854775808 → s.size + d ≤ 100 → Ev (fun k => spec_FormatInt.l0 k n s x) (finS n (digs x.natAbs ++ s.data.toList)) := by
  have done : ∀ (s : ByteArray), s.size ≤ 100 → Ev (fun k => spec_FormatInt.l0 k n s 0) (finS n (digs (0 : Int).natAbs ++ s.data.toList)) := by
    intro s hs
    refine Ev.step (fun k => by rw [spec_FormatInt.l0]) (ev_pos rfl ?_)
    refine ev_ite (fun h => ev_pos (by omega) (ev_const ?_)) (fun h => ev_const ?_)
    · refine congrArg some (bytes_ext ?_)
      rw [data_app]; simp [finS, h, digs]
    · refine congrArg some (bytes_ext ?_)
      simp [finS, h, digs]
  intro d
  induction d with
  | zero =>
    intro x s hx hb hs
    have : x = 0 := by simp at hx; omega
    subst this
    exact done s (by omega)
  | succ d ih =>
    intro x s hx hb hs
    by_cases h0 : x = 0
    · subst h0; exact done s (by omega)
    have hc : ∀ c : Int, c = ((48 + x.natAbs % 10 : Nat) : Int) → (strOfNums [c] ++ s).data.toList = UInt8.ofNat (48 + x.natAbs % 10) :: s.data.toList ∧ (strOfNums [c]).size = 1 ∧ (strOfNums [c] ++ s).size = s.size + 1 := by
      intro c hc
      subst hc
      have e1 : (strOfNums [((48 + x.natAbs % 10 : Nat) : Int)]).size = 1 := by rw [size_str]; rfl
      refine ⟨?_, e1, by rw [ByteArray.size_append, e1]; omega⟩
      rw [data_app]
      show [UInt8.ofNat (((48 + x.natAbs % 10 : Nat) : Int)).toNat] ++ _ = _
      rw [Int.toNat_natCast]; rfl
    have hd : (Int.tdiv x 10).natAbs = x.natAbs / 10 := by rw [Int.natAbs_tdiv]; rfl
    have hp : x.natAbs / 10 < 10 ^ d := by rw [Nat.pow_succ] at hx; omega
    have next : ∀ c : Int, c = ((48 + x.natAbs % 10 : Nat) : Int) → wrap64 (Int.tdiv x 10) = Int.tdiv x 10 → Ev (fun k => (some ([c] : List Int)).bind fun y => (if (strOfNums y).size + s.size ≤ 9223372036854775807 then spec_FormatInt.l0 k n (strOfNums y ++ s) (wrap64 (Int.tdiv x 10)) else none)) (finS n (digs x.natAbs ++ s.data.toList)) := by
      intro c hc' hw
      obtain ⟨h1, h2, h3⟩ := hc c hc'
      refine ev_let _ rfl (ev_pos (by rw [h2]; omega) ?_)
      rw [hw]
      have z := ih (Int.tdiv x 10) (strOfNums [c] ++ s) (by rw [hd]; exact hp) (by rw [hd]; omega) (by rw [h3]; omega)
      rw [hd, h1] at z
      rw [digs_step (show x.natAbs ≠ 0 by omega), List.append_assoc]
      exact z
    refine Ev.step (fun k => by rw [spec_FormatInt.l0]) (ev_neg h0 ?_)
    have q1 : ∀ m : Nat, Int.tmod (m : Int) 10 = ((m % 10 : Nat) : Int) := fun _ => rfl
    have q2 : ∀ m : Nat, Int.tdiv (m : Int) 10 = ((m / 10 : Nat) : Int) := fun _ => rfl
    rcases Int.natAbs_eq x with hx' | hx'
    · have e1 : Int.tmod x 10 = ((x.natAbs % 10 : Nat) : Int) := by conv => lhs; rw [hx', q1]
      have e2 : Int.tdiv x 10 = ((x.natAbs / 10 : Nat) : Int) := by conv => lhs; rw [hx', q2]
      rw [e1]
      refine ev_neg (by omega) (next _ ?_ (by rw [e2]; exact w64 (by omega) (by omega)))
      rw [w64 (by omega) (by omega)]; omega
    · have e1 : Int.tmod x 10 = -((x.natAbs % 10 : Nat) : Int) := by conv => lhs; rw [hx', Int.neg_tmod, q1]
      have e2 : Int.tdiv x 10 = -((x.natAbs / 10 : Nat) : Int) := by conv => lhs; rw [hx', Int.neg_tdiv, q2]
      rw [e1]
      by_cases h1 : x.natAbs % 10 = 0
      · rw [h1]
        refine ev_neg (by omega) (next _ ?_ (by rw [e2]; exact w64 (by omega) (by omega)))
        rw [h1, w64 (by omega) (by omega)]; omega
      · refine ev_pos (by omega) (next _ ?_ (by rw [e2]; exact w64 (by omega) (by omega)))
        rw [Int.neg_neg, w64 (x := ((x.natAbs % 10 : Nat) : Int)) (by omega) (by omega), w64 (by omega) (by omega)]; omega
theorem finS_eq {n : Int} (h : n ≠ 0) : finS n (digs n.natAbs ++ (⟨#[]⟩ : ByteArray).data.toList) = itoaS n := by
  unfold finS itoaS Lib.itoa digs
  rw [if_neg (show ¬ n.natAbs = 0 by omega)]
  by_cases h1 : n < 0
  · simp [h1]
  · simp [h1, show n.natAbs = n.toNat by omega]
theorem itoaS_zero : itoaS 0 = ⟨#[48]⟩ := by
  unfold itoaS Lib.itoa
  rw [if_neg (by decide), show (0 : Int).toNat = 0 from rfl, Lib.decDigits_one (by decide)]; rfl
theorem spec_FormatInt_ev (n : Int) (h0 : -9223372036854775808 ≤ n) (h1 : n ≤ 9223372036854775807) : Ev (fun k => spec_FormatInt.f k n) (itoaS n) := by
  simp only [spec_FormatInt.f]
  by_cases h : n = 0
  · subst h
    exact ev_pos rfl (ev_const (by rw [itoaS_zero]))
  · refine ev_neg h ?_
    rw [← finS_eq h]
    exact spec_FormatInt_l0 n 19 n ⟨#[]⟩ (by have e : (10 : Nat) ^ 19 = 10000000000000000000 := by decide
                                             omega) (by omega) (by show 0 + 19 ≤ 100; omega)

/-! #### markText -/
/-! the law's own marks -/
theorem markText_l0 : ∀ (n : Nat) (x : Int) (t : ByteArray) (h0 : 0 ≤ x) (hn : x ≤ n) (ht : t.size + n ≤ 1099511627776), ∃ r, Ev (fun k => laws_markText.l0 k x t) r := by
  intro n
  induction n using Nat.strongRecOn with
  | ind n ih =>
  intro x t h0 hn ht
  by_cases hx : x > 0
  · have e1 : (strOfNums [wrap64 (48 + Int.tmod x 10) % 256]).size = 1 := by rw [size_str]; rfl
    have e2 : Int.tdiv x 10 = x / 10 := Int.tdiv_eq_ediv_of_nonneg h0
    have e3 : wrap64 (Int.tdiv x 10) = x / 10 := by rw [e2, w64 (by omega) (by omega)]
    have e4 : (strOfNums [wrap64 (48 + Int.tmod x 10) % 256] ++ t).size = 1 + t.size := by rw [ByteArray.size_append, e1]
    obtain ⟨r, z⟩ := ih (x / 10).toNat (by omega) (x / 10) (strOfNums [wrap64 (48 + Int.tmod x 10) % 256] ++ t) (by omega) (by omega) (by rw [e4]; omega)
    refine ⟨r, Ev.step (fun k => by rw [laws_markText.l0]) ?_⟩
    rw [e3]
    exact ev_pos hx (ev_let _ rfl (ev_pos (by rw [e1]; omega) z))
  · refine ⟨(⟨#[109]⟩ : ByteArray) ++ t, Ev.step (fun k => by rw [laws_markText.l0]) ?_⟩
    exact ev_neg hx (ev_pos (by omega) (ev_const rfl))
theorem markText_ex (x : Int) (h : x ≤ 1000000000000) : ∃ r, Ev (fun k => laws_markText.f k x) r := by
  simp only [laws_markText.f]
  by_cases hx : x ≤ 0
  · exact ⟨_, ev_pos hx (ev_const rfl)⟩
  · obtain ⟨r, z⟩ := markText_l0 x.toNat x ⟨#[]⟩ (by omega) (by omega) (by show 0 + _ ≤ _; omega)
    exact ⟨r, ev_neg hx z⟩
noncomputable def mt (x : Int) : ByteArray := @Classical.epsilon ByteArray ⟨⟨#[]⟩⟩ (fun t => Ev (fun k => laws_markText.f k x) t)
theorem markText_ev (x : Int) (h : x ≤ 1000000000000) : Ev (fun k => laws_markText.f k x) (mt x) := Classical.epsilon_spec (markText_ex x h)

/-! #### markStrings -/
noncomputable def mkS : Int → List ByteArray → List ByteArray
  | _, [] => []
  | x, _ :: l => mt x :: mkS (x + 1) l
theorem mkS_length (x : Int) (l : List ByteArray) : (mkS x l).length = l.length := by
  induction l generalizing x with
  | nil => rfl
  | cons y l ih => simp only [mkS, List.length_cons, ih]
theorem mark_S_l0 : ∀ (suf pre : List ByteArray) (x : Int) (hb : (pre ++ suf).length ≤ 4611686018427387904) (h0 : 0 ≤ x) (hx : x + suf.length ≤ 100000000), Ev (fun k => laws_markStringS.l0 k (pre ++ suf) x (pre.length : Int)) (x + suf.length, pre ++ mkS x suf)
  | [], pre, x, hb, h0, hx => by
    refine Ev.step (fun k => by rw [laws_markStringS.l0]) ?_
    exact ev_neg (by simp) (ev_const (by simp [mkS]))
  | y :: suf, pre, x, hb, h0, hx => by
    have st : ∀ v w : ByteArray, (pre ++ v :: suf).set ((pre.length : Int)).toNat w = pre ++ w :: suf := fun v w => by rw [set_pre]; simp
    have hb' := hb
    simp only [List.length_append, List.length_cons] at hb' hx
    have w1 : wrap64 (x + 1) = x + 1 := w64 (by omega) (by omega)
    have z := mark_S_l0 suf (pre ++ [mt x]) (x + 1) (by simpa using hb) (by omega) (by omega)
    rw [List.append_assoc, List.singleton_append, List.append_assoc, List.singleton_append] at z
    refine Ev.step (fun k => by rw [laws_markStringS.l0]) ?_
    refine ev_pos (by simp only [List.length_append, List.length_cons]; omega) (ev_bind _ (markText_ev x (by omega)) (ev_pos (by omega) ?_))
    rw [st, next_pre pre y (by omega), w1]
    have e : x + ((y :: suf).length : Int) = x + 1 + (suf.length : Int) := by simp only [List.length_cons]; omega
    rw [e, show (pre ++ [y]).length = (pre ++ [mt x]).length by simp]
    exact z
theorem markStringS_ev (l : List ByteArray) (x : Int) (hb : l.length ≤ 4611686018427387904) (h0 : 0 ≤ x) (hx : x + l.length ≤ 100000000) : Ev (fun k => laws_markStringS.f k l x) (x + (l.length : Int), mkS x l) := by
  simp only [laws_markStringS.f]
  exact mark_S_l0 l [] x (by simpa using hb) h0 hx
theorem held_S_l0 : ∀ (suf pre : List ByteArray) (x : Int) (hb : (pre ++ suf).length ≤ 4611686018427387904) (h0 : 0 ≤ x) (hx : x + suf.length ≤ 100000000), Ev (fun k => laws_heldStringS.l0 k (pre ++ mkS x suf) x (pre.length : Int)) (x + suf.length)
  | [], pre, x, hb, h0, hx => by
    refine Ev.step (fun k => by rw [laws_heldStringS.l0]) ?_
    exact ev_neg (by simp [mkS]) (ev_const (by simp))
  | y :: suf, pre, x, hb, h0, hx => by
    have hl := mkS_length (x + 1) suf
    have hb' := hb
    simp only [List.length_append, List.length_cons] at hb' hx
    have rd : rdOf ByteArray.empty (pre ++ mt x :: mkS (x + 1) suf) (pre.length : Int) = mt x := by unfold rdOf; exact at_pre pre _ _ _
    have w1 : wrap64 (x + 1) = x + 1 := w64 (by omega) (by omega)
    have z := held_S_l0 suf (pre ++ [mt x]) (x + 1) (by simpa using hb) (by omega) (by omega)
    rw [List.append_assoc, List.singleton_append, ← next_pre pre _ (by omega)] at z
    refine Ev.step (fun k => by rw [laws_heldStringS.l0]) ?_
    rw [mkS]
    refine ev_pos (by simp only [List.length_append, List.length_cons]; omega) (ev_pos (by omega) (ev_bind _ (markText_ev x (by omega)) ?_))
    rw [rd, w1]
    refine ev_pos rfl ?_
    have e : x + ((y :: suf).length : Int) = x + 1 + (suf.length : Int) := by simp only [List.length_cons]; omega
    rw [e]
    exact z
theorem heldStringS_ev (l : List ByteArray) (x : Int) (hb : l.length ≤ 4611686018427387904) (h0 : 0 ≤ x) (hx : x + l.length ≤ 100000000) : Ev (fun k => laws_heldStringS.f k (mkS x l) x) (x + (l.length : Int)) := by
  simp only [laws_heldStringS.f]
  exact held_S_l0 l [] x (by simpa using hb) h0 hx

theorem wf_i64 {n : Int} (h : (Lit.int .i64 n).wf = true) : -9223372036854775808 ≤ n ∧ n ≤ 9223372036854775807 := by
  simpa [Lit.wf, IntKind.min, IntKind.max, IntKind.signed, IntKind.bits] using h
theorem atoms_ex (a b : Int) (c : ByteArray) (d : Bool) (e : List ByteArray) (hb : -9223372036854775808 ≤ b ∧ b ≤ 9223372036854775807) (he : e.length ≤ 1048576) :
    ∃ r, r.length ≤ 1048576 ∧ Ev (fun k => spec_AtomsOf.f k a b c d e) r ∧ impl_AtomsOf.f a b c d e = some r := by
  simp only [spec_AtomsOf.f, impl_AtomsOf.f]
  by_cases h1 : a = 1
  · exact ⟨[itoaS b], by simp, ev_pos h1 (ev_bind _ (spec_FormatInt_ev b hb.1 hb.2) (ev_const rfl)), by rw [if_pos h1, impl_FormatInt_eq b hb.1 hb.2]; rfl⟩
  by_cases h2 : a = 2
  · exact ⟨[c], by simp, ev_neg h1 (ev_pos h2 (ev_const rfl)), by rw [if_neg h1, if_pos h2]⟩
  by_cases h3 : a = 3
  · cases d with
    | true => exact ⟨_, by simp, ev_neg h1 (ev_neg h2 (ev_pos h3 (ev_pos rfl (ev_const rfl)))), by rw [if_neg h1, if_neg h2, if_pos h3, if_pos rfl]⟩
    | false => exact ⟨_, by simp, ev_neg h1 (ev_neg h2 (ev_pos h3 (ev_neg (by simp) (ev_const rfl)))), by rw [if_neg h1, if_neg h2, if_pos h3, if_neg (by simp)]⟩
  by_cases h4 : a = 4
  · refine ⟨[] ++ e, by simpa using he, ev_neg h1 (ev_neg h2 (ev_neg h3 (ev_pos h4 (ev_let _ rfl (ev_pos (by simp; omega) (ev_const rfl)))))), ?_⟩
    rw [if_neg h1, if_neg h2, if_neg h3, if_pos h4, Option.bind_some, if_pos (by simp; omega)]
  · exact ⟨[], by simp, ev_neg h1 (ev_neg h2 (ev_neg h3 (ev_neg h4 (ev_const rfl)))), by rw [if_neg h1, if_neg h2, if_neg h3, if_neg h4]⟩
theorem FnExactAtomsOf : laws_FnExactAtomsOf.Pure := by
  rintro ⟨a, b, c, d, e⟩ ⟨_, g1, g2, _, g4⟩
  refine Ev.rounds ?_
  show Ev (fun k => laws_FnExactAtomsOf.f k a b c d e) true
  simp only [laws_FnExactAtomsOf.f]
  refine sz_guard (szWorth_ok a b c d e 1048576 g2 g4 (by omega) (by omega)) (fun z hz ez => ?_)
  obtain ⟨r, hl, h1, h2⟩ := atoms_ex a b c d e (wf_i64 g1) (by omega)
  have tw := toWorth_ev a b c d e (by omega)
  have es := eqStringS_ev r (by omega)
  refine ev_bind _ tw (ev_bind _ h1 (ev_bind _ tw (ev_let _ h2 (ev_bind _ es (ev_pos rfl ?_)))))
  refine ev_bind _ tw (ev_bind _ (eqWorth_ev a b c d e (by omega)) (ev_pos rfl ?_))
  have mw : Ev (fun k => laws_markWorth.f k a b c d e 1) (1 + (e.length : Int), mkS 1 e) := by
    simp only [laws_markWorth.f]
    exact ev_bind _ (markStringS_ev e 1 (by omega) (by omega) (by omega)) (ev_const rfl)
  refine ev_bind _ mw (ev_neg (show ¬ (1 + (e.length : Int) < 0) by omega) (ev_bind _ es ?_))
  have hm := markStringS_ev r 1 (by omega) (by omega) (by omega)
  have hh := heldStringS_ev r 1 (by omega) (by omega) (by omega)
  refine Ev.step (fun k => by rw [laws_FnExactAtomsOf.j0]) (ev_neg (by simp) (ev_bind _ hm ?_))
  refine ev_bind _ hh ?_
  refine ev_neg (show ¬ (1 + (r.length : Int) < 0) by omega) (ev_pos rfl ?_)
  refine ev_bind _ tw (ev_let _ h2 (ev_bind _ es (ev_pos rfl ?_)))
  refine ev_bind _ hh ?_
  exact ev_neg (show ¬ (1 + (r.length : Int) < 0) by omega) (ev_pos rfl (ev_const rfl))

end Go.Proofs.YtmkhoakhfdjplaaDoor.Pure.LFnExactAtomsOf
namespace Go.Proofs.YtmkhoakhfdjplaaDoor.Pure
theorem FnExactAtomsOf : PFnExactAtomsOf.laws_FnExactAtomsOf.Pure := LFnExactAtomsOf.FnExactAtomsOf
end Go.Proofs.YtmkhoakhfdjplaaDoor.Pure
