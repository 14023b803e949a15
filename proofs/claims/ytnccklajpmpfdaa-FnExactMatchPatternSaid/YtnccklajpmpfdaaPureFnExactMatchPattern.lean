/- For every pattern and string, the program's MatchPattern returns what the reference's MatchPattern returns. -/
import Derived.Test.YtnccklajpmpfdaaPFnExactMatchPatternx0
import Derived.Test.YtnccklajpmpfdaaPFnExactMatchPatternx1
import Derived.Test.YtnccklajpmpfdaaPFnExactMatchPatternx2
import Derived.Test.YtnccklajpmpfdaaPFnExactMatchPatternx3
import Derived.Test.YtnccklajpmpfdaaPFnExactMatchPatternx4
import Derived.Test.YtnccklajpmpfdaaPFnExactMatchPatternx5
import Derived.Test.YtnccklajpmpfdaaPFnExactMatchPatternx6
import Derived.Test.YtnccklajpmpfdaaQFnExactMatchPattern
import Derived.Test.YtnccklajpmpfdaaBase
import Derived.Lib.Bytealg
namespace Go.Proofs.Ytnccklajpmpfdaa.Pure.LFnExactMatchPattern
open Go.RowKit Go.Proofs.Ytnccklajpmpfdaa.PFnExactMatchPattern Go.Proofs.YtnccklajpmpfdaaW.PrintWords Go.Proofs.YtnccklajpmpfdaaW.PrintLast Go.Proofs.YtnccklajpmpfdaaW.PrintMore Go.Proofs.Ytnccklajpmpfdaa.Base
set_option linter.unusedVariables false
set_option linter.unusedSimpArgs false

/-! #### the law's own helpers -/
def mustr : List ByteArray → Nat
  | [] => 0
  | x :: l => x.size + mustr l
theorem mustr_mem {l : List ByteArray} {x : ByteArray} (h : x ∈ l) : x.size ≤ mustr l := by
  induction l with
  | nil => cases h
  | cons y l ih =>
    simp only [mustr]
    rcases List.mem_cons.1 h with rfl | h
    · omega
    · have := ih h; omega
theorem mustr_append (l l' : List ByteArray) : mustr (l ++ l') = mustr l + mustr l' := by
  induction l with
  | nil => simp [mustr]
  | cons x l ih => simp only [List.cons_append, mustr, ih]; omega
mutual
def ms41 : S41 → Nat
  | ⟨a0, a1, a2⟩ => (a1.size + ((a2.length + mu41 a2) + 0))
def mu41 : List S41 → Nat
  | [] => 0
  | x :: l => ms41 x + mu41 l
end
theorem mu41_append (l l' : List S41) : mu41 (l ++ l') = mu41 l + mu41 l' := by
  induction l with
  | nil => simp [mu41]
  | cons x l ih => simp only [List.cons_append, mu41, ih]; omega
theorem mu41_mem {l : List S41} {x : S41} (h : x ∈ l) : ms41 x ≤ mu41 l := by
  induction l with
  | nil => cases h
  | cons y l ih =>
    simp only [mu41]
    rcases List.mem_cons.1 h with rfl | h
    · omega
    · have := ih h; omega
mutual
def ms46 : S46 → Nat
  | ⟨a0, a1, a2⟩ => (a1.size + ((a2.length + mu46 a2) + 0))
def mu46 : List S46 → Nat
  | [] => 0
  | x :: l => ms46 x + mu46 l
end
theorem mu46_append (l l' : List S46) : mu46 (l ++ l') = mu46 l + mu46 l' := by
  induction l with
  | nil => simp [mu46]
  | cons x l ih => simp only [List.cons_append, mu46, ih]; omega
theorem mu46_mem {l : List S46} {x : S46} (h : x ∈ l) : ms46 x ≤ mu46 l := by
  induction l with
  | nil => cases h
  | cons y l ih =>
    simp only [mu46]
    rcases List.mem_cons.1 h with rfl | h
    · omega
    · have := ih h; omega
mutual
theorem szPat_ok : ∀ (x : S41) (left : Int) (g : G41 x) (h0 : 0 ≤ left) (h1 : left ≤ 1048576), SzOk (fun k => laws_szPat.f k (x.f0) (x.f1) (x.f2) left) left (ms41 x)
  | ⟨a0, a1, a2⟩, left, g, h0, h1 => by
    simp only [G41, GL41_iff] at g
    obtain ⟨_, g1, g2⟩ := g
    rw [ms41]
    show SzOk (fun k => laws_szPat.f k a0 a1 a2 left) _ _
    refine sz_step (fun k => by rw [laws_szPat.f]) ?_
    have e : wrap64 (left - (a1.size : Int)) = left - (a1.size : Int) := w64 (by have := g1; unfold maxLen at this; omega) (by omega)
    simp only [e]; clear e
    refine sz_len ?_; intro q
    generalize ec : left - (a1.size : Int) = c0 at q ⊢
    have q' : c0 ≤ 1048576 := by omega
    refine sz_call (n := _ + mu41 _) (sz_step (fun k => by rw [laws_szPatS.f]) ?own) ?_
    case own =>
      have e : wrap64 (_ - ((_ : Nat) : Int)) = _ := w64 (x := c0 - (a2.length : Int)) (by have := g2.1; unfold maxLen at this; omega) (by omega)
      simp only [e]; clear e
      refine sz_len ?_; intro q
      generalize ec : c0 - (a2.length : Int) = cown at q ⊢
      exact szPatS_l0 a2 [] cown (by simpa using g2.1) g2.2 (by assumption) (by omega)
    intro c1 q ec
    have q' : c1 ≤ 1048576 := by omega
    exact sz_ret _ (by assumption)

theorem szPatS_l0 : ∀ (suf pre : List S41) (left : Int) (hb : (pre ++ suf).length ≤ maxLen) (g : ∀ y ∈ suf, G41 y) (h0 : 0 ≤ left) (h1 : left ≤ 1048576), SzOk (fun k => laws_szPatS.l0 k (pre ++ suf) left (pre.length : Int)) left (mu41 suf)
  | [], pre, left, hb, g, h0, h1 => by
    refine sz_step (fun k => by rw [laws_szPatS.l0]) ?_
    refine sz_neg (by simp) ?_
    rw [mu41]
    exact sz_ret _ h0
  | x :: suf, pre, left, hb, g, h0, h1 => by
    have gx := g x List.mem_cons_self
    have ex : rd_T41 (pre ++ x :: suf) (pre.length : Int) = x := by unfold rd_T41; exact at_pre pre suf x _
    refine sz_step (fun k => by rw [laws_szPatS.l0]) ?_
    refine sz_pos (by simp only [List.length_append, List.length_cons]; omega) (sz_pos (by omega) ?_)
    rw [ex, mu41]
    refine sz_call (szPat_ok x left gx (by assumption) (by omega)) ?_; intro c0 q ec
    have q' : c0 ≤ 1048576 := by omega
    rw [next_pre pre x (by have := hb; simp only [List.length_append, List.length_cons] at this; unfold maxLen at this; omega)]
    have z := szPatS_l0 suf (pre ++ [x]) c0 (by simpa using hb) (fun y hy => g y (List.mem_cons_of_mem _ hy)) (by assumption) (by omega)
    rw [List.append_assoc] at z
    exact z
end
theorem szPatS_ok : ∀ (l : List S41) (left : Int) (g : l.length ≤ maxLen ∧ ∀ y ∈ l, G41 y) (h0 : 0 ≤ left) (h1 : left ≤ 1048576), SzOk (fun k => laws_szPatS.f k l left) left (l.length + mu41 l)
  | l, left, g, h0, h1 => by
    refine sz_step (fun k => by rw [laws_szPatS.f]) ?_
    have e : wrap64 (left - (l.length : Int)) = left - (l.length : Int) := w64 (by have := g.1; unfold maxLen at this; omega) (by omega)
    simp only [e]; clear e
    refine sz_len ?_; intro q
    generalize ec : left - (l.length : Int) = c0 at q ⊢
    have q' : c0 ≤ 1048576 := by omega
    exact szPatS_l0 l [] c0 (by simpa using g.1) g.2 (by assumption) (by assumption)
mutual
def cv41 : S41 → S46
  | ⟨a0, a1, a2⟩ => ⟨a0, a1, (cvl41 a2)⟩
def cvl41 : List S41 → List S46
  | [] => []
  | x :: l => cv41 x :: cvl41 l
end
theorem cvl41_length (l : List S41) : (cvl41 l).length = l.length := by
  induction l with
  | nil => rfl
  | cons x l ih => simp only [cvl41, List.length_cons, ih]
theorem cvl41_append (l l' : List S41) : cvl41 (l ++ l') = cvl41 l ++ cvl41 l' := by
  induction l with
  | nil => rfl
  | cons x l ih => simp only [List.cons_append, cvl41, ih]
theorem cvl41_map (l : List S41) : cvl41 l = l.map cv41 := by
  induction l with
  | nil => rfl
  | cons x l ih => simp only [List.map_cons, cvl41, ih]
mutual
theorem mscv41 : ∀ x, ms46 (cv41 x) = ms41 x
  | ⟨a0, a1, a2⟩ => by
    have h := mucv41 a2
    simp only [cv41, ms46, ms41, cvl41_length, h]
theorem mucv41 : ∀ l, mu46 (cvl41 l) = mu41 l
  | [] => rfl
  | x :: l => by
    have h := mscv41 x
    have h' := mucv41 l
    simp only [cvl41, mu46, mu41, h, h']
end
mutual
theorem toPat_ev : ∀ (x : S41) (hm : ms41 x ≤ 1048576), Ev (fun k => laws_toPat.f k (x.f0) (x.f1) (x.f2)) ((cv41 x).f0, (cv41 x).f1, (cv41 x).f2)
  | ⟨a0, a1, a2⟩, hm => by
    rw [ms41] at hm
    show Ev (fun k => laws_toPat.f k a0 a1 a2) _
    refine Ev.step (fun k => by rw [laws_toPat.f]) ?_
    refine ev_bind (cvl41 a2) (Ev.step (fun k => by rw [laws_toPatS.f]) ?own) ?_
    case own =>
      refine ev_pos (by omega) (ev_pos (by omega) ?_)
      have z := toPatS_l0 a2 [] (by rw [List.nil_append]; omega) (by omega)
      exact z
    exact ev_const (by simp only [cv41])
theorem toPatS_l0 : ∀ (suf pre : List S41) (hb : (pre ++ suf).length ≤ 1048576) (hm : mu41 suf ≤ 1048576), Ev (fun k => laws_toPatS.l0 k (pre ++ suf) ((cvl41 pre) ++ List.replicate suf.length z46) (pre.length : Int)) (cvl41 (pre ++ suf))
  | [], pre, hb, hm => by
    refine Ev.step (fun k => by rw [laws_toPatS.l0]) ?_
    refine ev_neg (by simp) (ev_const ?_)
    simp
  | x :: suf, pre, hb, hm => by
    have ex : rd_T41 (pre ++ x :: suf) (pre.length : Int) = x := by unfold rd_T41; exact at_pre pre suf x _
    have hb' := hb
    simp only [List.length_append, List.length_cons] at hb'
    rw [mu41] at hm
    refine Ev.step (fun k => by rw [laws_toPatS.l0]) ?_
    refine ev_pos (by simp only [List.length_append, List.length_cons]; omega) (ev_pos (by omega) ?_)
    rw [ex]
    refine ev_bind _ (toPat_ev x (by omega)) ?_
    refine ev_pos (by simp only [List.length_append, cvl41_length, List.length_replicate, List.length_cons]; omega) ?_
    have es : (cvl41 pre ++ List.replicate (x :: suf).length z46).set ((pre.length : Int)).toNat (cv41 x) = cvl41 (pre ++ [x]) ++ List.replicate suf.length z46 := by
      have h2 := set_pre (cvl41 pre) (List.replicate suf.length z46) z46 (cv41 x)
      rw [cvl41_length] at h2
      rw [List.length_cons, List.replicate_succ, h2, cvl41_append]; rfl
    rw [next_pre pre x (by omega)]
    have z := toPatS_l0 suf (pre ++ [x]) (by simpa using hb) (by omega)
    rw [List.append_assoc] at z
    rw [← es] at z
    have e2 : (⟨(cv41 x).f0, (cv41 x).f1, (cv41 x).f2⟩ : S46) = cv41 x := by cases cv41 x; rfl
    show Ev (fun k => laws_toPatS.l0 k (pre ++ x :: suf) ((cvl41 pre ++ List.replicate (x :: suf).length z46).set ((pre.length : Int)).toNat (⟨(cv41 x).f0, (cv41 x).f1, (cv41 x).f2⟩ : S46)) ((pre ++ [x]).length : Int)) (cvl41 (pre ++ x :: suf))
    rw [e2]
    exact z
end
theorem toPatS_ev (l : List S41) (hm : (l.length + mu41 l) ≤ 1048576) : Ev (fun k => laws_toPatS.f k l) (cvl41 l) := by
  refine Ev.step (fun k => by rw [laws_toPatS.f]) ?_
  have hl : l.length ≤ 1048576 := by omega
  refine ev_pos (by omega) (ev_pos (by omega) ?_)
  have z := toPatS_l0 l [] (by simpa using hl) (by omega)
  simpa [cvl41] using z
mutual
theorem eqPat_ev : ∀ (x : S46) (hm : ms46 x ≤ 4611686018427387904), Ev (fun k => laws_eqPat.f k (x.f0) (x.f1) (x.f2) (x.f0) (x.f1) (x.f2)) true
  | ⟨a0, a1, a2⟩, hm => by
    rw [ms46] at hm
    show Ev (fun k => laws_eqPat.f k a0 a1 a2 a0 a1 a2) _
    refine Ev.step (fun k => by rw [laws_eqPat.f]) ?_
    refine ev_pos (by simp) ?_
    refine ev_pos (by simp) ?_
    refine ev_bind true (Ev.step (fun k => by rw [laws_eqPatS.f]) ?own) (ev_pos (by simp) ?_)
    case own =>
      exact ev_pos (by simp) (eqPatS_l0 a2 [] (by rw [List.nil_append]; omega) (by omega))
    exact ev_const rfl
theorem eqPatS_l0 : ∀ (suf pre : List S46) (hb : (pre ++ suf).length ≤ 4611686018427387904) (hm : mu46 suf ≤ 4611686018427387904), Ev (fun k => laws_eqPatS.l0 k (pre ++ suf) (pre ++ suf) (pre.length : Int)) true
  | [], pre, hb, hm => by
    refine Ev.step (fun k => by rw [laws_eqPatS.l0]) ?_
    exact ev_neg (by simp) (ev_const rfl)
  | x :: suf, pre, hb, hm => by
    have ex : rd_T46 (pre ++ x :: suf) (pre.length : Int) = x := by unfold rd_T46; exact at_pre pre suf x _
    have hb' := hb
    simp only [List.length_append, List.length_cons] at hb'
    rw [mu46] at hm
    refine Ev.step (fun k => by rw [laws_eqPatS.l0]) ?_
    refine ev_pos (by simp only [List.length_append, List.length_cons]; omega) (ev_pos (by omega) (ev_pos (by simp only [List.length_append, List.length_cons]; omega) ?_))
    rw [ex]
    refine ev_bind _ (eqPat_ev x (by omega)) (ev_pos (by simp) ?_)
    rw [next_pre pre x (by omega)]
    have z := eqPatS_l0 suf (pre ++ [x]) (by simpa using hb) (by omega)
    rw [List.append_assoc] at z
    exact z
end
theorem eqPatS_ev (l : List S46) (hm : (l.length + mu46 l) ≤ 4611686018427387904) : Ev (fun k => laws_eqPatS.f k l l) true := by
  refine Ev.step (fun k => by rw [laws_eqPatS.f]) ?_
  refine ev_pos (by simp) ?_
  exact eqPatS_l0 l [] (by rw [List.nil_append]; omega) (by omega)

/-! #### MatchPattern -/
abbrev PT := S46
theorem ib_lem (l : List UInt8) (c : UInt8) : -1 ≤ Lib.indexByte l c ∧ decide (Lib.indexByte l c ≥ 0) = l.any (fun b => b == c) := by
  induction l with
  | nil => exact ⟨show (-1 : Int) ≤ -1 by omega, rfl⟩
  | cons b l ih =>
    obtain ⟨h1, h2⟩ := ih
    rw [List.any_cons]
    unfold Lib.indexByte
    by_cases hb : (b == c) = true
    · rw [if_pos hb, hb]; exact ⟨by decide, rfl⟩
    · rw [if_neg hb, Bool.eq_false_iff.mpr hb, Bool.false_or, ← h2]
      by_cases hc : Lib.indexByte l c = -1
      · rw [hc]; exact ⟨by decide, by decide⟩
      · rw [if_neg (by simpa using hc)]
        refine ⟨by omega, ?_⟩
        simp only [decide_eq_decide]
        omega
theorem ib_bts (s : ByteArray) (x : Int) (h0 : 0 ≤ x) (h1 : x ≤ 255) : decide (Lib.indexByte s.data.toList x.toNat.toUInt8 ≥ 0) = (bts s).any fun y => y == x := by
  rw [(ib_lem _ _).2]
  unfold bts
  rw [List.any_map]
  congr 1
  funext b
  show (b == x.toNat.toUInt8) = ((b.toNat : Int) == x)
  by_cases hb : (b.toNat : Int) = x
  · have e : b = x.toNat.toUInt8 := by
      apply UInt8.toNat_inj.1
      show b.toNat = (UInt8.ofNat x.toNat).toNat
      rw [UInt8.toNat_ofNat']
      omega
    rw [beq_iff_eq.2 e, beq_iff_eq.2 hb]
  · have e : b ≠ x.toNat.toUInt8 := by
      intro e
      have e2 := congrArg UInt8.toNat e
      have e3 : (x.toNat.toUInt8).toNat = (UInt8.ofNat x.toNat).toNat := rfl
      rw [e3, UInt8.toNat_ofNat'] at e2
      omega
    rw [beq_eq_false_iff_ne.2 e, beq_eq_false_iff_ne.2 hb]
theorem bt_byte (s : ByteArray) (i : Int) : 0 ≤ bt s i ∧ bt s i ≤ 255 := by
  unfold bt
  split
  · rename_i h; have := UInt8.toNat_lt (s[i.toNat]'h); exact ⟨by omega, by omega⟩
  · exact ⟨by omega, by omega⟩
theorem rd_bool {l : List Bool} {n : Nat} {x : Bool} (h : l[n]? = some x) : rdOf false l (n : Int) = x := by
  unfold rdOf
  rw [List.getD_eq_getElem?_getD, Int.toNat_natCast, h]; rfl
/-! sets of places -/
def uni : List Bool → List Bool → List Bool
  | a :: xs, b :: ys => (a || b) :: uni xs ys
  | _, _ => []
def chg : List Bool → List Bool → Bool
  | a :: xs, b :: ys => (b && !a) || chg xs ys
  | _, _ => false
def cf : List Bool → Nat
  | [] => 0
  | true :: l => cf l
  | false :: l => cf l + 1
theorem uni_length : ∀ (a b : List Bool) (h : a.length = b.length), (uni a b).length = a.length
  | [], [], _ => rfl
  | a :: xs, b :: ys, h => by simp only [uni, List.length_cons]; rw [uni_length xs ys (by simpa using h)]
theorem cf_uni : ∀ (a b : List Bool) (h : a.length = b.length), cf (uni a b) ≤ cf a ∧ (chg a b = true → cf (uni a b) < cf a)
  | [], [], _ => ⟨by simp [uni, cf], by simp [chg]⟩
  | a :: xs, b :: ys, h => by
    obtain ⟨h1, h2⟩ := cf_uni xs ys (by simpa using h)
    cases a <;> cases b <;> simp only [uni, chg, cf, Bool.or_true, Bool.true_or, Bool.false_or, Bool.or_false, Bool.and_true, Bool.and_false, Bool.not_true, Bool.not_false, Bool.true_and, Bool.false_and]
    · exact ⟨by omega, fun h => by have := h2 h; omega⟩
    · exact ⟨by omega, fun _ => by omega⟩
    · exact ⟨h1, h2⟩
    · exact ⟨h1, h2⟩
theorem both_l0 : ∀ (sa sb pa pb : List Bool) (h : sa.length = sb.length) (hp : pa.length = pb.length) (hb : (pa ++ sa).length ≤ 2097152), Ev (fun k => spec_l5Both.l0 k (pa ++ sa) (pb ++ sb) (uni pa pb ++ List.replicate sa.length false) (pa.length : Int)) (uni pa pb ++ uni sa sb)
  | [], [], pa, pb, h, hp, hb => by
    refine Ev.step (fun k => by rw [spec_l5Both.l0]) ?_
    exact ev_neg (by simp) (ev_const (by simp [uni]))
  | a :: sa, b :: sb, pa, pb, h, hp, hb => by
    have hb' := hb
    simp only [List.length_append, List.length_cons] at hb' h
    have ea : rdOf false (pa ++ a :: sa) (pa.length : Int) = a := rd_bool (by simp)
    have eb : rdOf false (pb ++ b :: sb) (pa.length : Int) = b := by rw [hp]; exact rd_bool (by simp)
    have hu := uni_length pa pb hp
    have es : ∀ v : Bool, (uni pa pb ++ List.replicate (a :: sa).length false).set ((pa.length : Int)).toNat v = (uni pa pb ++ [v]) ++ List.replicate sa.length false := by
      intro v
      rw [List.length_cons, List.replicate_succ, ← hu]
      exact set_pre _ _ _ _
    have eu : uni (pa ++ [a]) (pb ++ [b]) = uni pa pb ++ [a || b] := by
      clear es hu eb ea hb' hb h
      induction pa generalizing pb with
      | nil => cases pb with | nil => rfl | cons _ _ => simp at hp
      | cons x pa ih => cases pb with | nil => simp at hp | cons y pb => simp only [List.cons_append, uni]; rw [ih pb (by simpa using hp)]
    have z := both_l0 sa sb (pa ++ [a]) (pb ++ [b]) (by omega) (by simp [hp]) (by simpa using hb)
    rw [List.append_assoc, List.singleton_append, List.append_assoc, List.singleton_append, eu] at z
    refine Ev.step (fun k => by rw [spec_l5Both.l0]) ?_
    refine ev_pos (by simp only [List.length_append, List.length_cons]; omega) (ev_pos (by omega) ?_)
    rw [ea, eb, next_pre pa a (by omega), es, es]
    have er : uni pa pb ++ uni (a :: sa) (b :: sb) = uni pa pb ++ [a || b] ++ uni sa sb := by simp [uni]
    rw [er]
    refine ev_ite (fun h1 => ?_) (fun h1 => ?_)
    · refine ev_pos (by simp only [List.length_append, List.length_cons, List.length_replicate]; omega) ?_
      rw [h1, Bool.true_or] at z ⊢
      exact z
    · refine ev_pos (by simp only [List.length_append, List.length_cons]; omega) (ev_pos (by simp only [List.length_append, List.length_cons, List.length_replicate]; omega) ?_)
      rw [Bool.eq_false_iff.mpr h1, Bool.false_or] at z ⊢
      exact z
theorem both_ev (a b : List Bool) (h : a.length = b.length) (hb : a.length ≤ 2097152) : Ev (fun k => spec_l5Both.f k a b) (uni a b) := by
  simp only [spec_l5Both.f]
  refine ev_pos (by omega) (ev_pos (by omega) ?_)
  have z := both_l0 a b [] [] h rfl (by simpa using hb)
  exact z
theorem join_l0 : ∀ (sa sb pa pb : List Bool) (g : Bool) (h : sa.length = sb.length) (hp : pa.length = pb.length) (hb : (pa ++ sa).length ≤ 2097152), Ev (fun k => impl_joinSets.l0 k (pa ++ sa) (pb ++ sb) g ((pb ++ sb).length : Int) (pb.length : Int)) (g || chg sa sb, pa ++ uni sa sb)
  | [], [], pa, pb, g, h, hp, hb => by
    refine Ev.step (fun k => by rw [impl_joinSets.l0]) ?_
    exact ev_neg (by simp) (ev_const (by simp [uni, chg]))
  | a :: sa, b :: sb, pa, pb, g, h, hp, hb => by
    have hb' := hb
    simp only [List.length_append, List.length_cons] at hb' h
    have ea : rdOf false (pa ++ a :: sa) (pb.length : Int) = a := by rw [← hp]; exact rd_bool (by simp)
    have eb : rdOf false (pb ++ b :: sb) (pb.length : Int) = b := rd_bool (by simp)
    have es : (pa ++ a :: sa).set ((pb.length : Int)).toNat true = (pa ++ [true]) ++ sa := by rw [← hp]; exact set_pre _ _ _ _
    refine Ev.step (fun k => by rw [impl_joinSets.l0]) ?_
    refine ev_pos (by simp only [List.length_append, List.length_cons]; omega) (ev_pos (by omega) (ev_pos (by simp only [List.length_append, List.length_cons]; omega) ?_))
    rw [ea, eb, es, next_pre pb b (by omega)]
    have z : ∀ (v g' : Bool), Ev (fun k => impl_joinSets.l0 k (pa ++ [v] ++ sa) (pb ++ b :: sb) g' ((pb ++ b :: sb).length : Int) ((pb ++ [b]).length : Int)) (g' || chg sa sb, pa ++ [v] ++ uni sa sb) := by
      intro v g'
      have z := join_l0 sa sb (pa ++ [v]) (pb ++ [b]) g' (by omega) (by simp [hp]) (by simp only [List.length_append, List.length_cons, List.length_nil]; omega)
      have e : pb ++ [b] ++ sb = pb ++ b :: sb := by simp
      rw [e] at z
      exact z
    have e1 : ∀ v : Bool, pa ++ [v] ++ sa = pa ++ v :: sa := fun v => by simp
    refine ev_ite (fun h1 => ?_) (fun h1 => ?_)
    · refine ev_pos (by simp only [List.length_append, List.length_cons]; omega) ?_
      refine ev_ite (fun h2 => ?_) (fun h2 => ?_)
      · have z1 := z true g
        rw [e1] at z1
        rw [h1, h2, uni, chg]
        rw [h1] at z1
        simpa using z1
      · have z1 := z true true
        rw [Bool.eq_false_iff.mpr h2, h1, uni, chg]
        rw [h1] at z1
        simpa using z1
    · have z1 := z a g
      rw [e1] at z1
      rw [Bool.eq_false_iff.mpr h1, uni, chg]
      rw [Bool.eq_false_iff.mpr h1] at z1
      simpa using z1
theorem join_ev (a b : List Bool) (h : a.length = b.length) (hb : a.length ≤ 2097152) : Ev (fun k => impl_joinSets.f k a b) (chg a b, uni a b) := by
  simp only [impl_joinSets.f]
  have z := join_l0 a b [] [] false h rfl (by simpa using hb)
  simpa using z
theorem spec_l5_ev (s : ByteArray) (kd : Int) (cs : ByteArray) (ks : List PT) (R : List Bool) : ∀ (sc se pc pn : List Bool) (fl : Bool) (h : sc.length = se.length) (hp : pc.length = pn.length) (hb : (pc ++ sc).length ≤ 2097152) (HR : Ev (fun k => spec_l5Ends.l5 k s (pc ++ sc) (pn ++ uni sc se) (fl || chg sc se) ((pc ++ sc).length : Int) kd cs ks) R), Ev (fun k => spec_l5Ends.l5 k s (pc ++ sc) (pn ++ uni sc se) fl (pc.length : Int) kd cs ks) R
  | [], [], pc, pn, fl, h, hp, hb, HR => by simpa [chg] using HR
  | c :: sc, e :: se, pc, pn, fl, h, hp, hb, HR => by
    have hb' := hb
    simp only [List.length_append, List.length_cons] at hb' h
    have z : ∀ fl', (fl' = (fl || (e && !c))) → Ev (fun k => spec_l5Ends.l5 k s (pc ++ c :: sc) (pn ++ (c || e) :: uni sc se) fl' ((pc ++ [c]).length : Int) kd cs ks) R := by
      intro fl' hfl
      have e1 : pc ++ [c] ++ sc = pc ++ c :: sc := by simp
      have e2 : pn ++ [c || e] ++ uni sc se = pn ++ (c || e) :: uni sc se := by simp
      have z := spec_l5_ev s kd cs ks R sc se (pc ++ [c]) (pn ++ [c || e]) fl' (by omega) (by simp [hp]) (by simpa using hb) (by rw [e1, e2, hfl]; rw [uni, chg, ← Bool.or_assoc] at HR; exact HR)
      rw [e1, e2] at z
      exact z
    have ec : rdOf false (pc ++ c :: sc) (pc.length : Int) = c := rd_bool (by simp)
    have en : rdOf false (pn ++ (c || e) :: uni sc se) (pc.length : Int) = (c || e) := by rw [hp]; exact rd_bool (by simp)
    rw [uni]
    refine Ev.step (fun k => by rw [spec_l5Ends.l5]) ?_
    refine ev_pos (by simp only [List.length_append, List.length_cons]; omega) ?_
    rw [next_pre pc c (by omega), ec, en]
    refine ev_ite (fun h1 => ?_) (fun h1 => ?_)
    · exact z true (by rw [h1, Bool.true_or])
    · refine ev_pos (by omega) (ev_pos (by simp only [List.length_append, List.length_cons]; omega) ?_)
      exact z _ (by rw [Bool.eq_false_iff.mpr h1]; cases c <;> cases e <;> rfl)
/-! one place after another: a set of bytes -/
theorem spec_l1_ev (s : ByteArray) (hs : s.size ≤ 1048576) (st : List Bool) (i : Nat) (hi : i < s.size) (hst : st.length = s.size + 1) (hsi : rdOf false st (i : Int) = true) (kd : Int) (cs : ByteArray) (hcs : cs.size ≤ 1048576) (ks : List PT) (D suf : List Bool) (hD : D.length = i + 1) (R : List Bool) : ∀ (t j : Nat) (v0 : Bool) (hj : j + t = cs.size) (HR : Ev (fun k => spec_l5Ends.l0 k s st (D ++ (v0 || ((bts cs).drop j).any fun y => y == bt s i) :: suf) ((i + 1 : Nat) : Int) kd cs ks) R), Ev (fun k => spec_l5Ends.l1 k s st (D ++ v0 :: suf) (i : Int) (j : Int) kd cs ks) R := by
  have ei : wrap64 ((i : Int) + 1) = ((i + 1 : Nat) : Int) := by rw [w64 (by omega) (by omega)]; omega
  have eD : ((i + 1 : Nat) : Int) = (D.length : Int) := by rw [hD]
  intro t
  induction t with
  | zero =>
    intro j v0 hj HR
    rw [List.drop_eq_nil_of_le (by rw [bts_length]; omega), List.any_nil, Bool.or_false] at HR
    refine Ev.step (fun k => by rw [spec_l5Ends.l1]) ?_
    rw [ei]
    exact ev_neg (by omega) HR
  | succ t ih =>
    intro j v0 hj HR
    have ej : wrap64 ((j : Int) + 1) = ((j + 1 : Nat) : Int) := by rw [w64 (by omega) (by omega)]; omega
    rw [drop_cons (z := 0) (by rw [bts_length]; omega), List.any_cons, ← Int.toNat_natCast j, ← bt_eq, Int.toNat_natCast, ← Bool.or_assoc] at HR
    have z := fun v1 => ih (j + 1) v1 (by omega)
    have er : rdOf false (D ++ v0 :: suf) (((i + 1 : Nat) : Int)) = v0 := by rw [eD]; exact rd_bool (by simp)
    have es : ∀ v : Bool, (D ++ v0 :: suf).set (((i + 1 : Nat) : Int)).toNat v = D ++ v :: suf := by intro v; rw [eD, set_pre]; simp
    refine Ev.step (fun k => by rw [spec_l5Ends.l1]) ?_
    rw [ei, ej, er, es, es]
    refine ev_pos (by omega) (ev_pos (by omega) (ev_pos (by omega) (ev_pos hsi (ev_pos (by omega) (ev_pos (by simp only [List.length_append, List.length_cons]; omega) ?_)))))
    refine ev_ite (fun h1 => ?_) (fun h1 => ?_)
    · exact z true (by rw [h1] at HR; exact HR)
    · refine ev_pos (by omega) (ev_pos (by omega) ?_)
      refine z _ ?_
      rw [Bool.eq_false_iff.mpr h1, Bool.false_or] at HR
      exact HR
theorem set_ev (s : ByteArray) (hs : s.size ≤ 1048576) (st : List Bool) (hst : st.length = s.size + 1) (kd : Int) (cs : ByteArray) (hcs : cs.size ≤ 1048576) (ks : List PT) : ∀ (m i : Nat) (D : List Bool) (hi : i + m = s.size) (hD : D.length = i + 1), ∃ r : List Bool, r.length = s.size + 1 ∧ Ev (fun k => spec_l5Ends.l0 k s st (D ++ List.replicate m false) (i : Int) kd cs ks) r ∧ Ev (fun k => impl_patEnds.l0 k s st (D ++ List.replicate m false) (i : Int) kd cs ks) r := by
  intro m
  induction m with
  | zero =>
    intro i D hi hD
    refine ⟨D ++ List.replicate 0 false, by simp; omega, Ev.step (fun k => by rw [spec_l5Ends.l0]) ?_, Ev.step (fun k => by rw [impl_patEnds.l0]) ?_⟩
    · exact ev_neg (by omega) (ev_const rfl)
    · exact ev_neg (by omega) (ev_const rfl)
  | succ m ih =>
    intro i D hi hD
    have ei : wrap64 ((i : Int) + 1) = ((i + 1 : Nat) : Int) := by rw [w64 (by omega) (by omega)]; omega
    have eD : ((i + 1 : Nat) : Int) = (D.length : Int) := by rw [hD]
    have eF : ∀ v : Bool, D ++ v :: List.replicate m false = (D ++ [v]) ++ List.replicate m false := fun v => by simp
    by_cases hsi : rdOf false st (i : Int) = true
    · obtain ⟨r, hr, z1, z2⟩ := ih (i + 1) (D ++ [(bts cs).any fun y => y == bt s i]) (by omega) (by simp [hD])
      rw [← eF] at z1 z2
      refine ⟨r, hr, Ev.step (fun k => by rw [spec_l5Ends.l0]) ?_, Ev.step (fun k => by rw [impl_patEnds.l0]) ?_⟩
      · refine ev_pos (by omega) ?_
        rw [List.replicate_succ]
        exact spec_l1_ev s hs st i (by omega) hst hsi kd cs hcs ks D (List.replicate m false) hD r cs.size 0 false (by omega) (by rw [List.drop_zero, Bool.false_or]; exact z1)
      · have hbt := bt_byte s i
        refine ev_pos (by omega) (ev_pos (by omega) (ev_pos (by omega) (ev_pos hsi ?_)))
        refine ev_let _ rfl ?_
        rw [ei, ib_bts cs _ hbt.1 hbt.2, List.replicate_succ]
        have es : ∀ v : Bool, (D ++ false :: List.replicate m false).set (((i + 1 : Nat) : Int)).toNat v = D ++ v :: List.replicate m false := by intro v; rw [eD, set_pre]; simp
        rw [es]
        exact ev_pos (by omega) (ev_pos (by simp only [List.length_append, List.length_cons]; omega) z2)
    · obtain ⟨r, hr, z1, z2⟩ := ih (i + 1) (D ++ [false]) (by omega) (by simp [hD])
      rw [← eF] at z1 z2
      refine ⟨r, hr, Ev.step (fun k => by rw [spec_l5Ends.l0]) ?_, Ev.step (fun k => by rw [impl_patEnds.l0]) ?_⟩
      · refine ev_pos (by omega) ?_
        refine Ev.step (fun k => by rw [spec_l5Ends.l1]) ?_
        rw [ei, List.replicate_succ]
        refine ev_ite (fun h1 => ?_) (fun h1 => z1)
        exact ev_pos (by omega) (ev_pos (by omega) (ev_neg hsi z1))
      · refine ev_pos (by omega) (ev_pos (by omega) (ev_pos (by omega) (ev_neg hsi ?_)))
        rw [ei, List.replicate_succ]
        have es : ∀ v : Bool, (D ++ false :: List.replicate m false).set (((i + 1 : Nat) : Int)).toNat v = D ++ v :: List.replicate m false := by intro v; rw [eD, set_pre]; simp
        rw [es]
        exact ev_pos (by omega) (ev_pos (by simp only [List.length_append, List.length_cons]; omega) z2)
/-! the pattern -/
def PE (s : ByteArray) (p : PT) (st : List Bool) : Prop := ∃ r : List Bool, r.length = s.size + 1 ∧ Ev (fun k => spec_l5Ends.f k p.f0 p.f1 p.f2 s st) r ∧ Ev (fun k => impl_patEnds.f k p.f0 p.f1 p.f2 s st) r
theorem star_ev (s : ByteArray) (hs : s.size ≤ 1048576) (q : PT) (hq : ∀ st : List Bool, st.length = s.size + 1 → PE s q st) (kd : Int) (cs : ByteArray) (hkd : kd = 4 ∨ kd = 5) : ∀ (c : Nat) (cur : List Bool) (hc : cf cur ≤ c) (hl : cur.length = s.size + 1), ∃ r : List Bool, r.length = s.size + 1 ∧ Ev (fun k => spec_l5Ends.l4 k s cur kd cs [q]) r ∧ Ev (fun k => impl_patEnds.l3 k s cur kd cs [q]) r := by
  intro c
  induction c with
  | zero =>
    intro cur hc hl
    obtain ⟨e, he, z1, z2⟩ := hq cur hl
    have hcf := cf_uni cur e (by omega)
    have hch : chg cur e = false := by cases h : chg cur e with | false => rfl | true => have := hcf.2 h; omega
    refine ⟨uni cur e, by rw [uni_length cur e (by omega)]; omega, Ev.step (fun k => by rw [spec_l5Ends.l4]) ?_, Ev.step (fun k => by rw [impl_patEnds.l3]) ?_⟩
    · refine ev_pos rfl (ev_pos (by simp) (ev_bind e z1 (ev_bind _ (both_ev cur e (by omega) (by omega)) ?_)))
      have z := spec_l5_ev s kd cs [q] (uni cur e) cur e [] [] false (by omega) rfl (by rw [List.nil_append]; omega) (by
        rw [Bool.false_or, hch, List.nil_append, List.nil_append]
        refine Ev.step (fun k => by rw [spec_l5Ends.l5]) ?_
        exact ev_neg (by omega) (ev_neg (by simp) (ev_const rfl)))
      exact z
    · refine ev_pos (by simp) (ev_bind e z2 (ev_bind _ (join_ev cur e (by omega) (by omega)) ?_))
      exact ev_neg (by simp [hch]) (ev_const rfl)
  | succ c ih =>
    intro cur hc hl
    obtain ⟨e, he, z1, z2⟩ := hq cur hl
    have hcf := cf_uni cur e (by omega)
    have hul : (uni cur e).length = s.size + 1 := by rw [uni_length cur e (by omega)]; omega
    have key : ∃ r : List Bool, r.length = s.size + 1 ∧ Ev (fun k => if chg cur e = true then (if kd = 5 then some (uni cur e) else spec_l5Ends.l4 k s (uni cur e) kd cs [q]) else some (uni cur e)) r ∧ Ev (fun k => if chg cur e = true then (if kd = 4 then impl_patEnds.l3 k s (uni cur e) kd cs [q] else some (uni cur e)) else some (uni cur e)) r := by
      by_cases hch : chg cur e = true
      · rcases hkd with h | h
        · obtain ⟨r, hr, w1, w2⟩ := ih (uni cur e) (by have := hcf.2 hch; omega) hul
          exact ⟨r, hr, ev_pos hch (ev_neg (by omega) w1), ev_pos hch (ev_pos h w2)⟩
        · exact ⟨uni cur e, hul, ev_pos hch (ev_pos h (ev_const rfl)), ev_pos hch (ev_neg (by omega) (ev_const rfl))⟩
      · exact ⟨uni cur e, hul, ev_neg hch (ev_const rfl), ev_neg hch (ev_const rfl)⟩
    obtain ⟨r, hr, w1, w2⟩ := key
    refine ⟨r, hr, Ev.step (fun k => by rw [spec_l5Ends.l4]) ?_, Ev.step (fun k => by rw [impl_patEnds.l3]) ?_⟩
    · refine ev_pos rfl (ev_pos (by simp) (ev_bind e z1 (ev_bind _ (both_ev cur e (by omega) (by omega)) ?_)))
      have z := spec_l5_ev s kd cs [q] r cur e [] [] false (by omega) rfl (by rw [List.nil_append]; omega) (by
        rw [Bool.false_or, List.nil_append, List.nil_append]
        refine Ev.step (fun k => by rw [spec_l5Ends.l5]) ?_
        exact ev_neg (by omega) w1)
      exact z
    · exact ev_pos (by simp) (ev_bind e z2 (ev_bind _ (join_ev cur e (by omega) (by omega)) w2))
theorem take_all (st : List Bool) (n : Nat) (h : st.length = n) : st.take (min st.length (List.replicate n false).length) ++ (List.replicate n false).drop (min st.length (List.replicate n false).length) = st := by
  rw [List.length_replicate, h, Nat.min_self, List.take_of_length_le (by omega), List.drop_eq_nil_of_le (by simp), List.append_nil]
mutual
theorem pat_ev (s : ByteArray) (hs : s.size ≤ 1048576) : ∀ (p : PT) (st : List Bool) (hst : st.length = s.size + 1) (hm : ms46 p ≤ 1048576), PE s p st
  | ⟨kd, cs, ks⟩, st, hst, hm => by
    rw [ms46] at hm
    have en : wrap64 ((s.size : Int) + 1) = ((s.size + 1 : Nat) : Int) := by rw [w64 (by omega) (by omega)]; omega
    have main : ∃ r : List Bool, r.length = s.size + 1 ∧ Ev (fun k => if kd = 1 then spec_l5Ends.l0 k s st (List.replicate (s.size + 1) false) 0 kd cs ks else if kd = 2 then spec_l5Ends.l2 k s st 0 kd cs ks else if kd = 3 then spec_l5Ends.l3 k s st (List.replicate (s.size + 1) false) 0 kd cs ks else if kd = 5 then spec_l5Ends.j4 k s st (List.replicate (s.size + 1) false) (kd == 5) kd cs ks else spec_l5Ends.j4 k s st (List.replicate (s.size + 1) false) (kd == 4) kd cs ks) r ∧ Ev (fun k => if kd = 1 then impl_patEnds.l0 k s st (List.replicate (s.size + 1) false) 0 kd cs ks else if kd = 2 then impl_patEnds.l1 k s st ks (ks.length : Int) 0 else if kd = 3 then impl_patEnds.l2 k s st (List.replicate (s.size + 1) false) ks (ks.length : Int) 0 else if kd = 5 then impl_patEnds.j3 k s st (List.replicate (s.size + 1) false) (kd == 5) kd cs ks else impl_patEnds.j3 k s st (List.replicate (s.size + 1) false) (kd == 4) kd cs ks) r := by
      by_cases h1 : kd = 1
      · obtain ⟨r, hr, z1, z2⟩ := set_ev s hs st hst kd cs (by omega) ks s.size 0 [false] (by omega) rfl
        exact ⟨r, hr, ev_pos h1 (by rw [List.replicate_succ]; exact z1), ev_pos h1 (by rw [List.replicate_succ]; exact z2)⟩
      by_cases h2 : kd = 2
      · obtain ⟨r, hr, z1, z2⟩ := seq_ev s hs ks [] st kd cs hst (by rw [List.nil_append]; omega) (by omega)
        exact ⟨r, hr, ev_neg h1 (ev_pos h2 z1), ev_neg h1 (ev_pos h2 z2)⟩
      by_cases h3 : kd = 3
      · obtain ⟨r, hr, z1, z2⟩ := alt_ev s hs st hst ks [] (List.replicate (s.size + 1) false) kd cs (by rw [List.length_replicate]) (by rw [List.nil_append]; omega) (by omega)
        exact ⟨r, hr, ev_neg h1 (ev_neg h2 (ev_pos h3 z1)), ev_neg h1 (ev_neg h2 (ev_pos h3 z2))⟩
      have st4 : (kd = 4 ∨ kd = 5) → ∃ r : List Bool, r.length = s.size + 1 ∧ Ev (fun k => spec_l5Ends.j4 k s st (List.replicate (s.size + 1) false) true kd cs ks) r ∧ Ev (fun k => impl_patEnds.j3 k s st (List.replicate (s.size + 1) false) true kd cs ks) r := by
        intro hk
        by_cases hk1 : ks.length = 1
        · obtain ⟨q, hq, hks⟩ := one_ev s hs ks hk1 (by omega)
          subst hks
          obtain ⟨r, hr, z1, z2⟩ := star_ev s hs q hq kd cs hk (cf st) st (Nat.le_refl _) hst
          refine ⟨r, hr, Ev.step (fun k => by rw [spec_l5Ends.j4]) ?_, Ev.step (fun k => by rw [impl_patEnds.j3]) ?_⟩
          · rw [take_all st _ hst]
            exact ev_pos rfl z1
          · rw [take_all st _ hst]
            exact ev_pos rfl (ev_let _ rfl (ev_pos rfl z2))
        · refine ⟨st, hst, Ev.step (fun k => by rw [spec_l5Ends.j4]) ?_, Ev.step (fun k => by rw [impl_patEnds.j3]) ?_⟩
          · rw [take_all st _ hst]
            refine ev_pos rfl (Ev.step (fun k => by rw [spec_l5Ends.l4]) ?_)
            exact ev_neg (by omega) (ev_const rfl)
          · rw [take_all st _ hst]
            exact ev_pos rfl (ev_let _ rfl (ev_neg (by omega) (ev_const rfl)))
      by_cases h5 : kd = 5
      · obtain ⟨r, hr, z1, z2⟩ := st4 (.inr h5)
        have e : (kd == 5) = true := beq_iff_eq.2 h5
        exact ⟨r, hr, ev_neg h1 (ev_neg h2 (ev_neg h3 (ev_pos h5 (by rw [e]; exact z1)))), ev_neg h1 (ev_neg h2 (ev_neg h3 (ev_pos h5 (by rw [e]; exact z2))))⟩
      by_cases h4 : kd = 4
      · obtain ⟨r, hr, z1, z2⟩ := st4 (.inl h4)
        have e : (kd == 4) = true := beq_iff_eq.2 h4
        exact ⟨r, hr, ev_neg h1 (ev_neg h2 (ev_neg h3 (ev_neg h5 (by rw [e]; exact z1)))), ev_neg h1 (ev_neg h2 (ev_neg h3 (ev_neg h5 (by rw [e]; exact z2))))⟩
      have e : (kd == 4) = false := beq_eq_false_iff_ne.2 h4
      refine ⟨List.replicate (s.size + 1) false, by rw [List.length_replicate], ev_neg h1 (ev_neg h2 (ev_neg h3 (ev_neg h5 ?_))), ev_neg h1 (ev_neg h2 (ev_neg h3 (ev_neg h5 ?_)))⟩
      · rw [e]
        refine Ev.step (fun k => by rw [spec_l5Ends.j4]) ?_
        exact ev_neg (by simp) (ev_const rfl)
      · rw [e]
        refine Ev.step (fun k => by rw [impl_patEnds.j3]) ?_
        exact ev_neg (by simp) (ev_const rfl)
    obtain ⟨r, hr, z1, z2⟩ := main
    refine ⟨r, hr, ?_, ?_⟩
    · show Ev (fun k => spec_l5Ends.f k kd cs ks s st) r
      refine Ev.step (fun k => by rw [spec_l5Ends.f]) ?_
      rw [en, Int.toNat_natCast]
      refine ev_pos (by omega) (ev_pos (by omega) (ev_let _ rfl ?_))
      rw [take_all st _ hst]
      exact z1
    · show Ev (fun k => impl_patEnds.f k kd cs ks s st) r
      refine Ev.step (fun k => by rw [impl_patEnds.f]) ?_
      rw [en, Int.toNat_natCast]
      refine ev_pos (by omega) (ev_pos (by omega) (ev_let _ rfl ?_))
      rw [take_all st _ hst]
      exact z2
theorem one_ev (s : ByteArray) (hs : s.size ≤ 1048576) : ∀ (l : List PT) (h1 : l.length = 1) (hm : mu46 l ≤ 1048576), ∃ q : PT, (∀ st : List Bool, st.length = s.size + 1 → PE s q st) ∧ l = [q]
  | [], h1, hm => by simp at h1
  | q :: l, h1, hm => by
    rw [mu46] at hm
    refine ⟨q, fun st hst => pat_ev s hs q st hst (by omega), ?_⟩
    cases l with
    | nil => rfl
    | cons _ _ => simp at h1
theorem seq_ev (s : ByteArray) (hs : s.size ≤ 1048576) : ∀ (suf pre : List PT) (cur : List Bool) (kd : Int) (cs : ByteArray) (hc : cur.length = s.size + 1) (hb : (pre ++ suf).length ≤ 1048576) (hm : mu46 suf ≤ 1048576), ∃ r : List Bool, r.length = s.size + 1 ∧ Ev (fun k => spec_l5Ends.l2 k s cur (pre.length : Int) kd cs (pre ++ suf)) r ∧ Ev (fun k => impl_patEnds.l1 k s cur (pre ++ suf) ((pre ++ suf).length : Int) (pre.length : Int)) r
  | [], pre, cur, kd, cs, hc, hb, hm => by
    refine ⟨cur, hc, Ev.step (fun k => by rw [spec_l5Ends.l2]) ?_, Ev.step (fun k => by rw [impl_patEnds.l1]) ?_⟩
    · exact ev_neg (by simp) (ev_const rfl)
    · exact ev_neg (by simp) (ev_const rfl)
  | x :: suf, pre, cur, kd, cs, hc, hb, hm => by
    have ex : rd_T46 (pre ++ x :: suf) (pre.length : Int) = x := by unfold rd_T46; exact at_pre pre suf x _
    have hb' := hb
    simp only [List.length_append, List.length_cons] at hb'
    rw [mu46] at hm
    obtain ⟨e, he, w1, w2⟩ := pat_ev s hs x cur hc (by omega)
    obtain ⟨r, hr, z1, z2⟩ := seq_ev s hs suf (pre ++ [x]) e kd cs he (by simpa using hb) (by omega)
    rw [List.append_assoc, List.singleton_append] at z1 z2
    refine ⟨r, hr, Ev.step (fun k => by rw [spec_l5Ends.l2]) ?_, Ev.step (fun k => by rw [impl_patEnds.l1]) ?_⟩
    · refine ev_pos (by simp only [List.length_append, List.length_cons]; omega) (ev_pos (by omega) ?_)
      rw [ex, next_pre pre x (by omega)]
      exact ev_bind e w1 z1
    · refine ev_pos (by simp only [List.length_append, List.length_cons]; omega) (ev_pos (by omega) (ev_pos (by simp only [List.length_append, List.length_cons]; omega) ?_))
      rw [ex, next_pre pre x (by omega)]
      exact ev_bind e w2 z2
theorem alt_ev (s : ByteArray) (hs : s.size ≤ 1048576) (st : List Bool) (hst : st.length = s.size + 1) : ∀ (suf pre : List PT) (cur : List Bool) (kd : Int) (cs : ByteArray) (hc : cur.length = s.size + 1) (hb : (pre ++ suf).length ≤ 1048576) (hm : mu46 suf ≤ 1048576), ∃ r : List Bool, r.length = s.size + 1 ∧ Ev (fun k => spec_l5Ends.l3 k s st cur (pre.length : Int) kd cs (pre ++ suf)) r ∧ Ev (fun k => impl_patEnds.l2 k s st cur (pre ++ suf) ((pre ++ suf).length : Int) (pre.length : Int)) r
  | [], pre, cur, kd, cs, hc, hb, hm => by
    refine ⟨cur, hc, Ev.step (fun k => by rw [spec_l5Ends.l3]) ?_, Ev.step (fun k => by rw [impl_patEnds.l2]) ?_⟩
    · exact ev_neg (by simp) (ev_const rfl)
    · exact ev_neg (by simp) (ev_const rfl)
  | x :: suf, pre, cur, kd, cs, hc, hb, hm => by
    have ex : rd_T46 (pre ++ x :: suf) (pre.length : Int) = x := by unfold rd_T46; exact at_pre pre suf x _
    have hb' := hb
    simp only [List.length_append, List.length_cons] at hb'
    rw [mu46] at hm
    obtain ⟨e, he, w1, w2⟩ := pat_ev s hs x st hst (by omega)
    obtain ⟨r, hr, z1, z2⟩ := alt_ev s hs st hst suf (pre ++ [x]) (uni cur e) kd cs (by rw [uni_length cur e (by omega)]; omega) (by simpa using hb) (by omega)
    rw [List.append_assoc, List.singleton_append] at z1 z2
    refine ⟨r, hr, Ev.step (fun k => by rw [spec_l5Ends.l3]) ?_, Ev.step (fun k => by rw [impl_patEnds.l2]) ?_⟩
    · refine ev_pos (by simp only [List.length_append, List.length_cons]; omega) (ev_pos (by omega) ?_)
      rw [ex, next_pre pre x (by omega)]
      exact ev_bind e w1 (ev_bind _ (both_ev cur e (by omega) (by omega)) z1)
    · refine ev_pos (by simp only [List.length_append, List.length_cons]; omega) (ev_pos (by omega) (ev_pos (by simp only [List.length_append, List.length_cons]; omega) ?_))
      rw [ex, next_pre pre x (by omega)]
      exact ev_bind e w2 (ev_bind _ (join_ev cur e (by omega) (by omega)) z2)
end
theorem match_ev (s : ByteArray) (hs : s.size ≤ 1048576) (p : PT) (hm : ms46 p ≤ 1048576) : ∃ r : Bool, Ev (fun k => spec_MatchPattern.f k p.f0 p.f1 p.f2 s) r ∧ Ev (fun k => impl_MatchPattern.f k p.f0 p.f1 p.f2 s) r := by
  have en : wrap64 ((s.size : Int) + 1) = ((s.size + 1 : Nat) : Int) := by rw [w64 (by omega) (by omega)]; omega
  obtain ⟨r, hr, z1, z2⟩ := pat_ev s hs p ((List.replicate (s.size + 1) false).set ((0 : Int)).toNat true) (by simp) hm
  refine ⟨rdOf false r (s.size : Int), ?_, ?_⟩
  · simp only [spec_MatchPattern.f, en, Int.toNat_natCast]
    refine ev_pos (by omega) (ev_pos (by omega) (ev_let _ rfl (ev_pos (by rw [List.length_replicate]; omega) (ev_bind r z1 ?_))))
    exact ev_pos (by omega) (ev_pos (by omega) (ev_const rfl))
  · simp only [impl_MatchPattern.f, en, Int.toNat_natCast]
    refine ev_pos (by omega) (ev_pos (by omega) (ev_let _ rfl (ev_pos (by rw [List.length_replicate]; omega) (ev_bind r z2 ?_))))
    exact ev_pos (by omega) (ev_pos (by omega) (ev_const rfl))

theorem FnExactMatchPattern : laws_FnExactMatchPattern.Pure := by
  rintro p s g hs
  refine Ev.rounds ?_
  simp only [laws_FnExactMatchPattern.f]
  refine ev_ite (fun _ => ev_const rfl) (fun hlt => ?_)
  refine sz_guard (szPat_ok p 1048576 g (by omega) (by omega)) (fun z hz ez => ?_)
  have hc : ms46 (cv41 p) ≤ 1048576 := by rw [mscv41]; omega
  obtain ⟨r, z1, z2⟩ := match_ev s (by omega) (cv41 p) hc
  refine ev_bind _ (toPat_ev p (by omega)) (ev_bind r z1 ?_)
  refine ev_bind _ (toPat_ev p (by omega)) (ev_bind r z2 ?_)
  refine ev_neg (by simp) ?_
  refine ev_bind _ (toPat_ev p (by omega)) (ev_bind _ (eqPat_ev (cv41 p) (by omega)) ?_)
  exact ev_pos rfl (ev_const rfl)

end Go.Proofs.Ytnccklajpmpfdaa.Pure.LFnExactMatchPattern
namespace Go.Proofs.Ytnccklajpmpfdaa.Pure
theorem FnExactMatchPattern : PFnExactMatchPattern.laws_FnExactMatchPattern.Pure := LFnExactMatchPattern.FnExactMatchPattern
end Go.Proofs.Ytnccklajpmpfdaa.Pure
