/- For every two trees, the program's SameTree returns what the reference's SameTree returns. -/
import Derived.Test.YtnccklajpmpfdaaPFnExactSameTreex0
import Derived.Test.YtnccklajpmpfdaaPFnExactSameTreex1
import Derived.Test.YtnccklajpmpfdaaPFnExactSameTreex2
import Derived.Test.YtnccklajpmpfdaaPFnExactSameTreex3
import Derived.Test.YtnccklajpmpfdaaPFnExactSameTreex4
import Derived.Test.YtnccklajpmpfdaaPFnExactSameTreex5
import Derived.Test.YtnccklajpmpfdaaQFnExactSameTree
import Derived.Test.YtnccklajpmpfdaaBase
namespace Go.Proofs.Ytnccklajpmpfdaa.Pure.LFnExactSameTree
open Go.RowKit Go.Proofs.Ytnccklajpmpfdaa.PFnExactSameTree Go.Proofs.YtnccklajpmpfdaaW.PrintWords Go.Proofs.YtnccklajpmpfdaaW.PrintLast Go.Proofs.YtnccklajpmpfdaaW.PrintMore Go.Proofs.Ytnccklajpmpfdaa.Base
set_option linter.unusedVariables false
set_option linter.unusedSimpArgs false

/-! #### the law's own helpers -/
def mustr : List ByteArray → Nat
  | [] => 0
  | x :: l => x.size + mustr l
theorem mustr_mem {l : List ByteArray} {x : ByteArray} (h : x ∈ l) : x.size ≤ mustr l := by
  induction l with
  | nil => cases h
  | cons y l ih =>
    simp only [mustr]
    rcases List.mem_cons.1 h with rfl | h
    · omega
    · have := ih h; omega
theorem mustr_append (l l' : List ByteArray) : mustr (l ++ l') = mustr l + mustr l' := by
  induction l with
  | nil => simp [mustr]
  | cons x l ih => simp only [List.cons_append, mustr, ih]; omega
mutual
def ms88 : S88 → Nat
  | ⟨a0, a1, a2⟩ => (a0.size + (a1.size + ((a2.length + mu88 a2) + 0)))
def mu88 : List S88 → Nat
  | [] => 0
  | x :: l => ms88 x + mu88 l
end
theorem mu88_append (l l' : List S88) : mu88 (l ++ l') = mu88 l + mu88 l' := by
  induction l with
  | nil => simp [mu88]
  | cons x l ih => simp only [List.cons_append, mu88, ih]; omega
theorem mu88_mem {l : List S88} {x : S88} (h : x ∈ l) : ms88 x ≤ mu88 l := by
  induction l with
  | nil => cases h
  | cons y l ih =>
    simp only [mu88]
    rcases List.mem_cons.1 h with rfl | h
    · omega
    · have := ih h; omega
mutual
def ms78 : S78 → Nat
  | ⟨a0, a1, a2⟩ => (a0.size + (a1.size + ((a2.length + mu78 a2) + 0)))
def mu78 : List S78 → Nat
  | [] => 0
  | x :: l => ms78 x + mu78 l
end
theorem mu78_append (l l' : List S78) : mu78 (l ++ l') = mu78 l + mu78 l' := by
  induction l with
  | nil => simp [mu78]
  | cons x l ih => simp only [List.cons_append, mu78, ih]; omega
theorem mu78_mem {l : List S78} {x : S78} (h : x ∈ l) : ms78 x ≤ mu78 l := by
  induction l with
  | nil => cases h
  | cons y l ih =>
    simp only [mu78]
    rcases List.mem_cons.1 h with rfl | h
    · omega
    · have := ih h; omega
mutual
theorem szNode_ok : ∀ (x : S88) (left : Int) (g : G88 x) (h0 : 0 ≤ left) (h1 : left ≤ 1048576), SzOk (fun k => laws_szNode.f k (x.f0) (x.f1) (x.f2) left) left (ms88 x)
  | ⟨a0, a1, a2⟩, left, g, h0, h1 => by
    simp only [G88, GL88_iff] at g
    obtain ⟨g0, g1, g2⟩ := g
    rw [ms88]
    show SzOk (fun k => laws_szNode.f k a0 a1 a2 left) _ _
    refine sz_step (fun k => by rw [laws_szNode.f]) ?_
    have e : wrap64 (left - (a0.size : Int)) = left - (a0.size : Int) := w64 (by have := g0; unfold maxLen at this; omega) (by omega)
    simp only [e]; clear e
    refine sz_len ?_; intro q
    generalize ec : left - (a0.size : Int) = c0 at q ⊢
    have q' : c0 ≤ 1048576 := by omega
    have e : wrap64 (c0 - (a1.size : Int)) = c0 - (a1.size : Int) := w64 (by have := g1; unfold maxLen at this; omega) (by omega)
    simp only [e]; clear e
    refine sz_len ?_; intro q
    generalize ec : c0 - (a1.size : Int) = c1 at q ⊢
    have q' : c1 ≤ 1048576 := by omega
    refine sz_call (n := _ + mu88 _) (sz_step (fun k => by rw [laws_szNodeS.f]) ?own) ?_
    case own =>
      have e : wrap64 (_ - ((_ : Nat) : Int)) = _ := w64 (x := c1 - (a2.length : Int)) (by have := g2.1; unfold maxLen at this; omega) (by omega)
      simp only [e]; clear e
      refine sz_len ?_; intro q
      generalize ec : c1 - (a2.length : Int) = cown at q ⊢
      exact szNodeS_l0 a2 [] cown (by simpa using g2.1) g2.2 (by assumption) (by omega)
    intro c2 q ec
    have q' : c2 ≤ 1048576 := by omega
    exact sz_ret _ (by assumption)

theorem szNodeS_l0 : ∀ (suf pre : List S88) (left : Int) (hb : (pre ++ suf).length ≤ maxLen) (g : ∀ y ∈ suf, G88 y) (h0 : 0 ≤ left) (h1 : left ≤ 1048576), SzOk (fun k => laws_szNodeS.l0 k (pre ++ suf) left (pre.length : Int)) left (mu88 suf)
  | [], pre, left, hb, g, h0, h1 => by
    refine sz_step (fun k => by rw [laws_szNodeS.l0]) ?_
    refine sz_neg (by simp) ?_
    rw [mu88]
    exact sz_ret _ h0
  | x :: suf, pre, left, hb, g, h0, h1 => by
    have gx := g x List.mem_cons_self
    have ex : rd_T88 (pre ++ x :: suf) (pre.length : Int) = x := by unfold rd_T88; exact at_pre pre suf x _
    refine sz_step (fun k => by rw [laws_szNodeS.l0]) ?_
    refine sz_pos (by simp only [List.length_append, List.length_cons]; omega) (sz_pos (by omega) ?_)
    rw [ex, mu88]
    refine sz_call (szNode_ok x left gx (by assumption) (by omega)) ?_; intro c0 q ec
    have q' : c0 ≤ 1048576 := by omega
    rw [next_pre pre x (by have := hb; simp only [List.length_append, List.length_cons] at this; unfold maxLen at this; omega)]
    have z := szNodeS_l0 suf (pre ++ [x]) c0 (by simpa using hb) (fun y hy => g y (List.mem_cons_of_mem _ hy)) (by assumption) (by omega)
    rw [List.append_assoc] at z
    exact z
end
theorem szNodeS_ok : ∀ (l : List S88) (left : Int) (g : l.length ≤ maxLen ∧ ∀ y ∈ l, G88 y) (h0 : 0 ≤ left) (h1 : left ≤ 1048576), SzOk (fun k => laws_szNodeS.f k l left) left (l.length + mu88 l)
  | l, left, g, h0, h1 => by
    refine sz_step (fun k => by rw [laws_szNodeS.f]) ?_
    have e : wrap64 (left - (l.length : Int)) = left - (l.length : Int) := w64 (by have := g.1; unfold maxLen at this; omega) (by omega)
    simp only [e]; clear e
    refine sz_len ?_; intro q
    generalize ec : left - (l.length : Int) = c0 at q ⊢
    have q' : c0 ≤ 1048576 := by omega
    exact szNodeS_l0 l [] c0 (by simpa using g.1) g.2 (by assumption) (by assumption)
mutual
def cv88 : S88 → S78
  | ⟨a0, a1, a2⟩ => ⟨a0, a1, (cvl88 a2)⟩
def cvl88 : List S88 → List S78
  | [] => []
  | x :: l => cv88 x :: cvl88 l
end
theorem cvl88_length (l : List S88) : (cvl88 l).length = l.length := by
  induction l with
  | nil => rfl
  | cons x l ih => simp only [cvl88, List.length_cons, ih]
theorem cvl88_append (l l' : List S88) : cvl88 (l ++ l') = cvl88 l ++ cvl88 l' := by
  induction l with
  | nil => rfl
  | cons x l ih => simp only [List.cons_append, cvl88, ih]
theorem cvl88_map (l : List S88) : cvl88 l = l.map cv88 := by
  induction l with
  | nil => rfl
  | cons x l ih => simp only [List.map_cons, cvl88, ih]
mutual
theorem mscv88 : ∀ x, ms78 (cv88 x) = ms88 x
  | ⟨a0, a1, a2⟩ => by
    have h := mucv88 a2
    simp only [cv88, ms78, ms88, cvl88_length, h]
theorem mucv88 : ∀ l, mu78 (cvl88 l) = mu88 l
  | [] => rfl
  | x :: l => by
    have h := mscv88 x
    have h' := mucv88 l
    simp only [cvl88, mu78, mu88, h, h']
end
mutual
theorem toNode_ev : ∀ (x : S88) (hm : ms88 x ≤ 1048576), Ev (fun k => laws_toNode.f k (x.f0) (x.f1) (x.f2)) ((cv88 x).f0, (cv88 x).f1, (cv88 x).f2)
  | ⟨a0, a1, a2⟩, hm => by
    rw [ms88] at hm
    show Ev (fun k => laws_toNode.f k a0 a1 a2) _
    refine Ev.step (fun k => by rw [laws_toNode.f]) ?_
    refine ev_bind (cvl88 a2) (Ev.step (fun k => by rw [laws_toNodeS.f]) ?own) ?_
    case own =>
      refine ev_pos (by omega) (ev_pos (by omega) ?_)
      have z := toNodeS_l0 a2 [] (by rw [List.nil_append]; omega) (by omega)
      exact z
    exact ev_const (by simp only [cv88])
theorem toNodeS_l0 : ∀ (suf pre : List S88) (hb : (pre ++ suf).length ≤ 1048576) (hm : mu88 suf ≤ 1048576), Ev (fun k => laws_toNodeS.l0 k (pre ++ suf) ((cvl88 pre) ++ List.replicate suf.length z78) (pre.length : Int)) (cvl88 (pre ++ suf))
  | [], pre, hb, hm => by
    refine Ev.step (fun k => by rw [laws_toNodeS.l0]) ?_
    refine ev_neg (by simp) (ev_const ?_)
    simp
  | x :: suf, pre, hb, hm => by
    have ex : rd_T88 (pre ++ x :: suf) (pre.length : Int) = x := by unfold rd_T88; exact at_pre pre suf x _
    have hb' := hb
    simp only [List.length_append, List.length_cons] at hb'
    rw [mu88] at hm
    refine Ev.step (fun k => by rw [laws_toNodeS.l0]) ?_
    refine ev_pos (by simp only [List.length_append, List.length_cons]; omega) (ev_pos (by omega) ?_)
    rw [ex]
    refine ev_bind _ (toNode_ev x (by omega)) ?_
    refine ev_pos (by simp only [List.length_append, cvl88_length, List.length_replicate, List.length_cons]; omega) ?_
    have es : (cvl88 pre ++ List.replicate (x :: suf).length z78).set ((pre.length : Int)).toNat (cv88 x) = cvl88 (pre ++ [x]) ++ List.replicate suf.length z78 := by
      have h2 := set_pre (cvl88 pre) (List.replicate suf.length z78) z78 (cv88 x)
      rw [cvl88_length] at h2
      rw [List.length_cons, List.replicate_succ, h2, cvl88_append]; rfl
    rw [next_pre pre x (by omega)]
    have z := toNodeS_l0 suf (pre ++ [x]) (by simpa using hb) (by omega)
    rw [List.append_assoc] at z
    rw [← es] at z
    have e2 : (⟨(cv88 x).f0, (cv88 x).f1, (cv88 x).f2⟩ : S78) = cv88 x := by cases cv88 x; rfl
    show Ev (fun k => laws_toNodeS.l0 k (pre ++ x :: suf) ((cvl88 pre ++ List.replicate (x :: suf).length z78).set ((pre.length : Int)).toNat (⟨(cv88 x).f0, (cv88 x).f1, (cv88 x).f2⟩ : S78)) ((pre ++ [x]).length : Int)) (cvl88 (pre ++ x :: suf))
    rw [e2]
    exact z
end
theorem toNodeS_ev (l : List S88) (hm : (l.length + mu88 l) ≤ 1048576) : Ev (fun k => laws_toNodeS.f k l) (cvl88 l) := by
  refine Ev.step (fun k => by rw [laws_toNodeS.f]) ?_
  have hl : l.length ≤ 1048576 := by omega
  refine ev_pos (by omega) (ev_pos (by omega) ?_)
  have z := toNodeS_l0 l [] (by simpa using hl) (by omega)
  simpa [cvl88] using z
mutual
theorem eqNode_ev : ∀ (x : S78) (hm : ms78 x ≤ 4611686018427387904), Ev (fun k => laws_eqNode.f k (x.f0) (x.f1) (x.f2) (x.f0) (x.f1) (x.f2)) true
  | ⟨a0, a1, a2⟩, hm => by
    rw [ms78] at hm
    show Ev (fun k => laws_eqNode.f k a0 a1 a2 a0 a1 a2) _
    refine Ev.step (fun k => by rw [laws_eqNode.f]) ?_
    refine ev_pos (by simp) ?_
    refine ev_pos (by simp) ?_
    refine ev_bind true (Ev.step (fun k => by rw [laws_eqNodeS.f]) ?own) (ev_pos (by simp) ?_)
    case own =>
      exact ev_pos (by simp) (eqNodeS_l0 a2 [] (by rw [List.nil_append]; omega) (by omega))
    exact ev_const rfl
theorem eqNodeS_l0 : ∀ (suf pre : List S78) (hb : (pre ++ suf).length ≤ 4611686018427387904) (hm : mu78 suf ≤ 4611686018427387904), Ev (fun k => laws_eqNodeS.l0 k (pre ++ suf) (pre ++ suf) (pre.length : Int)) true
  | [], pre, hb, hm => by
    refine Ev.step (fun k => by rw [laws_eqNodeS.l0]) ?_
    exact ev_neg (by simp) (ev_const rfl)
  | x :: suf, pre, hb, hm => by
    have ex : rd_T78 (pre ++ x :: suf) (pre.length : Int) = x := by unfold rd_T78; exact at_pre pre suf x _
    have hb' := hb
    simp only [List.length_append, List.length_cons] at hb'
    rw [mu78] at hm
    refine Ev.step (fun k => by rw [laws_eqNodeS.l0]) ?_
    refine ev_pos (by simp only [List.length_append, List.length_cons]; omega) (ev_pos (by omega) (ev_pos (by simp only [List.length_append, List.length_cons]; omega) ?_))
    rw [ex]
    refine ev_bind _ (eqNode_ev x (by omega)) (ev_pos (by simp) ?_)
    rw [next_pre pre x (by omega)]
    have z := eqNodeS_l0 suf (pre ++ [x]) (by simpa using hb) (by omega)
    rw [List.append_assoc] at z
    exact z
end
theorem eqNodeS_ev (l : List S78) (hm : (l.length + mu78 l) ≤ 4611686018427387904) : Ev (fun k => laws_eqNodeS.f k l l) true := by
  refine Ev.step (fun k => by rw [laws_eqNodeS.f]) ?_
  refine ev_pos (by simp) ?_
  exact eqNodeS_l0 l [] (by rw [List.nil_append]; omega) (by omega)

/-! #### SameTree -/
mutual
def sN : S78 → S78 → Bool
  | ⟨a, b, l⟩, y => decide (a.toList = y.f0.toList) && (decide (b.toList = y.f1.toList) && (decide (l.length = y.f2.length) && sNl l y.f2))
def sNl : List S78 → List S78 → Bool
  | [], _ => true
  | _ :: _, [] => true
  | x :: l, y :: l' => sN x y && sNl l l'
end
mutual
theorem spec_S : ∀ (x y : S78) (hm : ms78 x ≤ 1048576), Ev (fun k => spec_SameTree.f k x.f2 y.f2) (decide (x.f2.length = y.f2.length) && sNl x.f2 y.f2)
  | ⟨a, b, l⟩, y, hm => by
    simp only [ms78] at hm
    show Ev (fun k => spec_SameTree.f k l y.f2) (decide (l.length = y.f2.length) && sNl l y.f2)
    refine Ev.step (fun k => by rw [spec_SameTree.f]) ?_
    refine ev_ite (fun h => ?_) (fun h => ?_)
    · have h' : l.length = y.f2.length := by omega
      rw [decide_eq_true h', Bool.true_and]
      exact spec_S_l0 l y.f2 [] [] rfl h' (by simp; omega) (by omega)
    · rw [decide_eq_false (by omega), Bool.false_and]
      exact ev_const rfl
theorem spec_S_l0 : ∀ (suf suf' pre pre' : List S78) (hp : pre.length = pre'.length) (hs : suf.length = suf'.length) (hb : (pre ++ suf).length ≤ 1048576) (hm : mu78 suf ≤ 1048576), Ev (fun k => spec_SameTree.l0 k (pre ++ suf) (pre' ++ suf') (pre.length : Int)) (sNl suf suf')
  | [], suf', pre, pre', hp, hs, hb, hm => by
    refine Ev.step (fun k => by rw [spec_SameTree.l0]) ?_
    exact ev_neg (by simp) (ev_const (by rw [sNl]))
  | x :: suf, [], pre, pre', hp, hs, hb, hm => by simp at hs
  | x :: suf, y :: suf', pre, pre', hp, hs, hb, hm => by
    have ex : rd_T78 (pre ++ x :: suf) (pre.length : Int) = x := by unfold rd_T78; exact at_pre pre suf x _
    have ey : rd_T78 (pre' ++ y :: suf') (pre.length : Int) = y := by unfold rd_T78; rw [hp]; exact at_pre pre' suf' y _
    have hb' := hb
    simp only [List.length_append, List.length_cons] at hb'
    simp only [List.length_cons] at hs
    rw [mu78] at hm
    refine Ev.step (fun k => by rw [spec_SameTree.l0]) ?_
    refine ev_pos (by simp only [List.length_append, List.length_cons]; omega) (ev_pos (by omega) (ev_pos (by simp only [List.length_append, List.length_cons]; omega) ?_))
    rw [ex, ey, next_pre pre x (by omega), sNl]
    have h3 := spec_S x y (by omega)
    have z := spec_S_l0 suf suf' (pre ++ [x]) (pre' ++ [y]) (by simp [hp]) (by omega) (by simpa using hb) (by omega)
    rw [List.append_assoc, List.append_assoc] at z
    have e4 : sN x y = (decide (x.f0.toList = y.f0.toList) && (decide (x.f1.toList = y.f1.toList) && (decide (x.f2.length = y.f2.length) && sNl x.f2 y.f2))) := by cases x; rw [sN]
    rw [e4]
    refine ev_ite (fun h => ?_) (fun h => ?_)
    · rw [decide_eq_true h, Bool.true_and]
      refine ev_ite (fun h2 => ?_) (fun h2 => ?_)
      · rw [decide_eq_true h2, Bool.true_and]
        refine ev_bind _ h3 ?_
        refine ev_ite (fun h5 => ?_) (fun h5 => ?_)
        · rw [h5, Bool.true_and]; exact z
        · rw [Bool.eq_false_iff.mpr h5, Bool.false_and]; exact ev_const rfl
      · rw [decide_eq_false h2, Bool.false_and, Bool.false_and]; exact ev_const rfl
    · rw [decide_eq_false h, Bool.false_and, Bool.false_and]; exact ev_const rfl
end
theorem spec_SameTree_ev (l l' : List S78) (hm : l.length + mu78 l ≤ 1048576) : Ev (fun k => spec_SameTree.f k l l') (decide (l.length = l'.length) && sNl l l') := by
  refine Ev.step (fun k => by rw [spec_SameTree.f]) ?_
  refine ev_ite (fun h => ?_) (fun h => ?_)
  · have h' : l.length = l'.length := by omega
    rw [decide_eq_true h', Bool.true_and]
    exact spec_S_l0 l l' [] [] rfl h' (by simp; omega) (by omega)
  · rw [decide_eq_false (by omega), Bool.false_and]
    exact ev_const rfl
mutual
theorem impl_S : ∀ (x y : S78) (hm : ms78 x ≤ 1048576), Ev (fun k => impl_SameTree.f k x.f2 y.f2) (decide (x.f2.length = y.f2.length) && sNl x.f2 y.f2)
  | ⟨a, b, l⟩, y, hm => by
    simp only [ms78] at hm
    show Ev (fun k => impl_SameTree.f k l y.f2) (decide (l.length = y.f2.length) && sNl l y.f2)
    refine Ev.step (fun k => by rw [impl_SameTree.f]) ?_
    refine ev_ite (fun h => ?_) (fun h => ?_)
    · have h' : l.length = y.f2.length := by omega
      rw [decide_eq_true h', Bool.true_and]
      exact impl_S_l0 l y.f2 [] [] rfl h' (by simp; omega) (by omega)
    · rw [decide_eq_false (by omega), Bool.false_and]
      exact ev_const rfl
theorem impl_S_l0 : ∀ (suf suf' pre pre' : List S78) (hp : pre.length = pre'.length) (hs : suf.length = suf'.length) (hb : (pre ++ suf).length ≤ 1048576) (hm : mu78 suf ≤ 1048576), Ev (fun k => impl_SameTree.l0 k (pre ++ suf) (pre' ++ suf') ((pre ++ suf).length : Int) (pre.length : Int)) (sNl suf suf')
  | [], suf', pre, pre', hp, hs, hb, hm => by
    refine Ev.step (fun k => by rw [impl_SameTree.l0]) ?_
    exact ev_neg (by simp) (ev_const (by rw [sNl]))
  | x :: suf, [], pre, pre', hp, hs, hb, hm => by simp at hs
  | x :: suf, y :: suf', pre, pre', hp, hs, hb, hm => by
    have ex : rd_T78 (pre ++ x :: suf) (pre.length : Int) = x := by unfold rd_T78; exact at_pre pre suf x _
    have ey : rd_T78 (pre' ++ y :: suf') (pre.length : Int) = y := by unfold rd_T78; rw [hp]; exact at_pre pre' suf' y _
    have hb' := hb
    simp only [List.length_append, List.length_cons] at hb'
    simp only [List.length_cons] at hs
    rw [mu78] at hm
    refine Ev.step (fun k => by rw [impl_SameTree.l0]) ?_
    refine ev_pos (by simp only [List.length_append, List.length_cons]; omega) (ev_pos (by omega) (ev_pos (by simp only [List.length_append, List.length_cons]; omega) (ev_pos (by simp only [List.length_append, List.length_cons]; omega) ?_)))
    rw [ex, ey, next_pre pre x (by omega), sNl]
    have h3 := impl_S x y (by omega)
    have z := impl_S_l0 suf suf' (pre ++ [x]) (pre' ++ [y]) (by simp [hp]) (by omega) (by simpa using hb) (by omega)
    rw [List.append_assoc, List.append_assoc] at z
    have e4 : sN x y = (decide (x.f0.toList = y.f0.toList) && (decide (x.f1.toList = y.f1.toList) && (decide (x.f2.length = y.f2.length) && sNl x.f2 y.f2))) := by cases x; rw [sN]
    rw [e4]
    refine ev_ite (fun h => ?_) (fun h => ?_)
    · rw [decide_eq_true h, Bool.true_and]
      refine ev_ite (fun h2 => ?_) (fun h2 => ?_)
      · rw [decide_eq_true h2, Bool.true_and]
        refine ev_bind _ h3 ?_
        refine ev_ite (fun h5 => ?_) (fun h5 => ?_)
        · rw [h5, Bool.true_and]; exact z
        · rw [Bool.eq_false_iff.mpr h5, Bool.false_and]; exact ev_const rfl
      · rw [decide_eq_false h2, Bool.false_and, Bool.false_and]; exact ev_const rfl
    · rw [decide_eq_false h, Bool.false_and, Bool.false_and]; exact ev_const rfl
end
theorem impl_SameTree_ev (l l' : List S78) (hm : l.length + mu78 l ≤ 1048576) : Ev (fun k => impl_SameTree.f k l l') (decide (l.length = l'.length) && sNl l l') := by
  refine Ev.step (fun k => by rw [impl_SameTree.f]) ?_
  refine ev_ite (fun h => ?_) (fun h => ?_)
  · have h' : l.length = l'.length := by omega
    rw [decide_eq_true h', Bool.true_and]
    exact impl_S_l0 l l' [] [] rfl h' (by simp; omega) (by omega)
  · rw [decide_eq_false (by omega), Bool.false_and]
    exact ev_const rfl

theorem FnExactSameTree : laws_FnExactSameTree.Pure := by
  rintro l l' g g'
  refine Ev.rounds ?_
  simp only [laws_FnExactSameTree.f]
  refine sz_guard (szNodeS_ok l 1048576 g (by omega) (by omega)) (fun z hz ez => ?_)
  refine sz_guard (szNodeS_ok l' z g' (by omega) (by omega)) (fun z' hz' ez' => ?_)
  have hc : (cvl88 l).length + mu78 (cvl88 l) ≤ 1048576 := by rw [cvl88_length, mucv88]; omega
  have hc' : (cvl88 l').length + mu78 (cvl88 l') ≤ 1048576 := by rw [cvl88_length, mucv88]; omega
  refine ev_bind _ (toNodeS_ev l (by omega)) (ev_bind _ (toNodeS_ev l' (by omega)) (ev_bind _ (spec_SameTree_ev _ _ hc) ?_))
  refine ev_bind _ (toNodeS_ev l (by omega)) (ev_bind _ (toNodeS_ev l' (by omega)) (ev_bind _ (impl_SameTree_ev _ _ hc) ?_))
  refine ev_neg (by simp) ?_
  refine ev_bind _ (toNodeS_ev l (by omega)) (ev_bind _ (eqNodeS_ev _ (by omega)) (ev_pos rfl ?_))
  refine ev_bind _ (toNodeS_ev l' (by omega)) (ev_bind _ (eqNodeS_ev _ (by omega)) ?_)
  exact ev_pos rfl (ev_const rfl)

end Go.Proofs.Ytnccklajpmpfdaa.Pure.LFnExactSameTree
namespace Go.Proofs.Ytnccklajpmpfdaa.Pure
theorem FnExactSameTree : PFnExactSameTree.laws_FnExactSameTree.Pure := LFnExactSameTree.FnExactSameTree
end Go.Proofs.Ytnccklajpmpfdaa.Pure
