/- For every tree, the program's CountTree returns what the reference's CountTree returns. -/
import Derived.Test.YtnccklajpmpfdaaPFnExactCountTreex0
import Derived.Test.YtnccklajpmpfdaaPFnExactCountTreex1
import Derived.Test.YtnccklajpmpfdaaPFnExactCountTreex2
import Derived.Test.YtnccklajpmpfdaaQFnExactCountTree
import Derived.Test.YtnccklajpmpfdaaBase
namespace Go.Proofs.Ytnccklajpmpfdaa.Pure.LFnExactCountTree
open Go.RowKit Go.Proofs.Ytnccklajpmpfdaa.PFnExactCountTree Go.Proofs.YtnccklajpmpfdaaW.PrintWords Go.Proofs.YtnccklajpmpfdaaW.PrintLast Go.Proofs.YtnccklajpmpfdaaW.PrintMore Go.Proofs.Ytnccklajpmpfdaa.Base
set_option linter.unusedVariables false
set_option linter.unusedSimpArgs false

/-! #### the law's own helpers -/
def mustr : List ByteArray → Nat
  | [] => 0
  | x :: l => x.size + mustr l
theorem mustr_mem {l : List ByteArray} {x : ByteArray} (h : x ∈ l) : x.size ≤ mustr l := by
  induction l with
  | nil => cases h
  | cons y l ih =>
    simp only [mustr]
    rcases List.mem_cons.1 h with rfl | h
    · omega
    · have := ih h; omega
theorem mustr_append (l l' : List ByteArray) : mustr (l ++ l') = mustr l + mustr l' := by
  induction l with
  | nil => simp [mustr]
  | cons x l ih => simp only [List.cons_append, mustr, ih]; omega
mutual
def ms88 : S88 → Nat
  | ⟨a0, a1, a2⟩ => (a0.size + (a1.size + ((a2.length + mu88 a2) + 0)))
def mu88 : List S88 → Nat
  | [] => 0
  | x :: l => ms88 x + mu88 l
end
theorem mu88_append (l l' : List S88) : mu88 (l ++ l') = mu88 l + mu88 l' := by
  induction l with
  | nil => simp [mu88]
  | cons x l ih => simp only [List.cons_append, mu88, ih]; omega
theorem mu88_mem {l : List S88} {x : S88} (h : x ∈ l) : ms88 x ≤ mu88 l := by
  induction l with
  | nil => cases h
  | cons y l ih =>
    simp only [mu88]
    rcases List.mem_cons.1 h with rfl | h
    · omega
    · have := ih h; omega
mutual
def ms78 : S78 → Nat
  | ⟨a0, a1, a2⟩ => (a0.size + (a1.size + ((a2.length + mu78 a2) + 0)))
def mu78 : List S78 → Nat
  | [] => 0
  | x :: l => ms78 x + mu78 l
end
theorem mu78_append (l l' : List S78) : mu78 (l ++ l') = mu78 l + mu78 l' := by
  induction l with
  | nil => simp [mu78]
  | cons x l ih => simp only [List.cons_append, mu78, ih]; omega
theorem mu78_mem {l : List S78} {x : S78} (h : x ∈ l) : ms78 x ≤ mu78 l := by
  induction l with
  | nil => cases h
  | cons y l ih =>
    simp only [mu78]
    rcases List.mem_cons.1 h with rfl | h
    · omega
    · have := ih h; omega
mutual
theorem szNode_ok : ∀ (x : S88) (left : Int) (g : G88 x) (h0 : 0 ≤ left) (h1 : left ≤ 1048576), SzOk (fun k => laws_szNode.f k (x.f0) (x.f1) (x.f2) left) left (ms88 x)
  | ⟨a0, a1, a2⟩, left, g, h0, h1 => by
    simp only [G88, GL88_iff] at g
    obtain ⟨g0, g1, g2⟩ := g
    rw [ms88]
    show SzOk (fun k => laws_szNode.f k a0 a1 a2 left) _ _
    refine sz_step (fun k => by rw [laws_szNode.f]) ?_
    have e : wrap64 (left - (a0.size : Int)) = left - (a0.size : Int) := w64 (by have := g0; unfold maxLen at this; omega) (by omega)
    simp only [e]; clear e
    refine sz_len ?_; intro q
    generalize ec : left - (a0.size : Int) = c0 at q ⊢
    have q' : c0 ≤ 1048576 := by omega
    have e : wrap64 (c0 - (a1.size : Int)) = c0 - (a1.size : Int) := w64 (by have := g1; unfold maxLen at this; omega) (by omega)
    simp only [e]; clear e
    refine sz_len ?_; intro q
    generalize ec : c0 - (a1.size : Int) = c1 at q ⊢
    have q' : c1 ≤ 1048576 := by omega
    refine sz_call (n := _ + mu88 _) (sz_step (fun k => by rw [laws_szNodeS.f]) ?own) ?_
    case own =>
      have e : wrap64 (_ - ((_ : Nat) : Int)) = _ := w64 (x := c1 - (a2.length : Int)) (by have := g2.1; unfold maxLen at this; omega) (by omega)
      simp only [e]; clear e
      refine sz_len ?_; intro q
      generalize ec : c1 - (a2.length : Int) = cown at q ⊢
      exact szNodeS_l0 a2 [] cown (by simpa using g2.1) g2.2 (by assumption) (by omega)
    intro c2 q ec
    have q' : c2 ≤ 1048576 := by omega
    exact sz_ret _ (by assumption)

theorem szNodeS_l0 : ∀ (suf pre : List S88) (left : Int) (hb : (pre ++ suf).length ≤ maxLen) (g : ∀ y ∈ suf, G88 y) (h0 : 0 ≤ left) (h1 : left ≤ 1048576), SzOk (fun k => laws_szNodeS.l0 k (pre ++ suf) left (pre.length : Int)) left (mu88 suf)
  | [], pre, left, hb, g, h0, h1 => by
    refine sz_step (fun k => by rw [laws_szNodeS.l0]) ?_
    refine sz_neg (by simp) ?_
    rw [mu88]
    exact sz_ret _ h0
  | x :: suf, pre, left, hb, g, h0, h1 => by
    have gx := g x List.mem_cons_self
    have ex : rd_T88 (pre ++ x :: suf) (pre.length : Int) = x := by unfold rd_T88; exact at_pre pre suf x _
    refine sz_step (fun k => by rw [laws_szNodeS.l0]) ?_
    refine sz_pos (by simp only [List.length_append, List.length_cons]; omega) (sz_pos (by omega) ?_)
    rw [ex, mu88]
    refine sz_call (szNode_ok x left gx (by assumption) (by omega)) ?_; intro c0 q ec
    have q' : c0 ≤ 1048576 := by omega
    rw [next_pre pre x (by have := hb; simp only [List.length_append, List.length_cons] at this; unfold maxLen at this; omega)]
    have z := szNodeS_l0 suf (pre ++ [x]) c0 (by simpa using hb) (fun y hy => g y (List.mem_cons_of_mem _ hy)) (by assumption) (by omega)
    rw [List.append_assoc] at z
    exact z
end
theorem szNodeS_ok : ∀ (l : List S88) (left : Int) (g : l.length ≤ maxLen ∧ ∀ y ∈ l, G88 y) (h0 : 0 ≤ left) (h1 : left ≤ 1048576), SzOk (fun k => laws_szNodeS.f k l left) left (l.length + mu88 l)
  | l, left, g, h0, h1 => by
    refine sz_step (fun k => by rw [laws_szNodeS.f]) ?_
    have e : wrap64 (left - (l.length : Int)) = left - (l.length : Int) := w64 (by have := g.1; unfold maxLen at this; omega) (by omega)
    simp only [e]; clear e
    refine sz_len ?_; intro q
    generalize ec : left - (l.length : Int) = c0 at q ⊢
    have q' : c0 ≤ 1048576 := by omega
    exact szNodeS_l0 l [] c0 (by simpa using g.1) g.2 (by assumption) (by assumption)
mutual
def cv88 : S88 → S78
  | ⟨a0, a1, a2⟩ => ⟨a0, a1, (cvl88 a2)⟩
def cvl88 : List S88 → List S78
  | [] => []
  | x :: l => cv88 x :: cvl88 l
end
theorem cvl88_length (l : List S88) : (cvl88 l).length = l.length := by
  induction l with
  | nil => rfl
  | cons x l ih => simp only [cvl88, List.length_cons, ih]
theorem cvl88_append (l l' : List S88) : cvl88 (l ++ l') = cvl88 l ++ cvl88 l' := by
  induction l with
  | nil => rfl
  | cons x l ih => simp only [List.cons_append, cvl88, ih]
theorem cvl88_map (l : List S88) : cvl88 l = l.map cv88 := by
  induction l with
  | nil => rfl
  | cons x l ih => simp only [List.map_cons, cvl88, ih]
mutual
theorem mscv88 : ∀ x, ms78 (cv88 x) = ms88 x
  | ⟨a0, a1, a2⟩ => by
    have h := mucv88 a2
    simp only [cv88, ms78, ms88, cvl88_length, h]
theorem mucv88 : ∀ l, mu78 (cvl88 l) = mu88 l
  | [] => rfl
  | x :: l => by
    have h := mscv88 x
    have h' := mucv88 l
    simp only [cvl88, mu78, mu88, h, h']
end
mutual
theorem toNode_ev : ∀ (x : S88) (hm : ms88 x ≤ 1048576), Ev (fun k => laws_toNode.f k (x.f0) (x.f1) (x.f2)) ((cv88 x).f0, (cv88 x).f1, (cv88 x).f2)
  | ⟨a0, a1, a2⟩, hm => by
    rw [ms88] at hm
    show Ev (fun k => laws_toNode.f k a0 a1 a2) _
    refine Ev.step (fun k => by rw [laws_toNode.f]) ?_
    refine ev_bind (cvl88 a2) (Ev.step (fun k => by rw [laws_toNodeS.f]) ?own) ?_
    case own =>
      refine ev_pos (by omega) (ev_pos (by omega) ?_)
      have z := toNodeS_l0 a2 [] (by rw [List.nil_append]; omega) (by omega)
      exact z
    exact ev_const (by simp only [cv88])
theorem toNodeS_l0 : ∀ (suf pre : List S88) (hb : (pre ++ suf).length ≤ 1048576) (hm : mu88 suf ≤ 1048576), Ev (fun k => laws_toNodeS.l0 k (pre ++ suf) ((cvl88 pre) ++ List.replicate suf.length z78) (pre.length : Int)) (cvl88 (pre ++ suf))
  | [], pre, hb, hm => by
    refine Ev.step (fun k => by rw [laws_toNodeS.l0]) ?_
    refine ev_neg (by simp) (ev_const ?_)
    simp
  | x :: suf, pre, hb, hm => by
    have ex : rd_T88 (pre ++ x :: suf) (pre.length : Int) = x := by unfold rd_T88; exact at_pre pre suf x _
    have hb' := hb
    simp only [List.length_append, List.length_cons] at hb'
    rw [mu88] at hm
    refine Ev.step (fun k => by rw [laws_toNodeS.l0]) ?_
    refine ev_pos (by simp only [List.length_append, List.length_cons]; omega) (ev_pos (by omega) ?_)
    rw [ex]
    refine ev_bind _ (toNode_ev x (by omega)) ?_
    refine ev_pos (by simp only [List.length_append, cvl88_length, List.length_replicate, List.length_cons]; omega) ?_
    have es : (cvl88 pre ++ List.replicate (x :: suf).length z78).set ((pre.length : Int)).toNat (cv88 x) = cvl88 (pre ++ [x]) ++ List.replicate suf.length z78 := by
      have h2 := set_pre (cvl88 pre) (List.replicate suf.length z78) z78 (cv88 x)
      rw [cvl88_length] at h2
      rw [List.length_cons, List.replicate_succ, h2, cvl88_append]; rfl
    rw [next_pre pre x (by omega)]
    have z := toNodeS_l0 suf (pre ++ [x]) (by simpa using hb) (by omega)
    rw [List.append_assoc] at z
    rw [← es] at z
    have e2 : (⟨(cv88 x).f0, (cv88 x).f1, (cv88 x).f2⟩ : S78) = cv88 x := by cases cv88 x; rfl
    show Ev (fun k => laws_toNodeS.l0 k (pre ++ x :: suf) ((cvl88 pre ++ List.replicate (x :: suf).length z78).set ((pre.length : Int)).toNat (⟨(cv88 x).f0, (cv88 x).f1, (cv88 x).f2⟩ : S78)) ((pre ++ [x]).length : Int)) (cvl88 (pre ++ x :: suf))
    rw [e2]
    exact z
end
theorem toNodeS_ev (l : List S88) (hm : (l.length + mu88 l) ≤ 1048576) : Ev (fun k => laws_toNodeS.f k l) (cvl88 l) := by
  refine Ev.step (fun k => by rw [laws_toNodeS.f]) ?_
  have hl : l.length ≤ 1048576 := by omega
  refine ev_pos (by omega) (ev_pos (by omega) ?_)
  have z := toNodeS_l0 l [] (by simpa using hl) (by omega)
  simpa [cvl88] using z
mutual
theorem eqNode_ev : ∀ (x : S78) (hm : ms78 x ≤ 4611686018427387904), Ev (fun k => laws_eqNode.f k (x.f0) (x.f1) (x.f2) (x.f0) (x.f1) (x.f2)) true
  | ⟨a0, a1, a2⟩, hm => by
    rw [ms78] at hm
    show Ev (fun k => laws_eqNode.f k a0 a1 a2 a0 a1 a2) _
    refine Ev.step (fun k => by rw [laws_eqNode.f]) ?_
    refine ev_pos (by simp) ?_
    refine ev_pos (by simp) ?_
    refine ev_bind true (Ev.step (fun k => by rw [laws_eqNodeS.f]) ?own) (ev_pos (by simp) ?_)
    case own =>
      exact ev_pos (by simp) (eqNodeS_l0 a2 [] (by rw [List.nil_append]; omega) (by omega))
    exact ev_const rfl
theorem eqNodeS_l0 : ∀ (suf pre : List S78) (hb : (pre ++ suf).length ≤ 4611686018427387904) (hm : mu78 suf ≤ 4611686018427387904), Ev (fun k => laws_eqNodeS.l0 k (pre ++ suf) (pre ++ suf) (pre.length : Int)) true
  | [], pre, hb, hm => by
    refine Ev.step (fun k => by rw [laws_eqNodeS.l0]) ?_
    exact ev_neg (by simp) (ev_const rfl)
  | x :: suf, pre, hb, hm => by
    have ex : rd_T78 (pre ++ x :: suf) (pre.length : Int) = x := by unfold rd_T78; exact at_pre pre suf x _
    have hb' := hb
    simp only [List.length_append, List.length_cons] at hb'
    rw [mu78] at hm
    refine Ev.step (fun k => by rw [laws_eqNodeS.l0]) ?_
    refine ev_pos (by simp only [List.length_append, List.length_cons]; omega) (ev_pos (by omega) (ev_pos (by simp only [List.length_append, List.length_cons]; omega) ?_))
    rw [ex]
    refine ev_bind _ (eqNode_ev x (by omega)) (ev_pos (by simp) ?_)
    rw [next_pre pre x (by omega)]
    have z := eqNodeS_l0 suf (pre ++ [x]) (by simpa using hb) (by omega)
    rw [List.append_assoc] at z
    exact z
end
theorem eqNodeS_ev (l : List S78) (hm : (l.length + mu78 l) ≤ 4611686018427387904) : Ev (fun k => laws_eqNodeS.f k l l) true := by
  refine Ev.step (fun k => by rw [laws_eqNodeS.f]) ?_
  refine ev_pos (by simp) ?_
  exact eqNodeS_l0 l [] (by rw [List.nil_append]; omega) (by omega)

/-! #### CountTree -/
mutual
def nc : S78 → Nat
  | ⟨_, _, l⟩ => l.length + ncl l
def ncl : List S78 → Nat
  | [] => 0
  | x :: l => nc x + ncl l
end
mutual
theorem nc_le : ∀ x, nc x ≤ ms78 x
  | ⟨a, b, l⟩ => by
    have := ncl_le l
    simp only [nc, ms78]
    omega
theorem ncl_le : ∀ l, ncl l ≤ mu78 l
  | [] => Nat.le_refl _
  | x :: l => by
    have h := nc_le x
    have h' := ncl_le l
    simp only [ncl, mu78]
    omega
end
mutual
theorem spec_C : ∀ (x : S78) (hm : ms78 x ≤ 1048576), Ev (fun k => spec_CountTree.f k x.f2) (nc x : Int)
  | ⟨a, b, l⟩, hm => by
    simp only [ms78] at hm
    show Ev (fun k => spec_CountTree.f k l) _
    refine Ev.step (fun k => by rw [spec_CountTree.f]) ?_
    have z := spec_C_l0 l [] l.length (by simp; omega) (by omega) (by omega) (by omega)
    simp only [nc]
    rw [Int.natCast_add]
    exact z
theorem spec_C_l0 : ∀ (suf pre : List S78) (acc : Int) (hb : (pre ++ suf).length ≤ 1048576) (h0 : 0 ≤ acc) (h1 : acc + mu78 suf ≤ 1073741824) (hm : mu78 suf ≤ 1048576), Ev (fun k => spec_CountTree.l0 k (pre ++ suf) acc (pre.length : Int)) (acc + (ncl suf : Int))
  | [], pre, acc, hb, h0, h1, hm => by
    refine Ev.step (fun k => by rw [spec_CountTree.l0]) ?_
    exact ev_neg (by simp) (ev_const (by simp [ncl]))
  | x :: suf, pre, acc, hb, h0, h1, hm => by
    have ex : rd_T78 (pre ++ x :: suf) (pre.length : Int) = x := by unfold rd_T78; exact at_pre pre suf x _
    have hb' := hb
    simp only [List.length_append, List.length_cons] at hb'
    have hn := nc_le x
    rw [mu78] at hm h1
    refine Ev.step (fun k => by rw [spec_CountTree.l0]) ?_
    refine ev_pos (by simp only [List.length_append, List.length_cons]; omega) (ev_pos (by omega) ?_)
    rw [ex]
    refine ev_bind _ (spec_C x (by omega)) ?_
    rw [next_pre pre x (by omega), w64 (by omega) (by omega)]
    have z := spec_C_l0 suf (pre ++ [x]) (acc + nc x) (by simpa using hb) (by omega) (by omega) (by omega)
    rw [List.append_assoc] at z
    rw [ncl, Int.natCast_add, ← Int.add_assoc]
    exact z
end
theorem spec_CountTree_ev (l : List S78) (hm : l.length + mu78 l ≤ 1048576) : Ev (fun k => spec_CountTree.f k l) ((l.length + ncl l : Nat) : Int) := by
  refine Ev.step (fun k => by rw [spec_CountTree.f]) ?_
  have z := spec_C_l0 l [] l.length (by simp; omega) (by omega) (by omega) (by omega)
  rw [Int.natCast_add]
  exact z
mutual
theorem impl_C : ∀ (x : S78) (hm : ms78 x ≤ 1048576), Ev (fun k => impl_CountTree.f k x.f2) (nc x : Int)
  | ⟨a, b, l⟩, hm => by
    simp only [ms78] at hm
    show Ev (fun k => impl_CountTree.f k l) _
    refine Ev.step (fun k => by rw [impl_CountTree.f]) ?_
    have z := impl_C_l0 l [] l.length (by simp; omega) (by omega) (by omega) (by omega)
    simp only [nc]
    rw [Int.natCast_add]
    exact z
theorem impl_C_l0 : ∀ (suf pre : List S78) (acc : Int) (hb : (pre ++ suf).length ≤ 1048576) (h0 : 0 ≤ acc) (h1 : acc + mu78 suf ≤ 1073741824) (hm : mu78 suf ≤ 1048576), Ev (fun k => impl_CountTree.l0 k acc (pre ++ suf) ((pre ++ suf).length : Int) (pre.length : Int)) (acc + (ncl suf : Int))
  | [], pre, acc, hb, h0, h1, hm => by
    refine Ev.step (fun k => by rw [impl_CountTree.l0]) ?_
    exact ev_neg (by simp) (ev_const (by simp [ncl]))
  | x :: suf, pre, acc, hb, h0, h1, hm => by
    have ex : rd_T78 (pre ++ x :: suf) (pre.length : Int) = x := by unfold rd_T78; exact at_pre pre suf x _
    have hb' := hb
    simp only [List.length_append, List.length_cons] at hb'
    have hn := nc_le x
    rw [mu78] at hm h1
    refine Ev.step (fun k => by rw [impl_CountTree.l0]) ?_
    refine ev_pos (by simp only [List.length_append, List.length_cons]; omega) (ev_pos (by omega) (ev_pos (by simp only [List.length_append, List.length_cons]; omega) ?_))
    rw [ex]
    refine ev_bind _ (impl_C x (by omega)) ?_
    rw [next_pre pre x (by omega), w64 (by omega) (by omega)]
    have z := impl_C_l0 suf (pre ++ [x]) (acc + nc x) (by simpa using hb) (by omega) (by omega) (by omega)
    rw [List.append_assoc] at z
    rw [ncl, Int.natCast_add, ← Int.add_assoc]
    exact z
end
theorem impl_CountTree_ev (l : List S78) (hm : l.length + mu78 l ≤ 1048576) : Ev (fun k => impl_CountTree.f k l) ((l.length + ncl l : Nat) : Int) := by
  refine Ev.step (fun k => by rw [impl_CountTree.f]) ?_
  have z := impl_C_l0 l [] l.length (by simp; omega) (by omega) (by omega) (by omega)
  rw [Int.natCast_add]
  exact z

theorem FnExactCountTree : laws_FnExactCountTree.Pure := by
  rintro l g
  refine Ev.rounds ?_
  simp only [laws_FnExactCountTree.f]
  refine sz_guard (szNodeS_ok l 1048576 g (by omega) (by omega)) (fun z hz ez => ?_)
  have hc : (cvl88 l).length + mu78 (cvl88 l) ≤ 1048576 := by rw [cvl88_length, mucv88]; omega
  refine ev_bind _ (toNodeS_ev l (by omega)) (ev_bind _ (spec_CountTree_ev _ hc) ?_)
  refine ev_bind _ (toNodeS_ev l (by omega)) (ev_bind _ (impl_CountTree_ev _ hc) ?_)
  refine ev_pos (by simp) ?_
  refine ev_bind _ (toNodeS_ev l (by omega)) (ev_bind _ (eqNodeS_ev _ (by omega)) ?_)
  exact ev_pos rfl (ev_const rfl)

end Go.Proofs.Ytnccklajpmpfdaa.Pure.LFnExactCountTree
namespace Go.Proofs.Ytnccklajpmpfdaa.Pure
theorem FnExactCountTree : PFnExactCountTree.laws_FnExactCountTree.Pure := LFnExactCountTree.FnExactCountTree
end Go.Proofs.Ytnccklajpmpfdaa.Pure
