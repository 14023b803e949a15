/- For all trees and places, the program's AddressOf returns what the reference's AddressOf returns; what came in stays; marks laid into what came in don't reach the result, and marks laid into the result stay. -/
import Derived.Test.YtnccklajpmpfdaaPFnExactAddressOfx0
import Derived.Test.YtnccklajpmpfdaaPFnExactAddressOfx1
import Derived.Test.YtnccklajpmpfdaaPFnExactAddressOfx2
import Derived.Test.YtnccklajpmpfdaaPFnExactAddressOfx3
import Derived.Test.YtnccklajpmpfdaaPFnExactAddressOfx4
import Derived.Test.YtnccklajpmpfdaaPFnExactAddressOfx5
import Derived.Test.YtnccklajpmpfdaaQFnExactAddressOf
import Derived.Test.YtnccklajpmpfdaaBase
namespace Go.Proofs.Ytnccklajpmpfdaa.Pure.LFnExactAddressOf
open Go.RowKit Go.Proofs.Ytnccklajpmpfdaa.PFnExactAddressOf Go.Proofs.YtnccklajpmpfdaaW.PrintWords Go.Proofs.YtnccklajpmpfdaaW.PrintLast Go.Proofs.YtnccklajpmpfdaaW.PrintMore Go.Proofs.Ytnccklajpmpfdaa.Base
set_option linter.unusedVariables false
set_option linter.unusedSimpArgs false

/-! #### the law's own helpers -/
def mustr : List ByteArray → Nat
  | [] => 0
  | x :: l => x.size + mustr l
theorem mustr_mem {l : List ByteArray} {x : ByteArray} (h : x ∈ l) : x.size ≤ mustr l := by
  induction l with
  | nil => cases h
  | cons y l ih =>
    simp only [mustr]
    rcases List.mem_cons.1 h with rfl | h
    · omega
    · have := ih h; omega
theorem mustr_append (l l' : List ByteArray) : mustr (l ++ l') = mustr l + mustr l' := by
  induction l with
  | nil => simp [mustr]
  | cons x l ih => simp only [List.cons_append, mustr, ih]; omega
mutual
def ms88 : S88 → Nat
  | ⟨a0, a1, a2⟩ => (a0.size + (a1.size + ((a2.length + mu88 a2) + 0)))
def mu88 : List S88 → Nat
  | [] => 0
  | x :: l => ms88 x + mu88 l
end
theorem mu88_append (l l' : List S88) : mu88 (l ++ l') = mu88 l + mu88 l' := by
  induction l with
  | nil => simp [mu88]
  | cons x l ih => simp only [List.cons_append, mu88, ih]; omega
theorem mu88_mem {l : List S88} {x : S88} (h : x ∈ l) : ms88 x ≤ mu88 l := by
  induction l with
  | nil => cases h
  | cons y l ih =>
    simp only [mu88]
    rcases List.mem_cons.1 h with rfl | h
    · omega
    · have := ih h; omega
mutual
def ms78 : S78 → Nat
  | ⟨a0, a1, a2⟩ => (a0.size + (a1.size + ((a2.length + mu78 a2) + 0)))
def mu78 : List S78 → Nat
  | [] => 0
  | x :: l => ms78 x + mu78 l
end
theorem mu78_append (l l' : List S78) : mu78 (l ++ l') = mu78 l + mu78 l' := by
  induction l with
  | nil => simp [mu78]
  | cons x l ih => simp only [List.cons_append, mu78, ih]; omega
theorem mu78_mem {l : List S78} {x : S78} (h : x ∈ l) : ms78 x ≤ mu78 l := by
  induction l with
  | nil => cases h
  | cons y l ih =>
    simp only [mu78]
    rcases List.mem_cons.1 h with rfl | h
    · omega
    · have := ih h; omega
mutual
theorem szNode_ok : ∀ (x : S88) (left : Int) (g : G88 x) (h0 : 0 ≤ left) (h1 : left ≤ 1048576), SzOk (fun k => laws_szNode.f k (x.f0) (x.f1) (x.f2) left) left (ms88 x)
  | ⟨a0, a1, a2⟩, left, g, h0, h1 => by
    simp only [G88, GL88_iff] at g
    obtain ⟨g0, g1, g2⟩ := g
    rw [ms88]
    show SzOk (fun k => laws_szNode.f k a0 a1 a2 left) _ _
    refine sz_step (fun k => by rw [laws_szNode.f]) ?_
    have e : wrap64 (left - (a0.size : Int)) = left - (a0.size : Int) := w64 (by have := g0; unfold maxLen at this; omega) (by omega)
    simp only [e]; clear e
    refine sz_len ?_; intro q
    generalize ec : left - (a0.size : Int) = c0 at q ⊢
    have q' : c0 ≤ 1048576 := by omega
    have e : wrap64 (c0 - (a1.size : Int)) = c0 - (a1.size : Int) := w64 (by have := g1; unfold maxLen at this; omega) (by omega)
    simp only [e]; clear e
    refine sz_len ?_; intro q
    generalize ec : c0 - (a1.size : Int) = c1 at q ⊢
    have q' : c1 ≤ 1048576 := by omega
    refine sz_call (n := _ + mu88 _) (sz_step (fun k => by rw [laws_szNodeS.f]) ?own) ?_
    case own =>
      have e : wrap64 (_ - ((_ : Nat) : Int)) = _ := w64 (x := c1 - (a2.length : Int)) (by have := g2.1; unfold maxLen at this; omega) (by omega)
      simp only [e]; clear e
      refine sz_len ?_; intro q
      generalize ec : c1 - (a2.length : Int) = cown at q ⊢
      exact szNodeS_l0 a2 [] cown (by simpa using g2.1) g2.2 (by assumption) (by omega)
    intro c2 q ec
    have q' : c2 ≤ 1048576 := by omega
    exact sz_ret _ (by assumption)

theorem szNodeS_l0 : ∀ (suf pre : List S88) (left : Int) (hb : (pre ++ suf).length ≤ maxLen) (g : ∀ y ∈ suf, G88 y) (h0 : 0 ≤ left) (h1 : left ≤ 1048576), SzOk (fun k => laws_szNodeS.l0 k (pre ++ suf) left (pre.length : Int)) left (mu88 suf)
  | [], pre, left, hb, g, h0, h1 => by
    refine sz_step (fun k => by rw [laws_szNodeS.l0]) ?_
    refine sz_neg (by simp) ?_
    rw [mu88]
    exact sz_ret _ h0
  | x :: suf, pre, left, hb, g, h0, h1 => by
    have gx := g x List.mem_cons_self
    have ex : rd_T88 (pre ++ x :: suf) (pre.length : Int) = x := by unfold rd_T88; exact at_pre pre suf x _
    refine sz_step (fun k => by rw [laws_szNodeS.l0]) ?_
    refine sz_pos (by simp only [List.length_append, List.length_cons]; omega) (sz_pos (by omega) ?_)
    rw [ex, mu88]
    refine sz_call (szNode_ok x left gx (by assumption) (by omega)) ?_; intro c0 q ec
    have q' : c0 ≤ 1048576 := by omega
    rw [next_pre pre x (by have := hb; simp only [List.length_append, List.length_cons] at this; unfold maxLen at this; omega)]
    have z := szNodeS_l0 suf (pre ++ [x]) c0 (by simpa using hb) (fun y hy => g y (List.mem_cons_of_mem _ hy)) (by assumption) (by omega)
    rw [List.append_assoc] at z
    exact z
end
theorem szNodeS_ok : ∀ (l : List S88) (left : Int) (g : l.length ≤ maxLen ∧ ∀ y ∈ l, G88 y) (h0 : 0 ≤ left) (h1 : left ≤ 1048576), SzOk (fun k => laws_szNodeS.f k l left) left (l.length + mu88 l)
  | l, left, g, h0, h1 => by
    refine sz_step (fun k => by rw [laws_szNodeS.f]) ?_
    have e : wrap64 (left - (l.length : Int)) = left - (l.length : Int) := w64 (by have := g.1; unfold maxLen at this; omega) (by omega)
    simp only [e]; clear e
    refine sz_len ?_; intro q
    generalize ec : left - (l.length : Int) = c0 at q ⊢
    have q' : c0 ≤ 1048576 := by omega
    exact szNodeS_l0 l [] c0 (by simpa using g.1) g.2 (by assumption) (by assumption)
mutual
def cv88 : S88 → S78
  | ⟨a0, a1, a2⟩ => ⟨a0, a1, (cvl88 a2)⟩
def cvl88 : List S88 → List S78
  | [] => []
  | x :: l => cv88 x :: cvl88 l
end
theorem cvl88_length (l : List S88) : (cvl88 l).length = l.length := by
  induction l with
  | nil => rfl
  | cons x l ih => simp only [cvl88, List.length_cons, ih]
theorem cvl88_append (l l' : List S88) : cvl88 (l ++ l') = cvl88 l ++ cvl88 l' := by
  induction l with
  | nil => rfl
  | cons x l ih => simp only [List.cons_append, cvl88, ih]
theorem cvl88_map (l : List S88) : cvl88 l = l.map cv88 := by
  induction l with
  | nil => rfl
  | cons x l ih => simp only [List.map_cons, cvl88, ih]
mutual
theorem mscv88 : ∀ x, ms78 (cv88 x) = ms88 x
  | ⟨a0, a1, a2⟩ => by
    have h := mucv88 a2
    simp only [cv88, ms78, ms88, cvl88_length, h]
theorem mucv88 : ∀ l, mu78 (cvl88 l) = mu88 l
  | [] => rfl
  | x :: l => by
    have h := mscv88 x
    have h' := mucv88 l
    simp only [cvl88, mu78, mu88, h, h']
end
theorem toIntS_l0 : ∀ (suf pre : List Int) (hb : (pre ++ suf).length ≤ 1048576) (hm : True), Ev (fun k => laws_toIntS.l0 k (pre ++ suf) (pre ++ List.replicate suf.length 0) (pre.length : Int)) (pre ++ suf)
  | [], pre, hb, hm => by
    refine Ev.step (fun k => by rw [laws_toIntS.l0]) ?_
    refine ev_neg (by simp) (ev_const ?_)
    simp
  | x :: suf, pre, hb, hm => by
    have ex : rd (pre ++ x :: suf) (pre.length : Int) = x := by unfold rd; exact at_pre pre suf x _
    have hb' := hb
    simp only [List.length_append, List.length_cons] at hb'
    refine Ev.step (fun k => by rw [laws_toIntS.l0]) ?_
    refine ev_pos (by simp only [List.length_append, List.length_cons]; omega) (ev_pos (by omega) ?_)
    rw [ex]
    refine ev_pos (by simp only [List.length_append, List.length_replicate, List.length_cons]; omega) ?_
    have es : (pre ++ List.replicate (x :: suf).length 0).set ((pre.length : Int)).toNat x = (pre ++ [x]) ++ List.replicate suf.length 0 := by
      rw [List.length_cons, List.replicate_succ]; exact set_pre pre _ _ x
    rw [es]
    rw [next_pre pre x (by omega)]
    have z := toIntS_l0 suf (pre ++ [x]) (by simpa using hb) trivial
    rw [List.append_assoc] at z
    simpa using z
theorem toIntS_ev (l : List Int) (hm : l.length ≤ 1048576) : Ev (fun k => laws_toIntS.f k l) l := by
  simp only [laws_toIntS.f]
  have hl : l.length ≤ 1048576 := by omega
  refine ev_pos (by omega) (ev_pos (by omega) ?_)
  have z := toIntS_l0 l [] (by simpa using hl) trivial
  simpa using z
mutual
theorem toNode_ev : ∀ (x : S88) (hm : ms88 x ≤ 1048576), Ev (fun k => laws_toNode.f k (x.f0) (x.f1) (x.f2)) ((cv88 x).f0, (cv88 x).f1, (cv88 x).f2)
  | ⟨a0, a1, a2⟩, hm => by
    rw [ms88] at hm
    show Ev (fun k => laws_toNode.f k a0 a1 a2) _
    refine Ev.step (fun k => by rw [laws_toNode.f]) ?_
    refine ev_bind (cvl88 a2) (Ev.step (fun k => by rw [laws_toNodeS.f]) ?own) ?_
    case own =>
      refine ev_pos (by omega) (ev_pos (by omega) ?_)
      have z := toNodeS_l0 a2 [] (by rw [List.nil_append]; omega) (by omega)
      exact z
    exact ev_const (by simp only [cv88])
theorem toNodeS_l0 : ∀ (suf pre : List S88) (hb : (pre ++ suf).length ≤ 1048576) (hm : mu88 suf ≤ 1048576), Ev (fun k => laws_toNodeS.l0 k (pre ++ suf) ((cvl88 pre) ++ List.replicate suf.length z78) (pre.length : Int)) (cvl88 (pre ++ suf))
  | [], pre, hb, hm => by
    refine Ev.step (fun k => by rw [laws_toNodeS.l0]) ?_
    refine ev_neg (by simp) (ev_const ?_)
    simp
  | x :: suf, pre, hb, hm => by
    have ex : rd_T88 (pre ++ x :: suf) (pre.length : Int) = x := by unfold rd_T88; exact at_pre pre suf x _
    have hb' := hb
    simp only [List.length_append, List.length_cons] at hb'
    rw [mu88] at hm
    refine Ev.step (fun k => by rw [laws_toNodeS.l0]) ?_
    refine ev_pos (by simp only [List.length_append, List.length_cons]; omega) (ev_pos (by omega) ?_)
    rw [ex]
    refine ev_bind _ (toNode_ev x (by omega)) ?_
    refine ev_pos (by simp only [List.length_append, cvl88_length, List.length_replicate, List.length_cons]; omega) ?_
    have es : (cvl88 pre ++ List.replicate (x :: suf).length z78).set ((pre.length : Int)).toNat (cv88 x) = cvl88 (pre ++ [x]) ++ List.replicate suf.length z78 := by
      have h2 := set_pre (cvl88 pre) (List.replicate suf.length z78) z78 (cv88 x)
      rw [cvl88_length] at h2
      rw [List.length_cons, List.replicate_succ, h2, cvl88_append]; rfl
    rw [next_pre pre x (by omega)]
    have z := toNodeS_l0 suf (pre ++ [x]) (by simpa using hb) (by omega)
    rw [List.append_assoc] at z
    rw [← es] at z
    have e2 : (⟨(cv88 x).f0, (cv88 x).f1, (cv88 x).f2⟩ : S78) = cv88 x := by cases cv88 x; rfl
    show Ev (fun k => laws_toNodeS.l0 k (pre ++ x :: suf) ((cvl88 pre ++ List.replicate (x :: suf).length z78).set ((pre.length : Int)).toNat (⟨(cv88 x).f0, (cv88 x).f1, (cv88 x).f2⟩ : S78)) ((pre ++ [x]).length : Int)) (cvl88 (pre ++ x :: suf))
    rw [e2]
    exact z
end
theorem toNodeS_ev (l : List S88) (hm : (l.length + mu88 l) ≤ 1048576) : Ev (fun k => laws_toNodeS.f k l) (cvl88 l) := by
  refine Ev.step (fun k => by rw [laws_toNodeS.f]) ?_
  have hl : l.length ≤ 1048576 := by omega
  refine ev_pos (by omega) (ev_pos (by omega) ?_)
  have z := toNodeS_l0 l [] (by simpa using hl) (by omega)
  simpa [cvl88] using z
theorem eqStringS_l0 : ∀ (suf pre : List ByteArray) (hb : (pre ++ suf).length ≤ 4611686018427387904) (hm : True), Ev (fun k => laws_eqStringS.l0 k (pre ++ suf) (pre ++ suf) (pre.length : Int)) true
  | [], pre, hb, hm => by
    refine Ev.step (fun k => by rw [laws_eqStringS.l0]) ?_
    exact ev_neg (by simp) (ev_const rfl)
  | x :: suf, pre, hb, hm => by
    have ex : rdOf ByteArray.empty (pre ++ x :: suf) (pre.length : Int) = x := by unfold rdOf; exact at_pre pre suf x _
    have hb' := hb
    simp only [List.length_append, List.length_cons] at hb'
    refine Ev.step (fun k => by rw [laws_eqStringS.l0]) ?_
    refine ev_pos (by simp only [List.length_append, List.length_cons]; omega) (ev_pos (by omega) (ev_pos (by simp only [List.length_append, List.length_cons]; omega) ?_))
    rw [ex]
    refine ev_pos (by simp) ?_
    rw [next_pre pre x (by omega)]
    have z := eqStringS_l0 suf (pre ++ [x]) (by simpa using hb) trivial
    rw [List.append_assoc] at z
    exact z
theorem eqStringS_ev (l : List ByteArray) (hm : l.length ≤ 4611686018427387904) : Ev (fun k => laws_eqStringS.f k l l) true := by
  simp only [laws_eqStringS.f]
  refine ev_pos (by simp) ?_
  exact eqStringS_l0 l [] (by rw [List.nil_append]; omega) trivial
theorem eqIntS_l0 : ∀ (suf pre : List Int) (hb : (pre ++ suf).length ≤ 4611686018427387904) (hm : True), Ev (fun k => laws_eqIntS.l0 k (pre ++ suf) (pre ++ suf) (pre.length : Int)) true
  | [], pre, hb, hm => by
    refine Ev.step (fun k => by rw [laws_eqIntS.l0]) ?_
    exact ev_neg (by simp) (ev_const rfl)
  | x :: suf, pre, hb, hm => by
    have ex : rd (pre ++ x :: suf) (pre.length : Int) = x := by unfold rd; exact at_pre pre suf x _
    have hb' := hb
    simp only [List.length_append, List.length_cons] at hb'
    refine Ev.step (fun k => by rw [laws_eqIntS.l0]) ?_
    refine ev_pos (by simp only [List.length_append, List.length_cons]; omega) (ev_pos (by omega) (ev_pos (by simp only [List.length_append, List.length_cons]; omega) ?_))
    rw [ex]
    refine ev_pos (by simp) ?_
    rw [next_pre pre x (by omega)]
    have z := eqIntS_l0 suf (pre ++ [x]) (by simpa using hb) trivial
    rw [List.append_assoc] at z
    exact z
theorem eqIntS_ev (l : List Int) (hm : l.length ≤ 4611686018427387904) : Ev (fun k => laws_eqIntS.f k l l) true := by
  simp only [laws_eqIntS.f]
  refine ev_pos (by simp) ?_
  exact eqIntS_l0 l [] (by rw [List.nil_append]; omega) trivial
mutual
theorem eqNode_ev : ∀ (x : S78) (hm : ms78 x ≤ 4611686018427387904), Ev (fun k => laws_eqNode.f k (x.f0) (x.f1) (x.f2) (x.f0) (x.f1) (x.f2)) true
  | ⟨a0, a1, a2⟩, hm => by
    rw [ms78] at hm
    show Ev (fun k => laws_eqNode.f k a0 a1 a2 a0 a1 a2) _
    refine Ev.step (fun k => by rw [laws_eqNode.f]) ?_
    refine ev_pos (by simp) ?_
    refine ev_pos (by simp) ?_
    refine ev_bind true (Ev.step (fun k => by rw [laws_eqNodeS.f]) ?own) (ev_pos (by simp) ?_)
    case own =>
      exact ev_pos (by simp) (eqNodeS_l0 a2 [] (by rw [List.nil_append]; omega) (by omega))
    exact ev_const rfl
theorem eqNodeS_l0 : ∀ (suf pre : List S78) (hb : (pre ++ suf).length ≤ 4611686018427387904) (hm : mu78 suf ≤ 4611686018427387904), Ev (fun k => laws_eqNodeS.l0 k (pre ++ suf) (pre ++ suf) (pre.length : Int)) true
  | [], pre, hb, hm => by
    refine Ev.step (fun k => by rw [laws_eqNodeS.l0]) ?_
    exact ev_neg (by simp) (ev_const rfl)
  | x :: suf, pre, hb, hm => by
    have ex : rd_T78 (pre ++ x :: suf) (pre.length : Int) = x := by unfold rd_T78; exact at_pre pre suf x _
    have hb' := hb
    simp only [List.length_append, List.length_cons] at hb'
    rw [mu78] at hm
    refine Ev.step (fun k => by rw [laws_eqNodeS.l0]) ?_
    refine ev_pos (by simp only [List.length_append, List.length_cons]; omega) (ev_pos (by omega) (ev_pos (by simp only [List.length_append, List.length_cons]; omega) ?_))
    rw [ex]
    refine ev_bind _ (eqNode_ev x (by omega)) (ev_pos (by simp) ?_)
    rw [next_pre pre x (by omega)]
    have z := eqNodeS_l0 suf (pre ++ [x]) (by simpa using hb) (by omega)
    rw [List.append_assoc] at z
    exact z
end
theorem eqNodeS_ev (l : List S78) (hm : (l.length + mu78 l) ≤ 4611686018427387904) : Ev (fun k => laws_eqNodeS.f k l l) true := by
  refine Ev.step (fun k => by rw [laws_eqNodeS.f]) ?_
  refine ev_pos (by simp) ?_
  exact eqNodeS_l0 l [] (by rw [List.nil_append]; omega) (by omega)

/-! #### intS -/
/-! rows of ints: marked (helpers.py tells toIntS_ev and eqIntS_ev) -/
def mkI : Int → List Int → List Int
  | _, [] => []
  | x, _ :: l => x :: mkI (x + 1) l
theorem markInt_l0 : ∀ (suf pre : List Int) (x : Int) (hb : (pre ++ suf).length ≤ 4611686018427387904) (h0 : 0 ≤ x) (hx : x + suf.length ≤ 100000000), Ev (fun k => laws_markIntS.l0 k (pre ++ suf) x (pre.length : Int)) (x + suf.length, pre ++ mkI x suf)
  | [], pre, x, hb, h0, hx => by
    refine Ev.step (fun k => by rw [laws_markIntS.l0]) ?_
    exact ev_neg (by simp) (ev_const (by simp [mkI]))
  | y :: suf, pre, x, hb, h0, hx => by
    have st : (pre ++ y :: suf).set ((pre.length : Int)).toNat x = pre ++ x :: suf := by rw [set_pre]; simp
    have hb' := hb
    simp only [List.length_append, List.length_cons] at hb' hx
    have w1 : wrap64 (x + 1) = x + 1 := w64 (by omega) (by omega)
    have z := markInt_l0 suf (pre ++ [x]) (x + 1) (by simpa using hb) (by omega) (by omega)
    rw [List.append_assoc, List.singleton_append, List.append_assoc, List.singleton_append, ← next_pre pre x (by omega)] at z
    refine Ev.step (fun k => by rw [laws_markIntS.l0]) ?_
    refine ev_pos (by simp only [List.length_append, List.length_cons]; omega) (ev_pos (by omega) ?_)
    rw [st, w1]
    have e : x + ((y :: suf).length : Int) = x + 1 + (suf.length : Int) := by simp only [List.length_cons]; omega
    rw [e]
    exact z
theorem markIntS_ev (l : List Int) (x : Int) (hb : l.length ≤ 4611686018427387904) (h0 : 0 ≤ x) (hx : x + l.length ≤ 100000000) : Ev (fun k => laws_markIntS.f k l x) (x + (l.length : Int), mkI x l) := by
  simp only [laws_markIntS.f]
  exact markInt_l0 l [] x (by simpa using hb) h0 hx

/-! #### markText -/
/-! the law's own marks -/
theorem markText_l0 : ∀ (n : Nat) (x : Int) (t : ByteArray) (h0 : 0 ≤ x) (hn : x ≤ n) (ht : t.size + n ≤ 1099511627776), ∃ r, Ev (fun k => laws_markText.l0 k x t) r := by
  intro n
  induction n using Nat.strongRecOn with
  | ind n ih =>
  intro x t h0 hn ht
  by_cases hx : x > 0
  · have e1 : (strOfNums [wrap64 (48 + Int.tmod x 10) % 256]).size = 1 := by rw [size_str]; rfl
    have e2 : Int.tdiv x 10 = x / 10 := Int.tdiv_eq_ediv_of_nonneg h0
    have e3 : wrap64 (Int.tdiv x 10) = x / 10 := by rw [e2, w64 (by omega) (by omega)]
    have e4 : (strOfNums [wrap64 (48 + Int.tmod x 10) % 256] ++ t).size = 1 + t.size := by rw [ByteArray.size_append, e1]
    obtain ⟨r, z⟩ := ih (x / 10).toNat (by omega) (x / 10) (strOfNums [wrap64 (48 + Int.tmod x 10) % 256] ++ t) (by omega) (by omega) (by rw [e4]; omega)
    refine ⟨r, Ev.step (fun k => by rw [laws_markText.l0]) ?_⟩
    rw [e3]
    exact ev_pos hx (ev_let _ rfl (ev_pos (by rw [e1]; omega) z))
  · refine ⟨(⟨#[109]⟩ : ByteArray) ++ t, Ev.step (fun k => by rw [laws_markText.l0]) ?_⟩
    exact ev_neg hx (ev_pos (by omega) (ev_const rfl))
theorem markText_ex (x : Int) (h : x ≤ 1000000000000) : ∃ r, Ev (fun k => laws_markText.f k x) r := by
  simp only [laws_markText.f]
  by_cases hx : x ≤ 0
  · exact ⟨_, ev_pos hx (ev_const rfl)⟩
  · obtain ⟨r, z⟩ := markText_l0 x.toNat x ⟨#[]⟩ (by omega) (by omega) (by show 0 + _ ≤ _; omega)
    exact ⟨r, ev_neg hx z⟩
noncomputable def mt (x : Int) : ByteArray := @Classical.epsilon ByteArray ⟨⟨#[]⟩⟩ (fun t => Ev (fun k => laws_markText.f k x) t)
theorem markText_ev (x : Int) (h : x ≤ 1000000000000) : Ev (fun k => laws_markText.f k x) (mt x) := Classical.epsilon_spec (markText_ex x h)

/-! #### markNodes -/
mutual
def nc : S78 → Nat
  | ⟨_, _, l⟩ => l.length + ncl l
def ncl : List S78 → Nat
  | [] => 0
  | x :: l => nc x + ncl l
end
mutual
theorem nc_le : ∀ x, nc x ≤ ms78 x
  | ⟨a, b, l⟩ => by
    have := ncl_le l
    simp only [nc, ms78]
    omega
theorem ncl_le : ∀ l, ncl l ≤ mu78 l
  | [] => Nat.le_refl _
  | x :: l => by
    have h := nc_le x
    have h' := ncl_le l
    simp only [ncl, mu78]
    omega
end
mutual
theorem markN : ∀ (x : S78) (a : Int) (h0 : 0 ≤ a) (ha : a + 2 * nc x ≤ 100000000), Ev (fun k => laws_markNodeS.f k x.f2 a) (a + 2 * (nc x : Int))
  | ⟨p, q, l⟩, a, h0, ha => by
    simp only [nc] at ha
    show Ev (fun k => laws_markNodeS.f k l a) _
    refine Ev.step (fun k => by rw [laws_markNodeS.f]) ?_
    have z := markN_l0 l [] a h0 (by simp; omega) (by omega)
    simp only [nc]
    have e : a + 2 * ((l.length + ncl l : Nat) : Int) = a + 2 * (l.length : Int) + 2 * (ncl l : Int) := by omega
    rw [e]
    exact z
theorem markN_l0 : ∀ (suf pre : List S78) (a : Int) (h0 : 0 ≤ a) (hb : (pre ++ suf).length ≤ 4611686018427387904) (ha : a + 2 * (suf.length + ncl suf) ≤ 100000000), Ev (fun k => laws_markNodeS.l0 k (pre ++ suf) a (pre.length : Int)) (a + 2 * (suf.length : Int) + 2 * (ncl suf : Int))
  | [], pre, a, h0, hb, ha => by
    refine Ev.step (fun k => by rw [laws_markNodeS.l0]) ?_
    exact ev_neg (by simp) (ev_const (by simp [ncl]))
  | x :: suf, pre, a, h0, hb, ha => by
    have ex : rd_T78 (pre ++ x :: suf) (pre.length : Int) = x := by unfold rd_T78; exact at_pre pre suf x _
    have hb' := hb
    simp only [List.length_append, List.length_cons] at hb' ha
    rw [ncl] at ha
    have w1 : wrap64 (a + 1) = a + 1 := w64 (by omega) (by omega)
    have w2 : wrap64 (a + 1 + 1) = a + 2 := by rw [w64 (by omega) (by omega)]; omega
    have z1 := markN x (a + 2) (by omega) (by omega)
    have z := markN_l0 suf (pre ++ [x]) (a + 2 + 2 * (nc x : Int)) (by omega) (by simpa using hb) (by omega)
    rw [List.append_assoc, List.singleton_append, ← next_pre pre x (by omega)] at z
    refine Ev.step (fun k => by rw [laws_markNodeS.l0]) ?_
    refine ev_pos (by simp only [List.length_append, List.length_cons]; omega) (ev_pos (by omega) ?_)
    rw [ex, w1, w2]
    refine ev_bind _ (markText_ev a (by omega)) (ev_bind _ (markText_ev (a + 1) (by omega)) (ev_bind _ z1 ?_))
    have e : a + 2 * ((x :: suf).length : Int) + 2 * (ncl (x :: suf) : Int) = a + 2 + 2 * (nc x : Int) + 2 * (suf.length : Int) + 2 * (ncl suf : Int) := by rw [ncl]; simp only [List.length_cons]; omega
    rw [e]
    exact z
end
theorem markNodeS_ev (l : List S78) (a : Int) (h0 : 0 ≤ a) (ha : a + 2 * (l.length + ncl l) ≤ 100000000) : Ev (fun k => laws_markNodeS.f k l a) (a + 2 * (l.length : Int) + 2 * (ncl l : Int)) := by
  refine Ev.step (fun k => by rw [laws_markNodeS.f]) ?_
  exact markN_l0 l [] a h0 (by simp; omega) ha

/-! #### markStrings -/
noncomputable def mkS : Int → List ByteArray → List ByteArray
  | _, [] => []
  | x, _ :: l => mt x :: mkS (x + 1) l
theorem mkS_length (x : Int) (l : List ByteArray) : (mkS x l).length = l.length := by
  induction l generalizing x with
  | nil => rfl
  | cons y l ih => simp only [mkS, List.length_cons, ih]
theorem mark_S_l0 : ∀ (suf pre : List ByteArray) (x : Int) (hb : (pre ++ suf).length ≤ 4611686018427387904) (h0 : 0 ≤ x) (hx : x + suf.length ≤ 100000000), Ev (fun k => laws_markStringS.l0 k (pre ++ suf) x (pre.length : Int)) (x + suf.length, pre ++ mkS x suf)
  | [], pre, x, hb, h0, hx => by
    refine Ev.step (fun k => by rw [laws_markStringS.l0]) ?_
    exact ev_neg (by simp) (ev_const (by simp [mkS]))
  | y :: suf, pre, x, hb, h0, hx => by
    have st : ∀ v w : ByteArray, (pre ++ v :: suf).set ((pre.length : Int)).toNat w = pre ++ w :: suf := fun v w => by rw [set_pre]; simp
    have hb' := hb
    simp only [List.length_append, List.length_cons] at hb' hx
    have w1 : wrap64 (x + 1) = x + 1 := w64 (by omega) (by omega)
    have z := mark_S_l0 suf (pre ++ [mt x]) (x + 1) (by simpa using hb) (by omega) (by omega)
    rw [List.append_assoc, List.singleton_append, List.append_assoc, List.singleton_append] at z
    refine Ev.step (fun k => by rw [laws_markStringS.l0]) ?_
    refine ev_pos (by simp only [List.length_append, List.length_cons]; omega) (ev_bind _ (markText_ev x (by omega)) (ev_pos (by omega) ?_))
    rw [st, next_pre pre y (by omega), w1]
    have e : x + ((y :: suf).length : Int) = x + 1 + (suf.length : Int) := by simp only [List.length_cons]; omega
    rw [e, show (pre ++ [y]).length = (pre ++ [mt x]).length by simp]
    exact z
theorem markStringS_ev (l : List ByteArray) (x : Int) (hb : l.length ≤ 4611686018427387904) (h0 : 0 ≤ x) (hx : x + l.length ≤ 100000000) : Ev (fun k => laws_markStringS.f k l x) (x + (l.length : Int), mkS x l) := by
  simp only [laws_markStringS.f]
  exact mark_S_l0 l [] x (by simpa using hb) h0 hx
theorem held_S_l0 : ∀ (suf pre : List ByteArray) (x : Int) (hb : (pre ++ suf).length ≤ 4611686018427387904) (h0 : 0 ≤ x) (hx : x + suf.length ≤ 100000000), Ev (fun k => laws_heldStringS.l0 k (pre ++ mkS x suf) x (pre.length : Int)) (x + suf.length)
  | [], pre, x, hb, h0, hx => by
    refine Ev.step (fun k => by rw [laws_heldStringS.l0]) ?_
    exact ev_neg (by simp [mkS]) (ev_const (by simp))
  | y :: suf, pre, x, hb, h0, hx => by
    have hl := mkS_length (x + 1) suf
    have hb' := hb
    simp only [List.length_append, List.length_cons] at hb' hx
    have rd : rdOf ByteArray.empty (pre ++ mt x :: mkS (x + 1) suf) (pre.length : Int) = mt x := by unfold rdOf; exact at_pre pre _ _ _
    have w1 : wrap64 (x + 1) = x + 1 := w64 (by omega) (by omega)
    have z := held_S_l0 suf (pre ++ [mt x]) (x + 1) (by simpa using hb) (by omega) (by omega)
    rw [List.append_assoc, List.singleton_append, ← next_pre pre _ (by omega)] at z
    refine Ev.step (fun k => by rw [laws_heldStringS.l0]) ?_
    rw [mkS]
    refine ev_pos (by simp only [List.length_append, List.length_cons]; omega) (ev_pos (by omega) (ev_bind _ (markText_ev x (by omega)) ?_))
    rw [rd, w1]
    refine ev_pos rfl ?_
    have e : x + ((y :: suf).length : Int) = x + 1 + (suf.length : Int) := by simp only [List.length_cons]; omega
    rw [e]
    exact z
theorem heldStringS_ev (l : List ByteArray) (x : Int) (hb : l.length ≤ 4611686018427387904) (h0 : 0 ≤ x) (hx : x + l.length ≤ 100000000) : Ev (fun k => laws_heldStringS.f k (mkS x l) x) (x + (l.length : Int)) := by
  simp only [laws_heldStringS.f]
  exact held_S_l0 l [] x (by simpa using hb) h0 hx

abbrev ND := S78
abbrev rdN (l : List ND) (i : Int) : ND := rd_T78 l i
def inR (l : List ND) (a : Int) : Prop := 0 ≤ a ∧ a < (l.length : Int)
instance (l : List ND) (a : Int) : Decidable (inR l a) := by unfold inR; infer_instance
def mAddr : List ND → List Int → List ByteArray → List ByteArray × Bool
  | _, [], acc => (acc, true)
  | l, a :: r, acc => if inR l a then mAddr (rdN l a).f2 r (acc ++ [(rdN l a).f0]) else ([], false)
theorem kids_B {l : List ND} {a : Int} (h : inR l a) (hb : l.length + mu78 l ≤ 1048576) : (rdN l a).f2.length + mu78 (rdN l a).f2 ≤ 1048576 := by
  have hm : rdN l a ∈ l := by
    unfold rdN rd_T78
    rw [List.getD_eq_getElem?_getD, List.getElem?_eq_getElem (by have := h.1; have := h.2; omega)]
    exact List.getElem_mem _
  have h1 := mu78_mem hm
  generalize rdN l a = x at h1 ⊢
  obtain ⟨p, q, ks⟩ := x
  simp only [ms78] at h1
  show ks.length + mu78 ks ≤ 1048576
  omega
theorem mAddr_len : ∀ (r : List Int) (l : List ND) (acc : List ByteArray), (mAddr l r acc).1.length ≤ acc.length + r.length
  | [], l, acc => by simp [mAddr]
  | a :: r, l, acc => by
    rw [mAddr]
    split
    · have := mAddr_len r (rdN l a).f2 (acc ++ [(rdN l a).f0])
      simp only [List.length_append, List.length_cons, List.length_nil] at this ⊢
      omega
    · simp
theorem spec_Addr_l0 : ∀ (suf pre : List Int) (l : List ND) (acc : List ByteArray) (hb : l.length + mu78 l ≤ 1048576) (hp : (pre ++ suf).length ≤ 1048576) (ha : acc.length ≤ pre.length), Ev (fun k => spec_AddressOf.l0 k l (pre ++ suf) acc (pre.length : Int)) (mAddr l suf acc)
  | [], pre, l, acc, hb, hp, ha => by
    refine Ev.step (fun k => by rw [spec_AddressOf.l0]) ?_
    exact ev_neg (by simp) (ev_const rfl)
  | a :: suf, pre, l, acc, hb, hp, ha => by
    have hp' := hp
    simp only [List.length_append, List.length_cons] at hp'
    have rda : rd (pre ++ a :: suf) (pre.length : Int) = a := by unfold rd; exact at_pre pre _ _ _
    have w1 : wrap64 ((l.length : Int) - 1) = (l.length : Int) - 1 := w64 (by omega) (by omega)
    have hin : spec_l1In.f a 0 ((l.length : Int) - 1) = some (decide (inR l a)) := by
      unfold spec_l1In.f
      by_cases h : a ≥ 0
      · rw [if_pos h]
        congr 1
        rw [decide_eq_decide]
        unfold inR
        omega
      · rw [if_neg h]
        congr 1
        symm
        rw [decide_eq_false_iff_not]
        unfold inR
        omega
    refine Ev.step (fun k => by rw [spec_AddressOf.l0]) ?_
    refine ev_pos (by simp only [List.length_append, List.length_cons]; omega) (ev_pos (by omega) ?_)
    rw [rda, w1]
    refine ev_let _ hin ?_
    rw [mAddr]
    by_cases h : inR l a
    · have hh := h
      unfold inR at hh
      rw [if_pos h]
      refine ev_pos (decide_eq_true h) (ev_pos hh.1 (ev_pos hh.2 (ev_pos (by omega) ?_)))
      have z := spec_Addr_l0 suf (pre ++ [a]) (rdN l a).f2 (acc ++ [(rdN l a).f0]) (kids_B h hb) (by simpa using hp) (by simp; omega)
      rw [List.append_assoc, List.singleton_append, ← next_pre pre a (by omega)] at z
      exact z
    · rw [if_neg h]
      exact ev_neg (by simpa using h) (ev_const rfl)
theorem spec_Addr_ev (l : List ND) (p : List Int) (hb : l.length + mu78 l ≤ 1048576) (hp : p.length ≤ 1048576) : Ev (fun k => spec_AddressOf.f k l p) (mAddr l p []) := by
  simp only [spec_AddressOf.f]
  exact spec_Addr_l0 p [] l [] hb (by simpa using hp) (Nat.le_refl _)
def NA : List ND → List Int → ByteArray × ByteArray × List ND → Option (ByteArray × ByteArray × List ND)
  | _, [], x => some x
  | l, a :: r, _ => if inR l a then NA (rdN l a).f2 r ((rdN l a).f0, (rdN l a).f1, (rdN l a).f2) else none
def WA : List ND → List Int → Option (List ND)
  | l, [] => some l
  | l, a :: r => if inR l a then WA (rdN l a).f2 r else none
def outA (n : Nat) : Option (ByteArray × ByteArray × List ND) → ByteArray × ByteArray × List ND × Bool
  | some x => (x.1, x.2.1, x.2.2, decide ((n : Int) > 0))
  | none => (⟨#[]⟩, ⟨#[]⟩, [], false)
theorem nodeAt_l0 : ∀ (suf pre : List Int) (l : List ND) (x : ByteArray × ByteArray × List ND) (hp : (pre ++ suf).length ≤ 1048576), Ev (fun k => impl_nodeAt.l0 k l (pre ++ suf) (pre ++ suf) ((pre ++ suf).length : Int) (pre.length : Int) x.1 x.2.1 x.2.2) (outA (pre ++ suf).length (NA l suf x))
  | [], pre, l, x, hp => by
    refine Ev.step (fun k => by rw [impl_nodeAt.l0]) ?_
    exact ev_neg (by simp) (ev_const rfl)
  | a :: suf, pre, l, x, hp => by
    have hp' := hp
    simp only [List.length_append, List.length_cons] at hp'
    have rda : rd (pre ++ a :: suf) (pre.length : Int) = a := by unfold rd; exact at_pre pre _ _ _
    refine Ev.step (fun k => by rw [impl_nodeAt.l0]) ?_
    refine ev_pos (by simp only [List.length_append, List.length_cons]; omega) (ev_pos (by omega) (ev_pos (by simp only [List.length_append, List.length_cons]; omega) ?_))
    rw [rda, NA]
    by_cases h : inR l a
    · have hh := h
      unfold inR at hh
      rw [if_pos h]
      refine ev_neg (by omega) (ev_neg (by omega) (ev_pos hh.1 (ev_pos hh.2 ?_)))
      have z := nodeAt_l0 suf (pre ++ [a]) (rdN l a).f2 ((rdN l a).f0, (rdN l a).f1, (rdN l a).f2) (by simpa using hp)
      rw [List.append_assoc, List.singleton_append, ← next_pre pre a (by omega)] at z
      exact z
    · rw [if_neg h]
      refine ev_ite (fun _ => ev_const rfl) (fun h1 => ev_pos ?_ (ev_const rfl))
      unfold inR at h
      omega
theorem nodeAt_ev (l : List ND) (p : List Int) (hp : p.length ≤ 1048576) : Ev (fun k => impl_nodeAt.f k l p) (outA p.length (NA l p (⟨#[]⟩, ⟨#[]⟩, []))) := by
  simp only [impl_nodeAt.f]
  exact nodeAt_l0 p [] l (⟨#[]⟩, ⟨#[]⟩, []) (by simpa using hp)
theorem NA_snoc : ∀ (pre : List Int) (l : List ND) (a : Int) (x : ByteArray × ByteArray × List ND), NA l (pre ++ [a]) x = (WA l pre).bind fun c => if inR c a then some ((rdN c a).f0, (rdN c a).f1, (rdN c a).f2) else none
  | [], l, a, x => by simp only [List.nil_append, NA, WA, Option.bind_some]
  | b :: pre, l, a, x => by
    rw [List.cons_append, NA, WA]
    by_cases h : inR l b
    · rw [if_pos h, if_pos h]; exact NA_snoc pre _ a _
    · rw [if_neg h, if_neg h]; rfl
theorem WA_snoc : ∀ (pre : List Int) (l : List ND) (a : Int), WA l (pre ++ [a]) = (WA l pre).bind fun c => if inR c a then some (rdN c a).f2 else none
  | [], l, a => by simp only [List.nil_append, WA, Option.bind_some]
  | b :: pre, l, a => by
    rw [List.cons_append, WA, WA]
    by_cases h : inR l b
    · rw [if_pos h, if_pos h]; exact WA_snoc pre _ a
    · rw [if_neg h, if_neg h]; rfl
theorem impl_Addr_l0 (l : List ND) : ∀ (suf pre : List Int) (c : List ND) (acc : List ByteArray) (hc : WA l pre = some c) (hp : (pre ++ suf).length ≤ 1048576) (ha : acc.length ≤ pre.length), Ev (fun k => impl_AddressOf.l0 k l (pre ++ suf) acc ((pre ++ suf).length : Int) (pre.length : Int)) (mAddr c suf acc)
  | [], pre, c, acc, hc, hp, ha => by
    refine Ev.step (fun k => by rw [impl_AddressOf.l0]) ?_
    exact ev_neg (by simp) (ev_const rfl)
  | a :: suf, pre, c, acc, hc, hp, ha => by
    have hp' := hp
    simp only [List.length_append, List.length_cons] at hp'
    have nx := next_pre pre a (by omega)
    have tk : (pre ++ a :: suf).take (((pre ++ [a]).length : Int)).toNat = pre ++ [a] := by
      rw [Int.toNat_natCast, show pre ++ a :: suf = (pre ++ [a]) ++ suf by simp, List.take_left]
    have zn := nodeAt_ev l (pre ++ [a]) (by simp; omega)
    rw [NA_snoc, hc, Option.bind_some] at zn
    refine Ev.step (fun k => by rw [impl_AddressOf.l0]) ?_
    refine ev_pos (by simp only [List.length_append, List.length_cons]; omega) ?_
    rw [nx]
    refine ev_pos (by omega) (ev_pos (by simp only [List.length_append, List.length_cons, List.length_nil]; omega) ?_)
    rw [tk]
    refine ev_bind _ zn ?_
    rw [mAddr]
    by_cases h : inR c a
    · rw [if_pos h, if_pos h]
      refine ev_pos (by simp only [outA]; exact decide_eq_true (by simp only [List.length_append, List.length_cons, List.length_nil]; omega)) (ev_pos (by omega) ?_)
      have z := impl_Addr_l0 l suf (pre ++ [a]) (rdN c a).f2 (acc ++ [(rdN c a).f0]) (by rw [WA_snoc, hc, Option.bind_some, if_pos h]) (by simpa using hp) (by simp; omega)
      rw [List.append_assoc, List.singleton_append] at z
      exact z
    · rw [if_neg h, if_neg h]
      exact ev_neg (by simp [outA]) (ev_const rfl)
theorem impl_Addr_ev (l : List ND) (p : List Int) (hp : p.length ≤ 1048576) : Ev (fun k => impl_AddressOf.f k l p) (mAddr l p []) := by
  simp only [impl_AddressOf.f]
  exact impl_Addr_l0 l p [] l [] rfl (by simpa using hp) (Nat.le_refl _)
theorem FnExactAddressOf : laws_FnExactAddressOf.Pure := by
  rintro l p g gp
  refine Ev.rounds ?_
  simp only [laws_FnExactAddressOf.f]
  refine ev_ite (fun _ => ev_const rfl) (fun hp0 => ?_)
  have hp : p.length ≤ 1048576 := by omega
  refine sz_guard (szNodeS_ok l 1048576 g (by omega) (by omega)) (fun z hz ez => ?_)
  obtain ⟨c, hcv⟩ : ∃ c, c = cvl88 l := ⟨_, rfl⟩
  have hc : c.length + mu78 c ≤ 1048576 := by rw [hcv, cvl88_length, mucv88]; omega
  have tn := toNodeS_ev l (by omega)
  rw [← hcv] at tn
  have ti := toIntS_ev p (by omega)
  have s := spec_Addr_ev c p hc hp
  have i := impl_Addr_ev c p hp
  obtain ⟨r, hr⟩ : ∃ r, r = mAddr c p [] := ⟨_, rfl⟩
  rw [← hr] at s i
  have hl : r.1.length ≤ 1048576 := by have := mAddr_len p c []; rw [← hr] at this; simp at this; omega
  have en := eqNodeS_ev c (by omega)
  have ei := eqIntS_ev p (by omega)
  have es := eqStringS_ev r.1 (by omega)
  have hn := ncl_le c
  have mn := markNodeS_ev c 1 (by omega) (by omega)
  have mi := markIntS_ev p (1 + 2 * (c.length : Int) + 2 * (ncl c : Int)) (by omega) (by omega) (by omega)
  have ms := markStringS_ev r.1 1 (by omega) (by omega) (by omega)
  have hh := heldStringS_ev r.1 1 (by omega) (by omega) (by omega)
  refine ev_bind _ tn (ev_bind _ ti (ev_bind _ s (ev_bind _ tn (ev_bind _ ti (ev_bind _ i (ev_bind _ es (ev_pos rfl ?_)))))))
  refine Ev.step (fun k => by rw [laws_FnExactAddressOf.j0]) (ev_neg (by simp) ?_)
  refine ev_bind _ tn (ev_bind _ en (ev_pos rfl (ev_bind _ ti (ev_bind _ ei (ev_pos rfl ?_)))))
  refine ev_bind _ mn (ev_bind _ mi (ev_neg ?_ (ev_bind _ es (ev_pos rfl ?_))))
  · show ¬ (1 + 2 * (c.length : Int) + 2 * (ncl c : Int) + (p.length : Int) < 0)
    omega
  refine Ev.step (fun k => by rw [laws_FnExactAddressOf.j1]) (ev_neg (by simp) ?_)
  refine ev_bind _ ms (ev_bind _ hh (ev_neg (show ¬ (1 + (r.1.length : Int) < 0) by omega) (ev_pos rfl ?_)))
  refine ev_bind _ tn (ev_bind _ ti (ev_bind _ i (ev_bind _ es (ev_pos rfl ?_))))
  refine Ev.step (fun k => by rw [laws_FnExactAddressOf.j2]) (ev_neg (by simp) ?_)
  exact ev_bind _ hh (ev_neg (show ¬ (1 + (r.1.length : Int) < 0) by omega) (ev_pos rfl (ev_const rfl)))

end Go.Proofs.Ytnccklajpmpfdaa.Pure.LFnExactAddressOf
namespace Go.Proofs.Ytnccklajpmpfdaa.Pure
theorem FnExactAddressOf : PFnExactAddressOf.laws_FnExactAddressOf.Pure := LFnExactAddressOf.FnExactAddressOf
end Go.Proofs.Ytnccklajpmpfdaa.Pure
