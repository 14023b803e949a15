/- For every expression, the program's IsExpr returns what the reference's IsExpr returns. -/
import Derived.Test.YtmkhoakhfdjplaaPFnExactIsExprx0
import Derived.Test.YtmkhoakhfdjplaaPFnExactIsExprx1
import Derived.Test.YtmkhoakhfdjplaaPFnExactIsExprx2
import Derived.Test.YtmkhoakhfdjplaaPFnExactIsExprx3
import Derived.Test.YtmkhoakhfdjplaaPFnExactIsExprx4
import Derived.Test.YtmkhoakhfdjplaaPFnExactIsExprx5
import Derived.Test.YtmkhoakhfdjplaaPFnExactIsExprx6
import Derived.Test.YtmkhoakhfdjplaaPFnExactIsExprx7
import Derived.Test.YtmkhoakhfdjplaaPFnExactIsExprx8
import Derived.Test.YtmkhoakhfdjplaaPFnExactIsExprx9
import Derived.Test.YtmkhoakhfdjplaaPFnExactIsExprx10
import Derived.Test.YtmkhoakhfdjplaaPFnExactIsExprx11
import Derived.Test.YtmkhoakhfdjplaaQFnExactIsExpr
import Derived.Test.YtmkhoakhfdjplaaBase
namespace Go.Proofs.Ytmkhoakhfdjplaa.Pure.LFnExactIsExpr
open Go.RowKit Go.Proofs.Ytmkhoakhfdjplaa.PFnExactIsExpr Go.Proofs.YtmkhoakhfdjplaaW.PrintWords Go.Proofs.YtmkhoakhfdjplaaW.PrintLast Go.Proofs.YtmkhoakhfdjplaaW.PrintMore Go.Proofs.Ytmkhoakhfdjplaa.Base
set_option linter.unusedVariables false
set_option linter.unusedSimpArgs false

/-! #### the law's own helpers -/
def mustr : List ByteArray → Nat
  | [] => 0
  | x :: l => x.size + mustr l
theorem mustr_mem {l : List ByteArray} {x : ByteArray} (h : x ∈ l) : x.size ≤ mustr l := by
  induction l with
  | nil => cases h
  | cons y l ih =>
    simp only [mustr]
    rcases List.mem_cons.1 h with rfl | h
    · omega
    · have := ih h; omega
theorem mustr_append (l l' : List ByteArray) : mustr (l ++ l') = mustr l + mustr l' := by
  induction l with
  | nil => simp [mustr]
  | cons x l ih => simp only [List.cons_append, mustr, ih]; omega
def ms149 (x : S149) : Nat := (x.f0.size + (x.f1.size + 0))
def mu149 : List S149 → Nat
  | [] => 0
  | x :: l => ms149 x + mu149 l
theorem mu149_append (l l' : List S149) : mu149 (l ++ l') = mu149 l + mu149 l' := by
  induction l with
  | nil => simp [mu149]
  | cons x l ih => simp only [List.cons_append, mu149, ih]; omega
theorem mu149_mem {l : List S149} {x : S149} (h : x ∈ l) : ms149 x ≤ mu149 l := by
  induction l with
  | nil => cases h
  | cons y l ih =>
    simp only [mu149]
    rcases List.mem_cons.1 h with rfl | h
    · omega
    · have := ih h; omega
def ms105 (x : S105) : Nat := (x.f0.size + ((x.f1.length + mu149 x.f1) + 0))
def mu105 : List S105 → Nat
  | [] => 0
  | x :: l => ms105 x + mu105 l
theorem mu105_append (l l' : List S105) : mu105 (l ++ l') = mu105 l + mu105 l' := by
  induction l with
  | nil => simp [mu105]
  | cons x l ih => simp only [List.cons_append, mu105, ih]; omega
theorem mu105_mem {l : List S105} {x : S105} (h : x ∈ l) : ms105 x ≤ mu105 l := by
  induction l with
  | nil => cases h
  | cons y l ih =>
    simp only [mu105]
    rcases List.mem_cons.1 h with rfl | h
    · omega
    · have := ih h; omega
def ms24 (x : S24) : Nat := ((x.f2.length + mu105 x.f2) + 0)
def mu24 : List S24 → Nat
  | [] => 0
  | x :: l => ms24 x + mu24 l
theorem mu24_append (l l' : List S24) : mu24 (l ++ l') = mu24 l + mu24 l' := by
  induction l with
  | nil => simp [mu24]
  | cons x l ih => simp only [List.cons_append, mu24, ih]; omega
theorem mu24_mem {l : List S24} {x : S24} (h : x ∈ l) : ms24 x ≤ mu24 l := by
  induction l with
  | nil => cases h
  | cons y l ih =>
    simp only [mu24]
    rcases List.mem_cons.1 h with rfl | h
    · omega
    · have := ih h; omega
mutual
def ms48 : S48 → Nat
  | ⟨a0, a1, a2, a3, a4⟩ => (a2.size + (ms24 a3 + ((a4.length + mu48 a4) + 0)))
def mu48 : List S48 → Nat
  | [] => 0
  | x :: l => ms48 x + mu48 l
end
theorem mu48_append (l l' : List S48) : mu48 (l ++ l') = mu48 l + mu48 l' := by
  induction l with
  | nil => simp [mu48]
  | cons x l ih => simp only [List.cons_append, mu48, ih]; omega
theorem mu48_mem {l : List S48} {x : S48} (h : x ∈ l) : ms48 x ≤ mu48 l := by
  induction l with
  | nil => cases h
  | cons y l ih =>
    simp only [mu48]
    rcases List.mem_cons.1 h with rfl | h
    · omega
    · have := ih h; omega
def ms73 (x : S73) : Nat := (x.f0.size + (x.f1.size + 0))
def mu73 : List S73 → Nat
  | [] => 0
  | x :: l => ms73 x + mu73 l
theorem mu73_append (l l' : List S73) : mu73 (l ++ l') = mu73 l + mu73 l' := by
  induction l with
  | nil => simp [mu73]
  | cons x l ih => simp only [List.cons_append, mu73, ih]; omega
theorem mu73_mem {l : List S73} {x : S73} (h : x ∈ l) : ms73 x ≤ mu73 l := by
  induction l with
  | nil => cases h
  | cons y l ih =>
    simp only [mu73]
    rcases List.mem_cons.1 h with rfl | h
    · omega
    · have := ih h; omega
def ms71 (x : S71) : Nat := (x.f0.size + ((x.f1.length + mu73 x.f1) + 0))
def mu71 : List S71 → Nat
  | [] => 0
  | x :: l => ms71 x + mu71 l
theorem mu71_append (l l' : List S71) : mu71 (l ++ l') = mu71 l + mu71 l' := by
  induction l with
  | nil => simp [mu71]
  | cons x l ih => simp only [List.cons_append, mu71, ih]; omega
theorem mu71_mem {l : List S71} {x : S71} (h : x ∈ l) : ms71 x ≤ mu71 l := by
  induction l with
  | nil => cases h
  | cons y l ih =>
    simp only [mu71]
    rcases List.mem_cons.1 h with rfl | h
    · omega
    · have := ih h; omega
def ms29 (x : S29) : Nat := ((x.f2.length + mu71 x.f2) + 0)
def mu29 : List S29 → Nat
  | [] => 0
  | x :: l => ms29 x + mu29 l
theorem mu29_append (l l' : List S29) : mu29 (l ++ l') = mu29 l + mu29 l' := by
  induction l with
  | nil => simp [mu29]
  | cons x l ih => simp only [List.cons_append, mu29, ih]; omega
theorem mu29_mem {l : List S29} {x : S29} (h : x ∈ l) : ms29 x ≤ mu29 l := by
  induction l with
  | nil => cases h
  | cons y l ih =>
    simp only [mu29]
    rcases List.mem_cons.1 h with rfl | h
    · omega
    · have := ih h; omega
mutual
def ms54 : S54 → Nat
  | ⟨a0, a1, a2, a3, a4⟩ => (a2.size + (ms29 a3 + ((a4.length + mu54 a4) + 0)))
def mu54 : List S54 → Nat
  | [] => 0
  | x :: l => ms54 x + mu54 l
end
theorem mu54_append (l l' : List S54) : mu54 (l ++ l') = mu54 l + mu54 l' := by
  induction l with
  | nil => simp [mu54]
  | cons x l ih => simp only [List.cons_append, mu54, ih]; omega
theorem mu54_mem {l : List S54} {x : S54} (h : x ∈ l) : ms54 x ≤ mu54 l := by
  induction l with
  | nil => cases h
  | cons y l ih =>
    simp only [mu54]
    rcases List.mem_cons.1 h with rfl | h
    · omega
    · have := ih h; omega
theorem szTest_ok (v0 : ByteArray) (v1 : ByteArray) (left : Int) (g0 : v0.size ≤ maxLen) (g1 : v1.size ≤ maxLen) (h0 : 0 ≤ left) (h1 : left ≤ 1048576) : SzOk (fun k => laws_szTest.f v0 v1 left) left (v0.size + (v1.size + 0)) := by
  simp only [laws_szTest.f]
  have e : wrap64 (left - (v0.size : Int)) = left - (v0.size : Int) := w64 (by have := g0; unfold maxLen at this; omega) (by omega)
  simp only [e]; clear e
  refine sz_len ?_; intro q
  generalize ec : left - (v0.size : Int) = c0 at q ⊢
  have q' : c0 ≤ 1048576 := by omega
  have e : wrap64 (c0 - (v1.size : Int)) = c0 - (v1.size : Int) := w64 (by have := g1; unfold maxLen at this; omega) (by omega)
  simp only [e]; clear e
  refine sz_len ?_; intro q
  generalize ec : c0 - (v1.size : Int) = c1 at q ⊢
  have q' : c1 ≤ 1048576 := by omega
  exact sz_ret _ (by assumption)
theorem szTestS_l0 : ∀ (suf pre : List S149) (left : Int) (hb : (pre ++ suf).length ≤ maxLen) (g : ∀ y ∈ suf, G149 y) (h0 : 0 ≤ left) (h1 : left ≤ 1048576), SzOk (fun k => laws_szTestS.l0 k (pre ++ suf) left (pre.length : Int)) left (mu149 suf)
  | [], pre, left, hb, g, h0, h1 => by
    refine sz_step (fun k => by rw [laws_szTestS.l0]) ?_
    refine sz_neg (by simp) ?_
    exact sz_ret _ h0
  | x :: suf, pre, left, hb, g, h0, h1 => by
    have gx := g x List.mem_cons_self
    have ex : rd_T149 (pre ++ x :: suf) (pre.length : Int) = x := by unfold rd_T149; exact at_pre pre suf x _
    refine sz_step (fun k => by rw [laws_szTestS.l0]) ?_
    refine sz_pos (by simp only [List.length_append, List.length_cons]; omega) (sz_pos (by omega) ?_)
    rw [ex]
    rw [mu149]
    obtain ⟨gx0, gx1⟩ := gx
    refine sz_call (szTest_ok _ _ left gx0 gx1 (by assumption) (by omega)) ?_; intro c0 q ec
    have q' : c0 ≤ 1048576 := by omega
    rw [next_pre pre x (by have := hb; simp only [List.length_append, List.length_cons] at this; unfold maxLen at this; omega)]
    have z := szTestS_l0 suf (pre ++ [x]) c0 (by simpa using hb) (fun y hy => g y (List.mem_cons_of_mem _ hy)) (by assumption) (by omega)
    rw [List.append_assoc] at z
    exact z
theorem szTestS_ok (l : List S149) (left : Int) (g : l.length ≤ maxLen ∧ ∀ y ∈ l, G149 y) (h0 : 0 ≤ left) (h1 : left ≤ 1048576) : SzOk (fun k => laws_szTestS.f k l left) left (l.length + mu149 l) := by
  simp only [laws_szTestS.f]
  have e : wrap64 (left - (l.length : Int)) = left - (l.length : Int) := w64 (by have := g.1; unfold maxLen at this; omega) (by omega)
  simp only [e]; clear e
  refine sz_len ?_; intro q
  generalize ec : left - (l.length : Int) = c0 at q ⊢
  have q' : c0 ≤ 1048576 := by omega
  exact szTestS_l0 l [] c0 (by simpa using g.1) g.2 (by assumption) (by assumption)
theorem szStep_ok (v0 : ByteArray) (v1 : List S149) (left : Int) (g0 : v0.size ≤ maxLen) (g1 : v1.length ≤ maxLen ∧ ∀ y ∈ v1, G149 y) (h0 : 0 ≤ left) (h1 : left ≤ 1048576) : SzOk (fun k => laws_szStep.f k v0 v1 left) left (v0.size + ((v1.length + mu149 v1) + 0)) := by
  simp only [laws_szStep.f]
  have e : wrap64 (left - (v0.size : Int)) = left - (v0.size : Int) := w64 (by have := g0; unfold maxLen at this; omega) (by omega)
  simp only [e]; clear e
  refine sz_len ?_; intro q
  generalize ec : left - (v0.size : Int) = c0 at q ⊢
  have q' : c0 ≤ 1048576 := by omega
  refine sz_call (szTestS_ok _ _ g1 (by assumption) (by omega)) ?_; intro c1 q ec
  have q' : c1 ≤ 1048576 := by omega
  exact sz_ret _ (by assumption)
theorem szStepS_l0 : ∀ (suf pre : List S105) (left : Int) (hb : (pre ++ suf).length ≤ maxLen) (g : ∀ y ∈ suf, G105 y) (h0 : 0 ≤ left) (h1 : left ≤ 1048576), SzOk (fun k => laws_szStepS.l0 k (pre ++ suf) left (pre.length : Int)) left (mu105 suf)
  | [], pre, left, hb, g, h0, h1 => by
    refine sz_step (fun k => by rw [laws_szStepS.l0]) ?_
    refine sz_neg (by simp) ?_
    exact sz_ret _ h0
  | x :: suf, pre, left, hb, g, h0, h1 => by
    have gx := g x List.mem_cons_self
    have ex : rd_T105 (pre ++ x :: suf) (pre.length : Int) = x := by unfold rd_T105; exact at_pre pre suf x _
    refine sz_step (fun k => by rw [laws_szStepS.l0]) ?_
    refine sz_pos (by simp only [List.length_append, List.length_cons]; omega) (sz_pos (by omega) ?_)
    rw [ex]
    rw [mu105]
    obtain ⟨gx0, gx1⟩ := gx
    refine sz_call (szStep_ok _ _ left gx0 gx1 (by assumption) (by omega)) ?_; intro c0 q ec
    have q' : c0 ≤ 1048576 := by omega
    rw [next_pre pre x (by have := hb; simp only [List.length_append, List.length_cons] at this; unfold maxLen at this; omega)]
    have z := szStepS_l0 suf (pre ++ [x]) c0 (by simpa using hb) (fun y hy => g y (List.mem_cons_of_mem _ hy)) (by assumption) (by omega)
    rw [List.append_assoc] at z
    exact z
theorem szStepS_ok (l : List S105) (left : Int) (g : l.length ≤ maxLen ∧ ∀ y ∈ l, G105 y) (h0 : 0 ≤ left) (h1 : left ≤ 1048576) : SzOk (fun k => laws_szStepS.f k l left) left (l.length + mu105 l) := by
  simp only [laws_szStepS.f]
  have e : wrap64 (left - (l.length : Int)) = left - (l.length : Int) := w64 (by have := g.1; unfold maxLen at this; omega) (by omega)
  simp only [e]; clear e
  refine sz_len ?_; intro q
  generalize ec : left - (l.length : Int) = c0 at q ⊢
  have q' : c0 ≤ 1048576 := by omega
  exact szStepS_l0 l [] c0 (by simpa using g.1) g.2 (by assumption) (by assumption)
theorem szPath_ok (v0 : Bool) (v1 : Int) (v2 : List S105) (left : Int) (g2 : v2.length ≤ maxLen ∧ ∀ y ∈ v2, G105 y) (h0 : 0 ≤ left) (h1 : left ≤ 1048576) : SzOk (fun k => laws_szPath.f k v0 v1 v2 left) left ((v2.length + mu105 v2) + 0) := by
  simp only [laws_szPath.f]
  refine sz_call (szStepS_ok _ _ g2 (by assumption) (by omega)) ?_; intro c0 q ec
  have q' : c0 ≤ 1048576 := by omega
  exact sz_ret _ (by assumption)
mutual
theorem szExpr_ok : ∀ (x : S48) (left : Int) (g : G48 x) (h0 : 0 ≤ left) (h1 : left ≤ 1048576), SzOk (fun k => laws_szExpr.f k (x.f0) (x.f1) (x.f2) (x.f3.f0) (x.f3.f1) (x.f3.f2) (x.f4) left) left (ms48 x)
  | ⟨a0, a1, a2, ⟨a3_0, a3_1, a3_2⟩, a4⟩, left, g, h0, h1 => by
    simp only [G48, GL48_iff] at g
    obtain ⟨_, _, g2, ⟨_, _, g5⟩, g6⟩ := g
    rw [ms48]
    show SzOk (fun k => laws_szExpr.f k a0 a1 a2 a3_0 a3_1 a3_2 a4 left) _ _
    refine sz_step (fun k => by rw [laws_szExpr.f]) ?_
    have e : wrap64 (left - (a2.size : Int)) = left - (a2.size : Int) := w64 (by have := g2; unfold maxLen at this; omega) (by omega)
    simp only [e]; clear e
    refine sz_len ?_; intro q
    generalize ec : left - (a2.size : Int) = c0 at q ⊢
    have q' : c0 ≤ 1048576 := by omega
    refine sz_call (szPath_ok _ _ _ _ g5 (by assumption) (by omega)) ?_; intro c1 q ec
    have q' : c1 ≤ 1048576 := by omega
    refine sz_call (n := _ + mu48 _) (sz_step (fun k => by rw [laws_szExprS.f]) ?own) ?_
    case own =>
      have e : wrap64 (_ - ((_ : Nat) : Int)) = _ := w64 (x := c1 - (a4.length : Int)) (by have := g6.1; unfold maxLen at this; omega) (by omega)
      simp only [e]; clear e
      refine sz_len ?_; intro q
      generalize ec : c1 - (a4.length : Int) = cown at q ⊢
      exact szExprS_l0 a4 [] cown (by simpa using g6.1) g6.2 (by assumption) (by omega)
    intro c2 q ec
    have q' : c2 ≤ 1048576 := by omega
    exact sz_ret _ (by assumption)

theorem szExprS_l0 : ∀ (suf pre : List S48) (left : Int) (hb : (pre ++ suf).length ≤ maxLen) (g : ∀ y ∈ suf, G48 y) (h0 : 0 ≤ left) (h1 : left ≤ 1048576), SzOk (fun k => laws_szExprS.l0 k (pre ++ suf) left (pre.length : Int)) left (mu48 suf)
  | [], pre, left, hb, g, h0, h1 => by
    refine sz_step (fun k => by rw [laws_szExprS.l0]) ?_
    refine sz_neg (by simp) ?_
    rw [mu48]
    exact sz_ret _ h0
  | x :: suf, pre, left, hb, g, h0, h1 => by
    have gx := g x List.mem_cons_self
    have ex : rd_T48 (pre ++ x :: suf) (pre.length : Int) = x := by unfold rd_T48; exact at_pre pre suf x _
    refine sz_step (fun k => by rw [laws_szExprS.l0]) ?_
    refine sz_pos (by simp only [List.length_append, List.length_cons]; omega) (sz_pos (by omega) ?_)
    rw [ex, mu48]
    refine sz_call (szExpr_ok x left gx (by assumption) (by omega)) ?_; intro c0 q ec
    have q' : c0 ≤ 1048576 := by omega
    rw [next_pre pre x (by have := hb; simp only [List.length_append, List.length_cons] at this; unfold maxLen at this; omega)]
    have z := szExprS_l0 suf (pre ++ [x]) c0 (by simpa using hb) (fun y hy => g y (List.mem_cons_of_mem _ hy)) (by assumption) (by omega)
    rw [List.append_assoc] at z
    exact z
end
theorem szExprS_ok : ∀ (l : List S48) (left : Int) (g : l.length ≤ maxLen ∧ ∀ y ∈ l, G48 y) (h0 : 0 ≤ left) (h1 : left ≤ 1048576), SzOk (fun k => laws_szExprS.f k l left) left (l.length + mu48 l)
  | l, left, g, h0, h1 => by
    refine sz_step (fun k => by rw [laws_szExprS.f]) ?_
    have e : wrap64 (left - (l.length : Int)) = left - (l.length : Int) := w64 (by have := g.1; unfold maxLen at this; omega) (by omega)
    simp only [e]; clear e
    refine sz_len ?_; intro q
    generalize ec : left - (l.length : Int) = c0 at q ⊢
    have q' : c0 ≤ 1048576 := by omega
    exact szExprS_l0 l [] c0 (by simpa using g.1) g.2 (by assumption) (by assumption)
def cv149 (x : S149) : S73 := ⟨x.f0, x.f1⟩
def cvl149 : List S149 → List S73
  | [] => []
  | x :: l => cv149 x :: cvl149 l
theorem cvl149_length (l : List S149) : (cvl149 l).length = l.length := by
  induction l with
  | nil => rfl
  | cons x l ih => simp only [cvl149, List.length_cons, ih]
theorem cvl149_append (l l' : List S149) : cvl149 (l ++ l') = cvl149 l ++ cvl149 l' := by
  induction l with
  | nil => rfl
  | cons x l ih => simp only [List.cons_append, cvl149, ih]
theorem cvl149_map (l : List S149) : cvl149 l = l.map cv149 := by
  induction l with
  | nil => rfl
  | cons x l ih => simp only [List.map_cons, cvl149, ih]
theorem mscv149 (x : S149) : ms73 (cv149 x) = ms149 x := by
  simp only [cv149, ms73, ms149]
theorem mucv149 (l : List S149) : mu73 (cvl149 l) = mu149 l := by
  induction l with
  | nil => rfl
  | cons x l ih => simp only [cvl149, mu73, mu149, mscv149, ih]
def cv105 (x : S105) : S71 := ⟨x.f0, (cvl149 x.f1)⟩
def cvl105 : List S105 → List S71
  | [] => []
  | x :: l => cv105 x :: cvl105 l
theorem cvl105_length (l : List S105) : (cvl105 l).length = l.length := by
  induction l with
  | nil => rfl
  | cons x l ih => simp only [cvl105, List.length_cons, ih]
theorem cvl105_append (l l' : List S105) : cvl105 (l ++ l') = cvl105 l ++ cvl105 l' := by
  induction l with
  | nil => rfl
  | cons x l ih => simp only [List.cons_append, cvl105, ih]
theorem cvl105_map (l : List S105) : cvl105 l = l.map cv105 := by
  induction l with
  | nil => rfl
  | cons x l ih => simp only [List.map_cons, cvl105, ih]
theorem mscv105 (x : S105) : ms71 (cv105 x) = ms105 x := by
  simp only [cv105, ms71, ms105, cvl149_length, mucv149]
theorem mucv105 (l : List S105) : mu71 (cvl105 l) = mu105 l := by
  induction l with
  | nil => rfl
  | cons x l ih => simp only [cvl105, mu71, mu105, mscv105, ih]
def cv24 (x : S24) : S29 := ⟨x.f0, x.f1, (cvl105 x.f2)⟩
def cvl24 : List S24 → List S29
  | [] => []
  | x :: l => cv24 x :: cvl24 l
theorem cvl24_length (l : List S24) : (cvl24 l).length = l.length := by
  induction l with
  | nil => rfl
  | cons x l ih => simp only [cvl24, List.length_cons, ih]
theorem cvl24_append (l l' : List S24) : cvl24 (l ++ l') = cvl24 l ++ cvl24 l' := by
  induction l with
  | nil => rfl
  | cons x l ih => simp only [List.cons_append, cvl24, ih]
theorem cvl24_map (l : List S24) : cvl24 l = l.map cv24 := by
  induction l with
  | nil => rfl
  | cons x l ih => simp only [List.map_cons, cvl24, ih]
theorem mscv24 (x : S24) : ms29 (cv24 x) = ms24 x := by
  simp only [cv24, ms29, ms24, cvl105_length, mucv105]
theorem mucv24 (l : List S24) : mu29 (cvl24 l) = mu24 l := by
  induction l with
  | nil => rfl
  | cons x l ih => simp only [cvl24, mu29, mu24, mscv24, ih]
mutual
def cv48 : S48 → S54
  | ⟨a0, a1, a2, a3, a4⟩ => ⟨a0, a1, a2, (cv24 a3), (cvl48 a4)⟩
def cvl48 : List S48 → List S54
  | [] => []
  | x :: l => cv48 x :: cvl48 l
end
theorem cvl48_length (l : List S48) : (cvl48 l).length = l.length := by
  induction l with
  | nil => rfl
  | cons x l ih => simp only [cvl48, List.length_cons, ih]
theorem cvl48_append (l l' : List S48) : cvl48 (l ++ l') = cvl48 l ++ cvl48 l' := by
  induction l with
  | nil => rfl
  | cons x l ih => simp only [List.cons_append, cvl48, ih]
theorem cvl48_map (l : List S48) : cvl48 l = l.map cv48 := by
  induction l with
  | nil => rfl
  | cons x l ih => simp only [List.map_cons, cvl48, ih]
mutual
theorem mscv48 : ∀ x, ms54 (cv48 x) = ms48 x
  | ⟨a0, a1, a2, a3, a4⟩ => by
    have h := mucv48 a4
    simp only [cv48, ms54, ms48, cvl48_length, h, mscv24]
theorem mucv48 : ∀ l, mu54 (cvl48 l) = mu48 l
  | [] => rfl
  | x :: l => by
    have h := mscv48 x
    have h' := mucv48 l
    simp only [cvl48, mu54, mu48, h, h']
end
theorem toTest_ev (v0 : ByteArray) (v1 : ByteArray) (hm : (v0.size + (v1.size + 0)) ≤ 1048576) : Ev (fun k => laws_toTest.f v0 v1) (v0, v1) := by
  simp only [laws_toTest.f]
  exact ev_const rfl
theorem toTestS_l0 : ∀ (suf pre : List S149) (hb : (pre ++ suf).length ≤ 1048576) (hm : mu149 suf ≤ 1048576), Ev (fun k => laws_toTestS.l0 k (pre ++ suf) ((cvl149 pre) ++ List.replicate suf.length z73) (pre.length : Int)) (cvl149 (pre ++ suf))
  | [], pre, hb, hm => by
    refine Ev.step (fun k => by rw [laws_toTestS.l0]) ?_
    refine ev_neg (by simp) (ev_const ?_)
    simp
  | x :: suf, pre, hb, hm => by
    have ex : rd_T149 (pre ++ x :: suf) (pre.length : Int) = x := by unfold rd_T149; exact at_pre pre suf x _
    have hb' := hb
    simp only [List.length_append, List.length_cons] at hb'
    rw [mu149] at hm
    refine Ev.step (fun k => by rw [laws_toTestS.l0]) ?_
    refine ev_pos (by simp only [List.length_append, List.length_cons]; omega) (ev_pos (by omega) ?_)
    rw [ex]
    refine ev_bind _ (toTest_ev _ _ (by first | (simp only [ms149] at hm; omega) | omega)) ?_
    refine ev_pos (by simp only [List.length_append, cvl149_length, List.length_replicate, List.length_cons]; omega) ?_
    have es : (cvl149 pre ++ List.replicate (x :: suf).length z73).set ((pre.length : Int)).toNat (cv149 x) = cvl149 (pre ++ [x]) ++ List.replicate suf.length z73 := by
      have h2 := set_pre (cvl149 pre) (List.replicate suf.length z73) z73 (cv149 x)
      rw [cvl149_length] at h2
      rw [List.length_cons, List.replicate_succ, h2, cvl149_append]; rfl
    rw [next_pre pre x (by omega)]
    have z := toTestS_l0 suf (pre ++ [x]) (by simpa using hb) (by omega)
    rw [List.append_assoc] at z
    rw [← es] at z
    have e2 : (⟨(cv149 x).f0, (cv149 x).f1⟩ : S73) = cv149 x := by rfl
    show Ev (fun k => laws_toTestS.l0 k (pre ++ x :: suf) ((cvl149 pre ++ List.replicate (x :: suf).length z73).set ((pre.length : Int)).toNat (⟨(cv149 x).f0, (cv149 x).f1⟩ : S73)) ((pre ++ [x]).length : Int)) (cvl149 (pre ++ x :: suf))
    rw [e2]
    exact z
theorem toTestS_ev (l : List S149) (hm : (l.length + mu149 l) ≤ 1048576) : Ev (fun k => laws_toTestS.f k l) (cvl149 l) := by
  simp only [laws_toTestS.f]
  have hl : l.length ≤ 1048576 := by omega
  refine ev_pos (by omega) (ev_pos (by omega) ?_)
  have z := toTestS_l0 l [] (by simpa using hl) (by omega)
  simpa [cvl149] using z
theorem toStep_ev (v0 : ByteArray) (v1 : List S149) (hm : (v0.size + ((v1.length + mu149 v1) + 0)) ≤ 1048576) : Ev (fun k => laws_toStep.f k v0 v1) (v0, (cvl149 v1)) := by
  simp only [laws_toStep.f]
  refine ev_bind _ (toTestS_ev _ (by omega)) ?_
  exact ev_const rfl
theorem toStepS_l0 : ∀ (suf pre : List S105) (hb : (pre ++ suf).length ≤ 1048576) (hm : mu105 suf ≤ 1048576), Ev (fun k => laws_toStepS.l0 k (pre ++ suf) ((cvl105 pre) ++ List.replicate suf.length z71) (pre.length : Int)) (cvl105 (pre ++ suf))
  | [], pre, hb, hm => by
    refine Ev.step (fun k => by rw [laws_toStepS.l0]) ?_
    refine ev_neg (by simp) (ev_const ?_)
    simp
  | x :: suf, pre, hb, hm => by
    have ex : rd_T105 (pre ++ x :: suf) (pre.length : Int) = x := by unfold rd_T105; exact at_pre pre suf x _
    have hb' := hb
    simp only [List.length_append, List.length_cons] at hb'
    rw [mu105] at hm
    refine Ev.step (fun k => by rw [laws_toStepS.l0]) ?_
    refine ev_pos (by simp only [List.length_append, List.length_cons]; omega) (ev_pos (by omega) ?_)
    rw [ex]
    refine ev_bind _ (toStep_ev _ _ (by first | (simp only [ms105] at hm; omega) | omega)) ?_
    refine ev_pos (by simp only [List.length_append, cvl105_length, List.length_replicate, List.length_cons]; omega) ?_
    have es : (cvl105 pre ++ List.replicate (x :: suf).length z71).set ((pre.length : Int)).toNat (cv105 x) = cvl105 (pre ++ [x]) ++ List.replicate suf.length z71 := by
      have h2 := set_pre (cvl105 pre) (List.replicate suf.length z71) z71 (cv105 x)
      rw [cvl105_length] at h2
      rw [List.length_cons, List.replicate_succ, h2, cvl105_append]; rfl
    rw [next_pre pre x (by omega)]
    have z := toStepS_l0 suf (pre ++ [x]) (by simpa using hb) (by omega)
    rw [List.append_assoc] at z
    rw [← es] at z
    have e2 : (⟨(cv105 x).f0, (cv105 x).f1⟩ : S71) = cv105 x := by rfl
    show Ev (fun k => laws_toStepS.l0 k (pre ++ x :: suf) ((cvl105 pre ++ List.replicate (x :: suf).length z71).set ((pre.length : Int)).toNat (⟨(cv105 x).f0, (cv105 x).f1⟩ : S71)) ((pre ++ [x]).length : Int)) (cvl105 (pre ++ x :: suf))
    rw [e2]
    exact z
theorem toStepS_ev (l : List S105) (hm : (l.length + mu105 l) ≤ 1048576) : Ev (fun k => laws_toStepS.f k l) (cvl105 l) := by
  simp only [laws_toStepS.f]
  have hl : l.length ≤ 1048576 := by omega
  refine ev_pos (by omega) (ev_pos (by omega) ?_)
  have z := toStepS_l0 l [] (by simpa using hl) (by omega)
  simpa [cvl105] using z
theorem toPath_ev (v0 : Bool) (v1 : Int) (v2 : List S105) (hm : ((v2.length + mu105 v2) + 0) ≤ 1048576) : Ev (fun k => laws_toPath.f k v0 v1 v2) (v0, v1, (cvl105 v2)) := by
  simp only [laws_toPath.f]
  refine ev_bind _ (toStepS_ev _ (by omega)) ?_
  exact ev_const rfl
mutual
theorem toExpr_ev : ∀ (x : S48) (hm : ms48 x ≤ 1048576), Ev (fun k => laws_toExpr.f k (x.f0) (x.f1) (x.f2) (x.f3.f0) (x.f3.f1) (x.f3.f2) (x.f4)) ((cv48 x).f0, (cv48 x).f1, (cv48 x).f2, (cv48 x).f3.f0, (cv48 x).f3.f1, (cv48 x).f3.f2, (cv48 x).f4)
  | ⟨a0, a1, a2, ⟨a3_0, a3_1, a3_2⟩, a4⟩, hm => by
    rw [ms48] at hm
    try simp only [ms149, ms105, ms24, ms73, ms71, ms29] at hm
    show Ev (fun k => laws_toExpr.f k a0 a1 a2 a3_0 a3_1 a3_2 a4) _
    refine Ev.step (fun k => by rw [laws_toExpr.f]) ?_
    refine ev_bind _ (toPath_ev _ _ _ (by omega)) ?_
    refine ev_bind (cvl48 a4) (Ev.step (fun k => by rw [laws_toExprS.f]) ?own) ?_
    case own =>
      refine ev_pos (by omega) (ev_pos (by omega) ?_)
      have z := toExprS_l0 a4 [] (by rw [List.nil_append]; omega) (by omega)
      exact z
    exact ev_const (by simp only [cv48, cv149, cv105, cv24])
theorem toExprS_l0 : ∀ (suf pre : List S48) (hb : (pre ++ suf).length ≤ 1048576) (hm : mu48 suf ≤ 1048576), Ev (fun k => laws_toExprS.l0 k (pre ++ suf) ((cvl48 pre) ++ List.replicate suf.length z54) (pre.length : Int)) (cvl48 (pre ++ suf))
  | [], pre, hb, hm => by
    refine Ev.step (fun k => by rw [laws_toExprS.l0]) ?_
    refine ev_neg (by simp) (ev_const ?_)
    simp
  | x :: suf, pre, hb, hm => by
    have ex : rd_T48 (pre ++ x :: suf) (pre.length : Int) = x := by unfold rd_T48; exact at_pre pre suf x _
    have hb' := hb
    simp only [List.length_append, List.length_cons] at hb'
    rw [mu48] at hm
    refine Ev.step (fun k => by rw [laws_toExprS.l0]) ?_
    refine ev_pos (by simp only [List.length_append, List.length_cons]; omega) (ev_pos (by omega) ?_)
    rw [ex]
    refine ev_bind _ (toExpr_ev x (by omega)) ?_
    refine ev_pos (by simp only [List.length_append, cvl48_length, List.length_replicate, List.length_cons]; omega) ?_
    have es : (cvl48 pre ++ List.replicate (x :: suf).length z54).set ((pre.length : Int)).toNat (cv48 x) = cvl48 (pre ++ [x]) ++ List.replicate suf.length z54 := by
      have h2 := set_pre (cvl48 pre) (List.replicate suf.length z54) z54 (cv48 x)
      rw [cvl48_length] at h2
      rw [List.length_cons, List.replicate_succ, h2, cvl48_append]; rfl
    rw [next_pre pre x (by omega)]
    have z := toExprS_l0 suf (pre ++ [x]) (by simpa using hb) (by omega)
    rw [List.append_assoc] at z
    rw [← es] at z
    have e2 : (⟨(cv48 x).f0, (cv48 x).f1, (cv48 x).f2, (cv48 x).f3, (cv48 x).f4⟩ : S54) = cv48 x := by cases cv48 x; rfl
    show Ev (fun k => laws_toExprS.l0 k (pre ++ x :: suf) ((cvl48 pre ++ List.replicate (x :: suf).length z54).set ((pre.length : Int)).toNat (⟨(cv48 x).f0, (cv48 x).f1, (cv48 x).f2, (cv48 x).f3, (cv48 x).f4⟩ : S54)) ((pre ++ [x]).length : Int)) (cvl48 (pre ++ x :: suf))
    rw [e2]
    exact z
end
theorem toExprS_ev (l : List S48) (hm : (l.length + mu48 l) ≤ 1048576) : Ev (fun k => laws_toExprS.f k l) (cvl48 l) := by
  refine Ev.step (fun k => by rw [laws_toExprS.f]) ?_
  have hl : l.length ≤ 1048576 := by omega
  refine ev_pos (by omega) (ev_pos (by omega) ?_)
  have z := toExprS_l0 l [] (by simpa using hl) (by omega)
  simpa [cvl48] using z
theorem eqTest_ev (v0 : ByteArray) (v1 : ByteArray) (hm : (v0.size + (v1.size + 0)) ≤ 4611686018427387904) : Ev (fun k => laws_eqTest.f v0 v1 v0 v1) true := by
  simp only [laws_eqTest.f]
  refine ev_pos (by simp) ?_
  refine ev_pos (by simp) ?_
  exact ev_const rfl
theorem eqTestS_l0 : ∀ (suf pre : List S73) (hb : (pre ++ suf).length ≤ 4611686018427387904) (hm : mu73 suf ≤ 4611686018427387904), Ev (fun k => laws_eqTestS.l0 k (pre ++ suf) (pre ++ suf) (pre.length : Int)) true
  | [], pre, hb, hm => by
    refine Ev.step (fun k => by rw [laws_eqTestS.l0]) ?_
    exact ev_neg (by simp) (ev_const rfl)
  | x :: suf, pre, hb, hm => by
    have ex : rd_T73 (pre ++ x :: suf) (pre.length : Int) = x := by unfold rd_T73; exact at_pre pre suf x _
    have hb' := hb
    simp only [List.length_append, List.length_cons] at hb'
    rw [mu73] at hm
    refine Ev.step (fun k => by rw [laws_eqTestS.l0]) ?_
    refine ev_pos (by simp only [List.length_append, List.length_cons]; omega) (ev_pos (by omega) (ev_pos (by simp only [List.length_append, List.length_cons]; omega) ?_))
    rw [ex]
    refine ev_bind _ (eqTest_ev _ _ (by first | (simp only [ms73] at hm; omega) | omega)) (ev_pos (by simp) ?_)
    rw [next_pre pre x (by omega)]
    have z := eqTestS_l0 suf (pre ++ [x]) (by simpa using hb) (by omega)
    rw [List.append_assoc] at z
    exact z
theorem eqTestS_ev (l : List S73) (hm : (l.length + mu73 l) ≤ 4611686018427387904) : Ev (fun k => laws_eqTestS.f k l l) true := by
  simp only [laws_eqTestS.f]
  refine ev_pos (by simp) ?_
  exact eqTestS_l0 l [] (by rw [List.nil_append]; omega) (by omega)
theorem eqStep_ev (v0 : ByteArray) (v1 : List S73) (hm : (v0.size + ((v1.length + mu73 v1) + 0)) ≤ 4611686018427387904) : Ev (fun k => laws_eqStep.f k v0 v1 v0 v1) true := by
  simp only [laws_eqStep.f]
  refine ev_pos (by simp) ?_
  refine ev_bind _ (eqTestS_ev _ (by omega)) (ev_pos (by simp) ?_)
  exact ev_const rfl
theorem eqStepS_l0 : ∀ (suf pre : List S71) (hb : (pre ++ suf).length ≤ 4611686018427387904) (hm : mu71 suf ≤ 4611686018427387904), Ev (fun k => laws_eqStepS.l0 k (pre ++ suf) (pre ++ suf) (pre.length : Int)) true
  | [], pre, hb, hm => by
    refine Ev.step (fun k => by rw [laws_eqStepS.l0]) ?_
    exact ev_neg (by simp) (ev_const rfl)
  | x :: suf, pre, hb, hm => by
    have ex : rd_T71 (pre ++ x :: suf) (pre.length : Int) = x := by unfold rd_T71; exact at_pre pre suf x _
    have hb' := hb
    simp only [List.length_append, List.length_cons] at hb'
    rw [mu71] at hm
    refine Ev.step (fun k => by rw [laws_eqStepS.l0]) ?_
    refine ev_pos (by simp only [List.length_append, List.length_cons]; omega) (ev_pos (by omega) (ev_pos (by simp only [List.length_append, List.length_cons]; omega) ?_))
    rw [ex]
    refine ev_bind _ (eqStep_ev _ _ (by first | (simp only [ms71] at hm; omega) | omega)) (ev_pos (by simp) ?_)
    rw [next_pre pre x (by omega)]
    have z := eqStepS_l0 suf (pre ++ [x]) (by simpa using hb) (by omega)
    rw [List.append_assoc] at z
    exact z
theorem eqStepS_ev (l : List S71) (hm : (l.length + mu71 l) ≤ 4611686018427387904) : Ev (fun k => laws_eqStepS.f k l l) true := by
  simp only [laws_eqStepS.f]
  refine ev_pos (by simp) ?_
  exact eqStepS_l0 l [] (by rw [List.nil_append]; omega) (by omega)
theorem eqPath_ev (v0 : Bool) (v1 : Int) (v2 : List S71) (hm : ((v2.length + mu71 v2) + 0) ≤ 4611686018427387904) : Ev (fun k => laws_eqPath.f k v0 v1 v2 v0 v1 v2) true := by
  simp only [laws_eqPath.f]
  refine ev_neg (by simp) ?_
  refine ev_pos (by simp) ?_
  refine ev_bind _ (eqStepS_ev _ (by omega)) (ev_pos (by simp) ?_)
  exact ev_const rfl
mutual
theorem eqExpr_ev : ∀ (x : S54) (hm : ms54 x ≤ 4611686018427387904), Ev (fun k => laws_eqExpr.f k (x.f0) (x.f1) (x.f2) (x.f3.f0) (x.f3.f1) (x.f3.f2) (x.f4) (x.f0) (x.f1) (x.f2) (x.f3.f0) (x.f3.f1) (x.f3.f2) (x.f4)) true
  | ⟨a0, a1, a2, ⟨a3_0, a3_1, a3_2⟩, a4⟩, hm => by
    rw [ms54] at hm
    try simp only [ms149, ms105, ms24, ms73, ms71, ms29] at hm
    show Ev (fun k => laws_eqExpr.f k a0 a1 a2 a3_0 a3_1 a3_2 a4 a0 a1 a2 a3_0 a3_1 a3_2 a4) _
    refine Ev.step (fun k => by rw [laws_eqExpr.f]) ?_
    refine ev_pos (by simp) ?_
    refine ev_pos (by simp) ?_
    refine ev_pos (by simp) ?_
    refine ev_bind _ (eqPath_ev _ _ _ (by omega)) (ev_pos (by simp) ?_)
    refine ev_bind true (Ev.step (fun k => by rw [laws_eqExprS.f]) ?own) (ev_pos (by simp) ?_)
    case own =>
      exact ev_pos (by simp) (eqExprS_l0 a4 [] (by rw [List.nil_append]; omega) (by omega))
    exact ev_const rfl
theorem eqExprS_l0 : ∀ (suf pre : List S54) (hb : (pre ++ suf).length ≤ 4611686018427387904) (hm : mu54 suf ≤ 4611686018427387904), Ev (fun k => laws_eqExprS.l0 k (pre ++ suf) (pre ++ suf) (pre.length : Int)) true
  | [], pre, hb, hm => by
    refine Ev.step (fun k => by rw [laws_eqExprS.l0]) ?_
    exact ev_neg (by simp) (ev_const rfl)
  | x :: suf, pre, hb, hm => by
    have ex : rd_T54 (pre ++ x :: suf) (pre.length : Int) = x := by unfold rd_T54; exact at_pre pre suf x _
    have hb' := hb
    simp only [List.length_append, List.length_cons] at hb'
    rw [mu54] at hm
    refine Ev.step (fun k => by rw [laws_eqExprS.l0]) ?_
    refine ev_pos (by simp only [List.length_append, List.length_cons]; omega) (ev_pos (by omega) (ev_pos (by simp only [List.length_append, List.length_cons]; omega) ?_))
    rw [ex]
    refine ev_bind _ (eqExpr_ev x (by omega)) (ev_pos (by simp) ?_)
    rw [next_pre pre x (by omega)]
    have z := eqExprS_l0 suf (pre ++ [x]) (by simpa using hb) (by omega)
    rw [List.append_assoc] at z
    exact z
end
theorem eqExprS_ev (l : List S54) (hm : (l.length + mu54 l) ≤ 4611686018427387904) : Ev (fun k => laws_eqExprS.f k l l) true := by
  refine Ev.step (fun k => by rw [laws_eqExprS.f]) ?_
  refine ev_pos (by simp) ?_
  exact eqExprS_l0 l [] (by rw [List.nil_append]; omega) (by omega)

/-! #### l1In -/
theorem spec_l1In_eq (a b c : Int) : spec_l1In.f a b c = some (decide (b ≤ a) && decide (a ≤ c)) := by
  unfold spec_l1In.f
  by_cases h : a ≥ b
  · rw [if_pos h, decide_eq_true h, Bool.true_and]
  · rw [if_neg h, decide_eq_false h, Bool.false_and]

/-! #### mName -/
def lowerB (c : Int) : Bool := decide (97 ≤ c) && decide (c ≤ 122)
def digitB (c : Int) : Bool := decide (48 ≤ c) && decide (c ≤ 57)
def nameB (c : Int) : Bool := lowerB c || (digitB c || decide (c = 45))
def lastOk (s : ByteArray) : Bool := decide ((bts s).getD (s.size - 1) 0 ≠ 45)
def mIsName (s : ByteArray) : Bool :=
  match bts s with
  | [] => false
  | c :: l => (lowerB c && l.all nameB) && (decide (s.size ≤ 16) && lastOk s)

/-! #### spec_IsName -/
theorem spec_IsName_l0 (s : ByteArray) (hs : s.size ≤ 4611686018427387904) : ∀ (n i : Nat), 1 ≤ i → i + n = s.size → Ev (fun k => spec_IsName.l0 k s i) (((bts s).drop i).all nameB && (decide (s.size ≤ 16) && lastOk s)) := by
  intro n
  induction n with
  | zero =>
    intro i h1 hi
    refine Ev.step (fun k => by rw [spec_IsName.l0]) ?_
    refine ev_neg (by omega) ?_
    rw [List.drop_eq_nil_of_le (by rw [bts_length]; omega), List.all_nil, Bool.true_and]
    refine ev_let _ (spec_l1In_eq _ _ _) ?_
    have e : wrap64 ((s.size : Int) - 1) = ((s.size - 1 : Nat) : Int) := by rw [w64 (by omega) (by omega)]; omega
    rw [e]
    refine ev_ite (fun h => ?_) (fun h => ?_)
    · refine ev_pos (by omega) (ev_pos (by omega) (ev_const ?_))
      simp only [Bool.and_eq_true, decide_eq_true_eq] at h
      rw [decide_eq_true (by omega), Bool.true_and, bt_eq, lastOk, Int.toNat_natCast]
      congr 1
      simp [bne, BEq.beq]
    · refine ev_const ?_
      simp only [Bool.and_eq_true, decide_eq_true_eq] at h
      rw [decide_eq_false (by omega), Bool.false_and]
  | succ n ih =>
    intro i h1 hi
    have hb := bt_range s i
    have e1 : wrap64 (bt s i) = bt s i := w64 (by omega) (by omega)
    have e2 : wrap64 ((i : Int) + 1) = ((i + 1 : Nat) : Int) := by rw [w64 (by omega) (by omega)]; omega
    refine Ev.step (fun k => by rw [spec_IsName.l0]) ?_
    refine ev_pos (by omega) (ev_pos (by omega) ?_)
    refine ev_let _ (spec_l1In_eq _ _ _) ?_
    rw [e1, e2, drop_cons (z := 0) (by rw [bts_length]; omega), List.all_cons, ← Int.toNat_natCast i, ← bt_eq, Int.toNat_natCast]
    have z := ih (i + 1) (by omega) (by omega)
    refine ev_ite (fun h => ?_) (fun h => ?_)
    · rw [show nameB (bt s i) = true from by rw [nameB, lowerB, h, Bool.true_or], Bool.true_and]
      exact z
    · have h' := Bool.eq_false_iff.mpr h
      refine ev_neg (by omega) (ev_let _ (spec_l1In_eq _ _ _) ?_)
      refine ev_ite (fun h2 => ?_) (fun h2 => ?_)
      · rw [show nameB (bt s i) = true from by rw [nameB, digitB, h2, Bool.true_or, Bool.or_true], Bool.true_and]
        exact z
      · have h2' := Bool.eq_false_iff.mpr h2
        refine ev_ite (fun h3 => ?_) (fun h3 => ?_)
        · rw [show nameB (bt s i) = true from by rw [nameB, decide_eq_true h3, Bool.or_true, Bool.or_true], Bool.true_and]
          exact z
        · rw [show nameB (bt s i) = false from by rw [nameB, lowerB, digitB, h', h2', decide_eq_false h3]; rfl, Bool.false_and, Bool.false_and]
          exact ev_const rfl
theorem spec_IsName_ev (s : ByteArray) (hs : s.size ≤ 4611686018427387904) : Ev (fun k => spec_IsName.f k s) (mIsName s) := by
  show Ev (fun k => spec_IsName.l0 k s 0) _
  have hl := bts_length s
  have hb := bt_range s 0
  refine Ev.step (fun k => by rw [spec_IsName.l0]) ?_
  unfold mIsName
  cases hc : bts s with
  | nil =>
    rw [hc] at hl
    simp only [List.length_nil] at hl
    refine ev_neg (by omega) (ev_let _ (spec_l1In_eq _ _ _) ?_)
    exact ev_neg (by simp; omega) (ev_const rfl)
  | cons c l =>
    rw [hc] at hl
    simp only [List.length_cons] at hl
    show Ev _ ((lowerB c && l.all nameB) && (decide (s.size ≤ 16) && lastOk s))
    have ec : bt s 0 = c := by rw [bt_eq, hc]; rfl
    have hd : (bts s).drop 1 = l := by rw [hc]; rfl
    have e1 : wrap64 (bt s 0) = c := by rw [w64 (by omega) (by omega), ec]
    have e2 : wrap64 ((0 : Int) + 1) = ((1 : Nat) : Int) := by rw [w64 (by omega) (by omega)]; rfl
    refine ev_pos (by omega) (ev_pos (by omega) ?_)
    refine ev_let _ (spec_l1In_eq _ _ _) ?_
    rw [e1, e2]
    refine ev_ite (fun h => ?_) (fun h => ?_)
    · rw [show lowerB c = true from h, Bool.true_and]
      have z := spec_IsName_l0 s hs (s.size - 1) 1 (by omega) (by omega)
      rw [hd] at z
      exact z
    · rw [show lowerB c = false from Bool.eq_false_iff.mpr h, Bool.false_and, Bool.false_and]
      exact ev_pos rfl (ev_const rfl)

/-! #### isByte -/
theorem isLower_eq (c : Int) : impl_isLower.f c = some (lowerB c) := by
  unfold impl_isLower.f lowerB
  by_cases h : c ≥ 97
  · rw [if_pos h, decide_eq_true h, Bool.true_and]
  · rw [if_neg h, decide_eq_false h, Bool.false_and]
theorem isDigit_eq (c : Int) : impl_isDigit.f c = some (digitB c) := by
  unfold impl_isDigit.f digitB
  by_cases h : c ≥ 48
  · rw [if_pos h, decide_eq_true h, Bool.true_and]
  · rw [if_neg h, decide_eq_false h, Bool.false_and]
theorem isNameByte_eq (c : Int) : impl_isNameByte.f c = some (nameB c) := by
  unfold impl_isNameByte.f nameB
  rw [isLower_eq, isDigit_eq]
  simp only [Option.bind_some]
  cases lowerB c <;> cases digitB c <;> simp [BEq.beq]

/-! #### impl_IsName -/
theorem impl_IsName_l0 (s : ByteArray) (hs : s.size ≤ 16) : ∀ (n i : Nat), 1 ≤ i → i + n = s.size → Ev (fun k => impl_IsName.l0 k s i) (((bts s).drop i).all nameB && (decide (s.size ≤ 16) && lastOk s)) := by
  intro n
  induction n with
  | zero =>
    intro i h1 hi
    refine Ev.step (fun k => by rw [impl_IsName.l0]) ?_
    refine ev_neg (by omega) ?_
    rw [List.drop_eq_nil_of_le (by rw [bts_length]; omega), List.all_nil, Bool.true_and]
    have e : wrap64 ((s.size : Int) - 1) = ((s.size - 1 : Nat) : Int) := by rw [w64 (by omega) (by omega)]; omega
    rw [e]
    refine ev_pos (by omega) (ev_pos (by omega) (ev_const ?_))
    rw [decide_eq_true (by omega), Bool.true_and, bt_eq, lastOk, Int.toNat_natCast]
    congr 1
    simp [bne, BEq.beq]
  | succ n ih =>
    intro i h1 hi
    have e2 : wrap64 ((i : Int) + 1) = ((i + 1 : Nat) : Int) := by rw [w64 (by omega) (by omega)]; omega
    refine Ev.step (fun k => by rw [impl_IsName.l0]) ?_
    refine ev_pos (by omega) (ev_pos (by omega) ?_)
    refine ev_let _ (isNameByte_eq _) ?_
    rw [e2, drop_cons (z := 0) (by rw [bts_length]; omega), List.all_cons, ← Int.toNat_natCast i, ← bt_eq, Int.toNat_natCast]
    refine ev_ite (fun h => ?_) (fun h => ?_)
    · rw [h, Bool.true_and]
      exact ih (i + 1) (by omega) (by omega)
    · rw [Bool.eq_false_iff.mpr h, Bool.false_and, Bool.false_and]
      exact ev_const rfl
theorem impl_IsName_ev (s : ByteArray) (hs : s.size ≤ 4611686018427387904) : Ev (fun k => impl_IsName.f k s) (mIsName s) := by
  have hl := bts_length s
  simp only [impl_IsName.f]
  unfold mIsName
  cases hc : bts s with
  | nil =>
    rw [hc] at hl
    simp only [List.length_nil] at hl
    refine ev_pos (by omega) (Ev.step (fun k => by rw [impl_IsName.j0]) ?_)
    exact ev_pos rfl (ev_const rfl)
  | cons c l =>
    rw [hc] at hl
    simp only [List.length_cons] at hl
    show Ev _ ((lowerB c && l.all nameB) && (decide (s.size ≤ 16) && lastOk s))
    have ec : bt s 0 = c := by rw [bt_eq, hc]; rfl
    have hd : (bts s).drop 1 = l := by rw [hc]; rfl
    refine ev_neg (by omega) (ev_ite (fun h => ?_) (fun h => ?_))
    · rw [decide_eq_false (by omega), Bool.false_and, Bool.and_false]
      exact Ev.step (fun k => by rw [impl_IsName.j0]) (ev_pos rfl (ev_const rfl))
    · refine ev_pos (by omega) (ev_let _ (isLower_eq _) ?_)
      rw [ec]
      refine Ev.step (fun k => by rw [impl_IsName.j0]) (ev_ite (fun h2 => ?_) (fun h2 => ?_))
      · rw [show lowerB c = false from by simpa using h2, Bool.false_and, Bool.false_and]
        exact ev_const rfl
      · rw [show lowerB c = true from by simpa using h2, Bool.true_and]
        have z := impl_IsName_l0 s (by omega) (s.size - 1) 1 (by omega) (by omega)
        rw [hd] at z
        exact z

/-! #### mIsText -/
def okT (c : Int) : Bool := decide (32 ≤ c) && decide (c ≤ 126)
def mIsText (s : ByteArray) : Bool := (bts s).all okT && decide ((s.size : Int) ≤ 40)

/-! #### spec_IsText -/
theorem spec_IsText_l0 (s : ByteArray) (hs : s.size ≤ 4611686018427387904) : ∀ (n i : Nat), i + n = s.size → Ev (fun k => spec_IsText.l0 k s i) (((bts s).drop i).all okT && decide ((s.size : Int) ≤ 40)) := by
  intro n
  induction n with
  | zero =>
    intro i hi
    refine Ev.step (fun k => by rw [spec_IsText.l0]) ?_
    refine ev_neg (by omega) (ev_const ?_)
    rw [List.drop_eq_nil_of_le (by rw [bts_length]; omega), List.all_nil, Bool.true_and]
  | succ n ih =>
    intro i hi
    have hb := bt_range s i
    have e1 : wrap64 (bt s i) = bt s i := w64 (by omega) (by omega)
    have e2 : wrap64 ((i : Int) + 1) = ((i + 1 : Nat) : Int) := by rw [w64 (by omega) (by omega)]; omega
    refine Ev.step (fun k => by rw [spec_IsText.l0]) ?_
    refine ev_pos (by omega) (ev_pos (by omega) ?_)
    refine ev_let _ (spec_l1In_eq _ _ _) ?_
    rw [e1, e2, drop_cons (z := 0) (by rw [bts_length]; omega), List.all_cons, ← Int.toNat_natCast i, ← bt_eq, Int.toNat_natCast]
    refine ev_ite (fun h => ?_) (fun h => ?_)
    · rw [show okT (bt s i) = true from h, Bool.true_and]
      exact ih (i + 1) (by omega)
    · rw [show okT (bt s i) = false from Bool.eq_false_iff.mpr h]
      exact ev_const rfl
theorem spec_IsText_ev (s : ByteArray) (hs : s.size ≤ 4611686018427387904) : Ev (fun k => spec_IsText.f k s) (mIsText s) := spec_IsText_l0 s hs s.size 0 (by omega)

/-! #### impl_IsText -/
theorem impl_IsText_l0 (s : ByteArray) (hs : s.size ≤ 4611686018427387904) : ∀ (n i : Nat), i + n = s.size → Ev (fun k => impl_IsText.l0 k s i) (((bts s).drop i).all okT && decide ((s.size : Int) ≤ 40)) := by
  intro n
  induction n with
  | zero =>
    intro i hi
    refine Ev.step (fun k => by rw [impl_IsText.l0]) ?_
    refine ev_neg (by omega) (ev_const ?_)
    rw [List.drop_eq_nil_of_le (by rw [bts_length]; omega), List.all_nil, Bool.true_and]
  | succ n ih =>
    intro i hi
    have hb := bt_range s i
    have e2 : wrap64 ((i : Int) + 1) = ((i + 1 : Nat) : Int) := by rw [w64 (by omega) (by omega)]; omega
    refine Ev.step (fun k => by rw [impl_IsText.l0]) ?_
    refine ev_pos (by omega) (ev_pos (by omega) ?_)
    rw [e2, drop_cons (z := 0) (by rw [bts_length]; omega), List.all_cons, ← Int.toNat_natCast i, ← bt_eq, Int.toNat_natCast]
    refine ev_ite (fun h => ?_) (fun h => ev_ite (fun h2 => ?_) (fun h2 => ?_))
    · rw [show okT (bt s i) = false from by simp only [okT, Bool.and_eq_false_iff, decide_eq_false_iff_not]; omega]
      exact ev_const rfl
    · rw [show okT (bt s i) = false from by simp only [okT, Bool.and_eq_false_iff, decide_eq_false_iff_not]; omega]
      exact ev_const rfl
    · rw [show okT (bt s i) = true from by simp only [okT, Bool.and_eq_true, decide_eq_true_eq]; omega, Bool.true_and]
      exact ih (i + 1) (by omega)
theorem impl_IsText_ev (s : ByteArray) (hs : s.size ≤ 4611686018427387904) : Ev (fun k => impl_IsText.f k s) (mIsText s) := impl_IsText_l0 s hs s.size 0 (by omega)

/-! #### IsPath -/
abbrev TS := S73
abbrev ST := S71
def dt : List ByteArray → List ByteArray → Bool
  | _, [] => true
  | pre, x :: suf => !(pre.any fun y => decide (x = y)) && dt (pre ++ [x]) suf
def tOk (x : TS) : Bool := mIsName x.f0 && mIsText x.f1
def tk : List TS → List TS → Bool
  | _, [] => true
  | pre, x :: suf => !(pre.any fun y => decide (y.f0 = x.f0)) && (tOk x && tk (pre ++ [x]) suf)
def fn0 (x : TS) : ByteArray := x.f0
theorem tk_eq : ∀ (suf pre : List TS), tk pre suf = (suf.all tOk && dt (pre.map fn0) (suf.map fn0))
  | [], pre => rfl
  | x :: suf, pre => by
    have e : ((pre.map fn0).any fun y => decide (fn0 x = y)) = pre.any fun y => decide (y.f0 = x.f0) := by
      rw [List.any_map]
      congr 1
      funext y
      show decide (x.f0 = y.f0) = decide (y.f0 = x.f0)
      exact decide_eq_decide.2 eq_comm
    rw [tk, tk_eq suf (pre ++ [x]), List.map_cons, dt, List.all_cons, e, List.map_append, List.map_singleton]
    cases tOk x <;> cases suf.all tOk <;> cases (pre.any fun y => decide (y.f0 = x.f0)) <;> simp
def mStep (s : ST) : Bool := tk [] s.f1 && (mIsName s.f0 && decide (s.f1.length ≤ 3))
def pfin (a : Bool) (b : Int) (n : Nat) : Bool := (decide (0 ≤ b) && decide (b ≤ 8)) && (decide (n ≤ 10) && (if a = true then decide (b = 0) else (decide (b > 0) || decide (n > 0))))
def mPath (a : Bool) (b : Int) (l : List ST) : Bool := l.all mStep && pfin a b l.length
theorem rd_test {l : List TS} {n : Nat} {x : TS} (h : l[n]? = some x) : rd_T73 l (n : Int) = x := by
  unfold rd_T73
  rw [List.getD_eq_getElem?_getD, Int.toNat_natCast, h]; rfl
theorem sp_l2 (i : Int) (a : Bool) (b : Int) (l : List ST) (x : TS) (suf : List TS) (R : Bool) (h0 : x.f0.size ≤ 4611686018427387904) (h1 : x.f1.size ≤ 4611686018427387904) : ∀ (preB preA : List TS) (hb : (preA ++ preB ++ x :: suf).length ≤ 1048576) (HR : Ev (fun k => spec_IsPath.l1 k i (preA ++ preB ++ x :: suf) ((preA ++ preB ++ [x]).length : Int) a b l) R), Ev (fun k => spec_IsPath.l2 k i (preA ++ preB ++ x :: suf) ((preA ++ preB).length : Int) (preA.length : Int) a b l) (!(preB.any fun y => decide (y.f0 = x.f0)) && (tOk x && R))
  | [], preA, hb, HR => by
    rw [List.append_nil] at *
    have hb' := hb
    simp only [List.length_append, List.length_cons] at hb'
    have ex : rd_T73 (preA ++ x :: suf) (preA.length : Int) = x := rd_test (by simp)
    refine Ev.step (fun k => by rw [spec_IsPath.l2]) ?_
    refine ev_neg (by omega) (ev_pos (by omega) (ev_pos (by simp only [List.length_append, List.length_cons]; omega) ?_))
    rw [ex]
    simp only [List.any_nil, Bool.not_false, Bool.true_and, tOk]
    refine ev_bind _ (spec_IsName_ev _ h0) (ev_ite (fun h => ?_) (fun h => ?_))
    · rw [h, Bool.true_and]
      refine ev_bind _ (spec_IsText_ev _ h1) (ev_ite (fun h2 => ?_) (fun h2 => ?_))
      · rw [h2, Bool.true_and, next_pre preA x (by omega)]
        exact HR
      · rw [Bool.eq_false_iff.mpr h2, Bool.false_and]
        exact ev_const rfl
    · rw [Bool.eq_false_iff.mpr h, Bool.false_and, Bool.false_and]
      exact ev_const rfl
  | y :: preB, preA, hb, HR => by
    have hb' := hb
    simp only [List.length_append, List.length_cons] at hb'
    have ey : rd_T73 (preA ++ y :: preB ++ x :: suf) (preA.length : Int) = y := rd_test (by simp)
    have ex : rd_T73 (preA ++ y :: preB ++ x :: suf) ((preA ++ y :: preB).length : Int) = x := rd_test (by simp)
    refine Ev.step (fun k => by rw [spec_IsPath.l2]) ?_
    refine ev_pos (by simp only [List.length_append, List.length_cons]; omega) (ev_pos (by omega) (ev_pos (by simp only [List.length_append, List.length_cons]; omega) (ev_pos (by omega) (ev_pos (by simp only [List.length_append, List.length_cons]; omega) ?_))))
    rw [ey, ex, List.any_cons]
    refine ev_ite (fun h => ?_) (fun h => ?_)
    · rw [decide_eq_true (toList_eq.1 h)]
      exact ev_const rfl
    · rw [decide_eq_false (fun hh => h (toList_eq.2 hh)), Bool.false_or, next_pre preA y (by omega)]
      have e : preA ++ y :: preB = preA ++ [y] ++ preB := by simp
      rw [e] at hb HR ⊢
      exact sp_l2 i a b l x suf R h0 h1 preB (preA ++ [y]) hb HR
theorem sp_l1 (i : Int) (a : Bool) (b : Int) (l : List ST) (R : Bool) : ∀ (suf pre : List TS) (hb : (pre ++ suf).length ≤ 1048576) (hm : mu73 suf ≤ 1048576) (HR : Ev (fun k => spec_IsPath.l1 k i (pre ++ suf) ((pre ++ suf).length : Int) a b l) R), Ev (fun k => spec_IsPath.l1 k i (pre ++ suf) (pre.length : Int) a b l) (tk pre suf && R)
  | [], pre, hb, hm, HR => by
    rw [List.append_nil] at *
    rw [tk, Bool.true_and]
    exact HR
  | x :: suf, pre, hb, hm, HR => by
    have hb' := hb
    simp only [List.length_append, List.length_cons] at hb'
    simp only [mu73, ms73] at hm
    have e : pre ++ x :: suf = pre ++ [x] ++ suf := by simp
    have z : Ev (fun k => spec_IsPath.l1 k i (pre ++ x :: suf) ((pre ++ [x]).length : Int) a b l) (tk (pre ++ [x]) suf && R) := by
      rw [e] at hb HR ⊢
      exact sp_l1 i a b l R suf (pre ++ [x]) hb (by omega) HR
    refine Ev.step (fun k => by rw [spec_IsPath.l1]) ?_
    refine ev_pos (by simp only [List.length_append, List.length_cons]; omega) ?_
    have z2 := sp_l2 i a b l x suf _ (by omega) (by omega) pre [] (by simpa using hb) (by simpa using z)
    rw [tk, Bool.and_assoc, Bool.and_assoc]
    simpa using z2
theorem sp_l0 (a : Bool) (b : Int) : ∀ (suf pre : List ST) (hb : (pre ++ suf).length ≤ 1048576) (hm : mu71 suf ≤ 1048576), Ev (fun k => spec_IsPath.l0 k (pre.length : Int) a b (pre ++ suf)) (suf.all mStep && pfin a b (pre ++ suf).length)
  | [], pre, hb, hm => by
    rw [List.append_nil] at *
    refine Ev.step (fun k => by rw [spec_IsPath.l0]) ?_
    refine ev_neg (by omega) (ev_let _ (spec_l1In_eq _ _ _) ?_)
    rw [List.all_nil, Bool.true_and]
    unfold pfin
    refine ev_ite (fun h => ?_) (fun h => ?_)
    · rw [h, Bool.true_and]
      refine ev_ite (fun h2 => ?_) (fun h2 => ?_)
      · rw [decide_eq_true (show pre.length ≤ 10 by omega), Bool.true_and]
        refine ev_ite (fun h3 => ?_) (fun h3 => ?_)
        · rw [if_pos h3]
          refine ev_ite (fun h4 => ?_) (fun h4 => ?_)
          · rw [decide_eq_true h4]; exact ev_const rfl
          · rw [decide_eq_false h4]; exact ev_const rfl
        · rw [if_neg h3]
          refine ev_ite (fun h4 => ?_) (fun h4 => ?_)
          · rw [decide_eq_true h4]; exact ev_const rfl
          · rw [decide_eq_false h4, Bool.false_or]; exact ev_const (by simp)
      · rw [decide_eq_false (show ¬ pre.length ≤ 10 by omega)]; exact ev_const rfl
    · rw [Bool.eq_false_iff.mpr h]; exact ev_const rfl
  | s :: suf, pre, hb, hm => by
    have ex : rd_T71 (pre ++ s :: suf) (pre.length : Int) = s := by unfold rd_T71; exact at_pre pre suf s _
    have hb' := hb
    simp only [List.length_append, List.length_cons] at hb'
    simp only [mu71, ms71] at hm
    have z := sp_l0 a b suf (pre ++ [s]) (by simpa using hb) (by omega)
    rw [List.append_assoc, List.singleton_append] at z
    refine Ev.step (fun k => by rw [spec_IsPath.l0]) ?_
    refine ev_pos (by simp only [List.length_append, List.length_cons]; omega) (ev_pos (by omega) ?_)
    rw [ex]
    have HR : Ev (fun k => spec_IsPath.l1 k (pre.length : Int) s.f1 (s.f1.length : Int) a b (pre ++ s :: suf)) ((mIsName s.f0 && decide (s.f1.length ≤ 3)) && (suf.all mStep && pfin a b (pre ++ s :: suf).length)) := by
      refine Ev.step (fun k => by rw [spec_IsPath.l1]) ?_
      refine ev_neg (by omega) (ev_pos (by omega) (ev_pos (by simp only [List.length_append, List.length_cons]; omega) ?_))
      rw [ex]
      refine ev_bind _ (spec_IsName_ev _ (by omega)) (ev_ite (fun h => ?_) (fun h => ?_))
      · rw [h, Bool.true_and]
        refine ev_ite (fun h2 => ?_) (fun h2 => ?_)
        · rw [decide_eq_false (by omega)]; exact ev_const rfl
        · rw [decide_eq_true (by omega), Bool.true_and, next_pre pre s (by omega)]
          exact z
      · rw [Bool.eq_false_iff.mpr h]; exact ev_const rfl
    have z2 := sp_l1 (pre.length : Int) a b (pre ++ s :: suf) _ s.f1 [] (by rw [List.nil_append]; omega) (by omega) (by rw [List.nil_append]; exact HR)
    rw [List.all_cons, mStep]
    simpa [Bool.and_assoc] using z2
theorem spec_IsPath_ev (a : Bool) (b : Int) (l : List ST) (hm : l.length + mu71 l ≤ 1048576) : Ev (fun k => spec_IsPath.f k a b l) (mPath a b l) := sp_l0 a b l [] (by rw [List.nil_append]; omega) (by omega)
/-! the program's -/
theorem rd_str {l : List ByteArray} {n : Nat} {x : ByteArray} (h : l[n]? = some x) : rdOf ByteArray.empty l (n : Int) = x := by
  unfold rdOf
  rw [List.getD_eq_getElem?_getD, Int.toNat_natCast, h]; rfl
theorem index_l0 (x : ByteArray) : ∀ (suf pre : List ByteArray) (hb : (pre ++ suf).length ≤ 1048576), ∃ r, Ev (fun k => slices_Index_string_string.l0 k (pre ++ suf) x ((pre ++ suf).length : Int) (pre.length : Int)) r ∧ decide (r ≥ 0) = suf.any fun y => decide (x = y)
  | [], pre, hb => by
    refine ⟨-1, Ev.step (fun k => by rw [slices_Index_string_string.l0]) ?_, rfl⟩
    exact ev_neg (by simp) (ev_const rfl)
  | y :: suf, pre, hb => by
    have ey : rdOf ByteArray.empty (pre ++ y :: suf) (pre.length : Int) = y := rd_str (by simp)
    have hb' := hb
    simp only [List.length_append, List.length_cons] at hb'
    by_cases h : x = y
    · refine ⟨(pre.length : Int), Ev.step (fun k => by rw [slices_Index_string_string.l0]) ?_, ?_⟩
      · refine ev_pos (by simp only [List.length_append, List.length_cons]; omega) (ev_pos (by omega) (ev_pos (by simp only [List.length_append, List.length_cons]; omega) ?_))
        rw [ey]
        exact ev_pos (toList_eq.2 h) (ev_const rfl)
      · rw [List.any_cons, decide_eq_true h, Bool.true_or, decide_eq_true (by omega)]
    · obtain ⟨r, z, hr⟩ := index_l0 x suf (pre ++ [y]) (by simpa using hb)
      rw [List.append_assoc, List.singleton_append] at z
      refine ⟨r, Ev.step (fun k => by rw [slices_Index_string_string.l0]) ?_, ?_⟩
      · refine ev_pos (by simp only [List.length_append, List.length_cons]; omega) (ev_pos (by omega) (ev_pos (by simp only [List.length_append, List.length_cons]; omega) ?_))
        rw [ey, next_pre pre y (by omega)]
        exact ev_neg (fun hh => h (toList_eq.1 hh)) z
      · rw [List.any_cons, decide_eq_false h, Bool.false_or, hr]
theorem contains_ev (l : List ByteArray) (x : ByteArray) (hb : l.length ≤ 1048576) : Ev (fun k => slices_Contains_string_string.f k l x) (l.any fun y => decide (x = y)) := by
  simp only [slices_Contains_string_string.f, slices_Index_string_string.f]
  obtain ⟨r, z, hr⟩ := index_l0 x l [] (by simpa using hb)
  refine ev_bind r z (ev_const ?_)
  rw [hr]
theorem diff_l0 : ∀ (suf pre : List ByteArray) (hb : (pre ++ suf).length ≤ 1048576), Ev (fun k => impl_differentTexts.l0 k (pre ++ suf) ((pre ++ suf).length : Int) (pre.length : Int)) (dt pre suf)
  | [], pre, hb => by
    refine Ev.step (fun k => by rw [impl_differentTexts.l0]) ?_
    exact ev_neg (by simp) (ev_const rfl)
  | x :: suf, pre, hb => by
    have ex : rdOf ByteArray.empty (pre ++ x :: suf) (pre.length : Int) = x := rd_str (by simp)
    have et : (pre ++ x :: suf).take ((pre.length : Int)).toNat = pre := by simp
    have hb' := hb
    simp only [List.length_append, List.length_cons] at hb'
    refine Ev.step (fun k => by rw [impl_differentTexts.l0]) ?_
    refine ev_pos (by simp only [List.length_append, List.length_cons]; omega) (ev_pos (by omega) (ev_pos (by simp only [List.length_append, List.length_cons]; omega) (ev_pos (by simp only [List.length_append, List.length_cons]; omega) ?_)))
    rw [ex, et]
    refine ev_bind _ (contains_ev pre x (by omega)) ?_
    rw [dt]
    refine ev_ite (fun h => ?_) (fun h => ?_)
    · rw [h]; exact ev_const rfl
    · rw [Bool.eq_false_iff.mpr h, Bool.not_false, Bool.true_and, next_pre pre x (by omega)]
      have z := diff_l0 suf (pre ++ [x]) (by simpa using hb)
      rw [List.append_assoc, List.singleton_append] at z
      exact z
theorem isStep_l0 (n : ByteArray) (w : List TS) (hw : w.length ≤ 1048576) (hn : n.size ≤ 4611686018427387904) : ∀ (suf pre : List TS) (hb : (pre ++ suf).length ≤ 1048576) (hm : mu73 suf ≤ 1048576), Ev (fun k => impl_isStep.l0 k (pre.map fn0) (pre ++ suf) ((pre ++ suf).length : Int) (pre.length : Int) n w) (suf.all tOk && ((mIsName n && decide (w.length ≤ 3)) && dt [] ((pre ++ suf).map fn0)))
  | [], pre, hb, hm => by
    refine Ev.step (fun k => by rw [impl_isStep.l0]) ?_
    rw [List.append_nil] at *
    refine ev_neg (by omega) ?_
    rw [List.all_nil, Bool.true_and]
    refine ev_bind _ (impl_IsName_ev _ hn) (ev_ite (fun h => ?_) (fun h => ?_))
    · rw [h, Bool.true_and]
      refine ev_ite (fun h2 => ?_) (fun h2 => ?_)
      · rw [decide_eq_true (by omega), Bool.true_and]
        refine ev_bind (dt [] (pre.map fn0)) ?_ (ev_const rfl)
        simp only [impl_differentTexts.f]
        exact diff_l0 (pre.map fn0) [] (by rw [List.nil_append, List.length_map]; omega)
      · rw [decide_eq_false (by omega)]; exact ev_const rfl
    · rw [Bool.eq_false_iff.mpr h]; exact ev_const rfl
  | x :: suf, pre, hb, hm => by
    have ex : rd_T73 (pre ++ x :: suf) (pre.length : Int) = x := rd_test (by simp)
    have hb' := hb
    simp only [List.length_append, List.length_cons] at hb'
    simp only [mu73, ms73] at hm
    refine Ev.step (fun k => by rw [impl_isStep.l0]) ?_
    refine ev_pos (by simp only [List.length_append, List.length_cons]; omega) (ev_pos (by omega) (ev_pos (by simp only [List.length_append, List.length_cons]; omega) ?_))
    rw [ex, List.all_cons, tOk]
    refine ev_bind _ (impl_IsName_ev _ (by omega)) (ev_ite (fun h => ?_) (fun h => ?_))
    · rw [h, Bool.true_and]
      refine ev_bind _ (impl_IsText_ev _ (by omega)) (ev_ite (fun h2 => ?_) (fun h2 => ?_))
      · rw [h2, Bool.true_and, next_pre pre x (by omega)]
        refine ev_pos (by rw [List.length_map]; omega) ?_
        have z := isStep_l0 n w hw hn suf (pre ++ [x]) (by simpa using hb) (by omega)
        rw [List.append_assoc, List.singleton_append, List.map_append] at z
        exact z
      · rw [Bool.eq_false_iff.mpr h2]; exact ev_const rfl
    · rw [Bool.eq_false_iff.mpr h]; exact ev_const rfl
theorem isStep_ev (s : ST) (hm : ms71 s ≤ 1048576) : Ev (fun k => impl_isStep.f k s.f0 s.f1) (mStep s) := by
  simp only [ms71] at hm
  have z := isStep_l0 s.f0 s.f1 (by omega) (by omega) s.f1 [] (by rw [List.nil_append]; omega) (by omega)
  have e : mStep s = (s.f1.all tOk && ((mIsName s.f0 && decide (s.f1.length ≤ 3)) && dt [] (([] ++ s.f1).map fn0))) := by
    rw [mStep, tk_eq, List.nil_append, List.map_nil]
    cases s.f1.all tOk <;> cases dt [] (s.f1.map fn0) <;> simp
  rw [e]
  exact z
theorem ip_l0 (a : Bool) (b : Int) (w : List ST) : ∀ (suf pre : List ST) (hb : (pre ++ suf).length ≤ 1048576) (hm : mu71 suf ≤ 1048576), Ev (fun k => impl_IsPath.l0 k (pre ++ suf) ((pre ++ suf).length : Int) (pre.length : Int) a b w) (suf.all mStep && pfin a b w.length)
  | [], pre, hb, hm => by
    refine Ev.step (fun k => by rw [impl_IsPath.l0]) ?_
    refine ev_neg (by simp) ?_
    rw [List.all_nil, Bool.true_and]
    unfold pfin
    refine ev_ite (fun h => ?_) (fun h => ?_)
    · rw [decide_eq_true (show 0 ≤ b by omega), Bool.true_and]
      refine ev_ite (fun h1 => ?_) (fun h1 => ?_)
      · rw [decide_eq_true h1, Bool.true_and]
        refine ev_ite (fun h3 => ?_) (fun h3 => ?_)
        · rw [if_pos h3]
          refine ev_ite (fun h4 => ?_) (fun h4 => ?_)
          · rw [decide_eq_true h4, Bool.and_true]
            refine ev_ite (fun h2 => ?_) (fun h2 => ?_)
            · rw [decide_eq_true (show w.length ≤ 10 by omega)]; exact ev_const rfl
            · rw [decide_eq_false (show ¬ w.length ≤ 10 by omega)]; exact ev_const rfl
          · rw [decide_eq_false h4, Bool.and_false]; exact ev_const rfl
        · rw [if_neg h3]
          refine ev_ite (fun h2 => ?_) (fun h2 => ?_)
          · rw [decide_eq_true (show w.length ≤ 10 by omega), Bool.true_and]
            refine ev_ite (fun h4 => ?_) (fun h4 => ?_)
            · rw [decide_eq_true h4]; exact ev_const rfl
            · rw [decide_eq_false h4, Bool.false_or]; exact ev_const (by simp)
          · rw [decide_eq_false (show ¬ w.length ≤ 10 by omega)]; exact ev_const rfl
      · rw [decide_eq_false h1]; exact ev_const rfl
    · rw [decide_eq_false (show ¬ 0 ≤ b by omega)]; exact ev_const rfl
  | s :: suf, pre, hb, hm => by
    have ex : rd_T71 (pre ++ s :: suf) (pre.length : Int) = s := by unfold rd_T71; exact at_pre pre suf s _
    have hb' := hb
    simp only [List.length_append, List.length_cons] at hb'
    rw [mu71] at hm
    refine Ev.step (fun k => by rw [impl_IsPath.l0]) ?_
    refine ev_pos (by simp only [List.length_append, List.length_cons]; omega) (ev_pos (by omega) (ev_pos (by simp only [List.length_append, List.length_cons]; omega) ?_))
    rw [ex, List.all_cons]
    refine ev_bind _ (isStep_ev s (by omega)) (ev_ite (fun h => ?_) (fun h => ?_))
    · rw [h, Bool.true_and, next_pre pre s (by omega)]
      have z := ip_l0 a b w suf (pre ++ [s]) (by simpa using hb) (by omega)
      rw [List.append_assoc, List.singleton_append] at z
      exact z
    · rw [Bool.eq_false_iff.mpr h]; exact ev_const rfl
theorem impl_IsPath_ev (a : Bool) (b : Int) (l : List ST) (hm : l.length + mu71 l ≤ 1048576) : Ev (fun k => impl_IsPath.f k a b l) (mPath a b l) := ip_l0 a b l l [] (by rw [List.nil_append]; omega) (by omega)

/-! #### IsExpr -/
abbrev EX := S54
/-! depth -/
mutual
theorem depth_ev : ∀ (e : EX) (hm : ms54 e ≤ 1048576), ∃ d : Int, Ev (fun k => spec_l8Depth.f k e.f0 e.f1 e.f2 e.f3.f0 e.f3.f1 e.f3.f2 e.f4) d ∧ Ev (fun k => impl_exprDepth.f k e.f0 e.f1 e.f2 e.f3.f0 e.f3.f1 e.f3.f2 e.f4) d
  | ⟨a0, a1, a2, ⟨p0, p1, p2⟩, a4⟩, hm => by
    rw [ms54] at hm
    obtain ⟨d, z1, z2⟩ := depthL_ev a0 a1 a2 p0 p1 p2 a4 [] 0 (by rw [List.nil_append]; omega) (by omega)
    refine ⟨d, ?_, ?_⟩
    · show Ev (fun k => spec_l8Depth.f k a0 a1 a2 p0 p1 p2 a4) d
      refine Ev.step (fun k => by rw [spec_l8Depth.f]) ?_
      exact z1
    · show Ev (fun k => impl_exprDepth.f k a0 a1 a2 p0 p1 p2 a4) d
      refine Ev.step (fun k => by rw [impl_exprDepth.f]) ?_
      exact z2
theorem depthL_ev (a0 a1 : Int) (a2 : ByteArray) (p0 : Bool) (p1 : Int) (p2 : List ST) : ∀ (suf pre : List EX) (n : Int) (hb : (pre ++ suf).length ≤ 1048576) (hm : mu54 suf ≤ 1048576), ∃ d : Int, Ev (fun k => spec_l8Depth.l0 k n (pre.length : Int) a0 a1 a2 p0 p1 p2 (pre ++ suf)) d ∧ Ev (fun k => impl_exprDepth.l0 k n (pre ++ suf) ((pre ++ suf).length : Int) (pre.length : Int)) d
  | [], pre, n, hb, hm => by
    refine ⟨wrap64 (n + 1), Ev.step (fun k => by rw [spec_l8Depth.l0]) ?_, Ev.step (fun k => by rw [impl_exprDepth.l0]) ?_⟩
    · exact ev_neg (by simp) (ev_const rfl)
    · exact ev_neg (by simp) (ev_const rfl)
  | x :: suf, pre, n, hb, hm => by
    have ex : rd_T54 (pre ++ x :: suf) (pre.length : Int) = x := by unfold rd_T54; exact at_pre pre suf x _
    have hb' := hb
    simp only [List.length_append, List.length_cons] at hb'
    rw [mu54] at hm
    obtain ⟨d, w1, w2⟩ := depth_ev x (by omega)
    obtain ⟨r, z1, z2⟩ := depthL_ev a0 a1 a2 p0 p1 p2 suf (pre ++ [x]) (mx n d) (by simpa using hb) (by omega)
    rw [List.append_assoc, List.singleton_append] at z1 z2
    have em : spec_Max.f n d = some (mx n d) := by
      unfold spec_Max.f mx
      by_cases h : n < d
      · rw [if_pos h, if_pos h]
      · rw [if_neg h, if_neg h]
    refine ⟨r, Ev.step (fun k => by rw [spec_l8Depth.l0]) ?_, Ev.step (fun k => by rw [impl_exprDepth.l0]) ?_⟩
    · refine ev_pos (by simp only [List.length_append, List.length_cons]; omega) (ev_pos (by omega) ?_)
      rw [ex, next_pre pre x (by omega)]
      exact ev_bind d w1 (ev_let _ em z1)
    · refine ev_pos (by simp only [List.length_append, List.length_cons]; omega) (ev_pos (by omega) (ev_pos (by simp only [List.length_append, List.length_cons]; omega) ?_))
      rw [ex, next_pre pre x (by omega)]
      exact ev_bind d w2 z2
end
/-! what is valid -/
def em (t : ByteArray) : Bool := t.toList == ([] : List UInt8)
def plainP (p0 : Bool) (p1 : Int) (p2 : List ST) : Bool := if p0 = true then false else if p1 = 0 then ((p2.length : Int) == 0) else false
def name0 (p2 : List ST) : ByteArray := (rd_T71 p2 0).f0
def writ (p0 : Bool) (p1 : Int) (p2 : List ST) : Bool :=
  if p0 = true then (decide (p1 > 0) || decide ((p2.length : Int) > 0)) else if p1 > 0 then true else (!((name0 p2).toList == ([111, 114] : List UInt8)) && !((name0 p2).toList == ([97, 110, 100] : List UInt8)))
theorem l8Plain_eq (p0 : Bool) (p1 : Int) (p2 : List ST) : spec_l8Plain.f p0 p1 p2 = some (plainP p0 p1 p2) := by
  unfold spec_l8Plain.f plainP
  by_cases h : p0 = true
  · rw [if_pos h, if_pos h]
  · rw [if_neg h, if_neg h]
    by_cases h1 : p1 = 0
    · rw [if_pos h1, if_pos h1]
    · rw [if_neg h1, if_neg h1]
theorem isZero_eq (p0 : Bool) (p1 : Int) (p2 : List ST) : impl_isZeroPath.f p0 p1 p2 = some (plainP p0 p1 p2) := by
  unfold impl_isZeroPath.f plainP
  by_cases h : p0 = true
  · rw [if_pos h, if_pos h]
  · rw [if_neg h, if_neg h]
    by_cases h1 : p1 = 0
    · rw [if_pos h1, if_pos h1]
    · rw [if_neg h1, if_neg h1]
theorem writ_eq (p0 : Bool) (p1 : Int) (p2 : List ST) (h : mPath p0 p1 p2 = true) : spec_l8Writable.f p0 p1 p2 = some (writ p0 p1 p2) := by
  obtain ⟨_, h2⟩ := Bool.and_eq_true_iff.1 h
  unfold pfin at h2
  unfold spec_l8Writable.f writ
  by_cases hp : p0 = true
  · rw [if_pos hp, if_pos hp]
    by_cases h1 : p1 > 0
    · rw [if_pos h1, decide_eq_true h1, Bool.true_or]
    · rw [if_neg h1, decide_eq_false h1, Bool.false_or]
  · rw [if_neg hp, if_neg hp]
    by_cases h1 : p1 > 0
    · rw [if_pos h1, if_pos h1]
    · rw [if_neg h1, if_neg h1]
      have hl : 0 < p2.length := by
        rw [if_neg hp] at h2
        simp only [Bool.and_eq_true, decide_eq_true_eq, Bool.or_eq_true] at h2
        omega
      rw [if_pos (by omega)]
      unfold name0
      by_cases h3 : (rd_T71 p2 0).f0.toList = ([111, 114] : List UInt8)
      · rw [if_pos h3, beq_iff_eq.2 h3]; rfl
      · rw [if_neg h3, beq_eq_false_iff_ne.2 h3]; rfl
def wr (op : Int) (p0 : Bool) (p1 : Int) (p2 : List ST) : Bool := if op = 3 then writ p0 p1 p2 else true
def base (op n : Int) (t : ByteArray) (p0 : Bool) (p1 : Int) (p2 : List ST) (m : Nat) : Bool :=
  if op = 1 then ((decide (0 ≤ n) && decide (n ≤ 1000000000)) && em t) && (decide ((m : Int) = 0) && plainP p0 p1 p2)
  else if op = 2 then (mIsText t && (n == 0)) && (decide ((m : Int) = 0) && plainP p0 p1 p2)
  else if op = 3 then (mPath p0 p1 p2 && ((n == 0) && em t)) && (decide ((m : Int) = 0) && writ p0 p1 p2)
  else if op = 4 then (mPath p0 p1 p2 && ((n == 0) && em t)) && decide ((m : Int) = 0)
  else if op = 5 then ((n == 0) && em t) && (decide ((m : Int) = 1) && plainP p0 p1 p2)
  else (decide (5 ≤ op) && decide (op ≤ 15)) && (((n == 0) && em t) && (decide ((m : Int) = 2) && plainP p0 p1 p2))
mutual
def vE : EX → Bool
  | ⟨op, n, t, p, ks⟩ => base op n t p.f0 p.f1 p.f2 ks.length && vL ks
def vL : List EX → Bool
  | [] => true
  | x :: l => vE x && vL l
end
/-- The reference's last part. -/
theorem j1_ev (op n : Int) (t : ByteArray) (p0 : Bool) (p1 : Int) (p2 : List ST) (ks : List EX) (x3 : Int) (x4 x5 : Bool) (R : Bool) (H : x5 = true → (ks.length : Int) = x3 → Ev (fun k => spec_l8Valid.l0 k x3 0 op n t p0 p1 p2 ks) R) : Ev (fun k => spec_l8Valid.j1 k x3 x4 x5 op n t p0 p1 p2 ks) (x5 && (decide ((ks.length : Int) = x3) && ((x4 || plainP p0 p1 p2) && R))) := by
  refine Ev.step (fun k => by rw [spec_l8Valid.j1]) ?_
  refine ev_ite (fun h5 => ?_) (fun h5 => ?_)
  · rw [h5, Bool.true_and]
    refine ev_ite (fun hl => ?_) (fun hl => ?_)
    · rw [decide_eq_true hl, Bool.true_and]
      refine ev_ite (fun h4 => ?_) (fun h4 => ?_)
      · rw [h4, Bool.true_or, Bool.true_and]
        refine Ev.step (fun k => by rw [spec_l8Valid.j2]) ?_
        exact ev_neg (by simp) (H h5 hl)
      · rw [Bool.eq_false_iff.mpr h4, Bool.false_or]
        refine ev_let _ (l8Plain_eq _ _ _) ?_
        refine Ev.step (fun k => by rw [spec_l8Valid.j2]) ?_
        cases plainP p0 p1 p2
        · exact ev_pos rfl (ev_const rfl)
        · exact ev_neg (by simp) (H h5 hl)
    · rw [decide_eq_false hl]
      refine Ev.step (fun k => by rw [spec_l8Valid.j2]) ?_
      exact ev_pos rfl (ev_const rfl)
  · rw [Bool.eq_false_iff.mpr h5]
    refine Ev.step (fun k => by rw [spec_l8Valid.j2]) ?_
    exact ev_pos rfl (ev_const rfl)
mutual
theorem valid_ev : ∀ (e : EX) (hm : ms54 e ≤ 1048576), Ev (fun k => spec_l8Valid.f k e.f0 e.f1 e.f2 e.f3.f0 e.f3.f1 e.f3.f2 e.f4) (vE e)
  | ⟨op, n, t, ⟨p0, p1, p2⟩, ks⟩, hm => by
    rw [ms54] at hm
    simp only [ms29] at hm
    show Ev (fun k => spec_l8Valid.f k op n t p0 p1 p2 ks) _
    have HL : (op = 3 → mPath p0 p1 p2 = true) → Ev (fun k => spec_l8Valid.l0 k (ks.length : Int) 0 op n t p0 p1 p2 ks) (vL ks && wr op p0 p1 p2) := fun hw => validL_ev op n t p0 p1 p2 hw ks [] (by rw [List.nil_append]; omega) (by omega)
    have v0 : (ks.length : Int) = 0 → vL ks = true := by intro h; cases ks with | nil => rfl | cons _ _ => simp at h; omega
    have J : ∀ (x3 : Int) (x4 x5 : Bool), (x5 = true → op = 3 → mPath p0 p1 p2 = true) → Ev (fun k => spec_l8Valid.j1 k x3 x4 x5 op n t p0 p1 p2 ks) (x5 && (decide ((ks.length : Int) = x3) && ((x4 || plainP p0 p1 p2) && (vL ks && wr op p0 p1 p2)))) := fun x3 x4 x5 hw => j1_ev op n t p0 p1 p2 ks x3 x4 x5 _ (fun h5 hl => by rw [← hl]; exact HL (hw h5))
    refine Ev.step (fun k => by rw [spec_l8Valid.f]) ?_
    rw [vE, base]
    by_cases h1 : op = 1
    · have w1 : wr op p0 p1 p2 = true := by rw [wr, if_neg (by omega)]
      refine ev_pos h1 (ev_let _ (spec_l1In_eq _ _ _) ?_)
      rw [if_pos h1]
      have e : ∀ b : Bool, ((b && em t) && (decide ((ks.length : Int) = 0) && plainP p0 p1 p2) && vL ks) = ((b && em t) && (decide ((ks.length : Int) = 0) && ((false || plainP p0 p1 p2) && (vL ks && wr op p0 p1 p2)))) := by intro b; rw [w1]; cases b <;> cases em t <;> cases plainP p0 p1 p2 <;> cases vL ks <;> simp
      refine ev_ite (fun h => ?_) (fun h => ?_)
      · rw [e, h, Bool.true_and]; exact J 0 false (em t) (fun _ h3 => by omega)
      · rw [e, Bool.eq_false_iff.mpr h, Bool.false_and]; exact J 0 false false (fun h => by cases h)
    rw [if_neg h1]
    refine ev_neg h1 ?_
    by_cases h2 : op = 2
    · have w1 : wr op p0 p1 p2 = true := by rw [wr, if_neg (by omega)]
      refine ev_pos h2 (ev_bind _ (spec_IsText_ev t (by omega)) ?_)
      rw [if_pos h2]
      have e : ∀ b : Bool, ((b && (n == 0)) && (decide ((ks.length : Int) = 0) && plainP p0 p1 p2) && vL ks) = ((b && (n == 0)) && (decide ((ks.length : Int) = 0) && ((false || plainP p0 p1 p2) && (vL ks && wr op p0 p1 p2)))) := by intro b; rw [w1]; cases b <;> cases (n == 0) <;> cases plainP p0 p1 p2 <;> cases vL ks <;> simp
      refine ev_ite (fun h => ?_) (fun h => ?_)
      · rw [e, h, Bool.true_and]; exact J 0 false (n == 0) (fun _ h3 => by omega)
      · rw [e, Bool.eq_false_iff.mpr h, Bool.false_and]; exact J 0 false false (fun h => by cases h)
    rw [if_neg h2]
    refine ev_neg h2 ?_
    have J0 : ∀ (hop : op = 3 ∨ op = 4), Ev (fun k => spec_l8Valid.j0 k 0 false true op n t p0 p1 p2 ks) ((mPath p0 p1 p2 && ((n == 0) && em t)) && (decide ((ks.length : Int) = 0) && (vL ks && wr op p0 p1 p2))) := by
      intro hop
      refine Ev.step (fun k => by rw [spec_l8Valid.j0]) ?_
      refine ev_pos rfl (ev_bind _ (spec_IsPath_ev p0 p1 p2 (by omega)) ?_)
      refine ev_ite (fun h => ?_) (fun h => ?_)
      · rw [h, Bool.true_and]
        refine ev_ite (fun hn => ?_) (fun hn => ?_)
        · rw [beq_iff_eq.2 hn, Bool.true_and]; exact J 0 true (em t) (fun _ _ => h)
        · rw [beq_eq_false_iff_ne.2 hn, Bool.false_and]; exact J 0 true false (fun h => by cases h)
      · rw [Bool.eq_false_iff.mpr h, Bool.false_and]; exact J 0 true false (fun h => by cases h)
    by_cases h3 : op = 3
    · have w1 : wr op p0 p1 p2 = writ p0 p1 p2 := by rw [wr, if_pos h3]
      have z := J0 (.inl h3)
      rw [w1] at z
      refine ev_pos h3 ?_
      rw [if_pos h3]
      have e : ((mPath p0 p1 p2 && ((n == 0) && em t)) && (decide ((ks.length : Int) = 0) && writ p0 p1 p2) && vL ks) = ((mPath p0 p1 p2 && ((n == 0) && em t)) && (decide ((ks.length : Int) = 0) && (vL ks && writ p0 p1 p2))) := by
        rw [Bool.and_assoc, Bool.and_assoc (decide _), Bool.and_comm (vL ks)]
      rw [e]
      exact z
    rw [if_neg h3]
    refine ev_neg h3 ?_
    have w1 : wr op p0 p1 p2 = true := by rw [wr, if_neg h3]
    by_cases h4 : op = 4
    · have z := J0 (.inr h4)
      rw [w1, Bool.and_true] at z
      rw [if_pos h4, Bool.and_assoc, beq_iff_eq.2 h4]
      exact z
    rw [if_neg h4, beq_eq_false_iff_ne.2 h4]
    refine Ev.step (fun k => by rw [spec_l8Valid.j0]) ?_
    refine ev_neg (by simp) (ev_let _ (spec_l1In_eq _ _ _) ?_)
    have K : ∀ x3 : Int, Ev (fun k => if n = 0 then spec_l8Valid.j1 k x3 false (t.toList == ([] : List UInt8)) op n t p0 p1 p2 ks else spec_l8Valid.j1 k x3 false false op n t p0 p1 p2 ks) (((n == 0) && em t) && (decide ((ks.length : Int) = x3) && plainP p0 p1 p2) && vL ks) := by
      intro x3
      have e : ∀ b : Bool, (b && (decide ((ks.length : Int) = x3) && plainP p0 p1 p2) && vL ks) = (b && (decide ((ks.length : Int) = x3) && ((false || plainP p0 p1 p2) && (vL ks && wr op p0 p1 p2)))) := by intro b; rw [w1, Bool.and_true, Bool.false_or, Bool.and_assoc, Bool.and_assoc]
      rw [e]
      refine ev_ite (fun hn => ?_) (fun hn => ?_)
      · rw [beq_iff_eq.2 hn, Bool.true_and]; exact J x3 false (em t) (fun _ h => absurd h h3)
      · rw [beq_eq_false_iff_ne.2 hn, Bool.false_and]; exact J x3 false false (fun h => by cases h)
    refine ev_ite (fun h => ?_) (fun h => ?_)
    · by_cases h5 : op = 5
      · rw [if_pos h5]; exact ev_pos h5 (K 1)
      · rw [if_neg h5, h, Bool.true_and]; exact ev_neg h5 (K 2)
    · have h' := Bool.eq_false_iff.mpr h
      have h5 : ¬ op = 5 := by intro h5; rw [h5] at h; exact h (by decide)
      rw [if_neg h5, h']; exact ev_const rfl
theorem validL_ev (op n : Int) (t : ByteArray) (p0 : Bool) (p1 : Int) (p2 : List ST) (hw : op = 3 → mPath p0 p1 p2 = true) : ∀ (suf pre : List EX) (hb : (pre ++ suf).length ≤ 1048576) (hm : mu54 suf ≤ 1048576), Ev (fun k => spec_l8Valid.l0 k ((pre ++ suf).length : Int) (pre.length : Int) op n t p0 p1 p2 (pre ++ suf)) (vL suf && wr op p0 p1 p2)
  | [], pre, hb, hm => by
    refine Ev.step (fun k => by rw [spec_l8Valid.l0]) ?_
    refine ev_neg (by simp) ?_
    rw [vL, Bool.true_and, wr]
    refine ev_ite (fun h => ?_) (fun h => ?_)
    · rw [if_pos h]; exact ev_let _ (writ_eq _ _ _ (hw h)) (ev_const rfl)
    · rw [if_neg h]; exact ev_const rfl
  | x :: suf, pre, hb, hm => by
    have ex : rd_T54 (pre ++ x :: suf) (pre.length : Int) = x := by unfold rd_T54; exact at_pre pre suf x _
    have hb' := hb
    simp only [List.length_append, List.length_cons] at hb'
    rw [mu54] at hm
    have w := valid_ev x (by omega)
    have z := validL_ev op n t p0 p1 p2 hw suf (pre ++ [x]) (by simpa using hb) (by omega)
    rw [List.append_assoc, List.singleton_append] at z
    refine Ev.step (fun k => by rw [spec_l8Valid.l0]) ?_
    refine ev_pos (by simp only [List.length_append, List.length_cons]; omega) (ev_pos (by omega) (ev_pos (by simp only [List.length_append, List.length_cons]; omega) ?_))
    rw [ex, next_pre pre x (by omega), vL]
    refine ev_bind _ w (ev_ite (fun h => ?_) (fun h => ?_))
    · rw [h, Bool.true_and]; exact z
    · rw [Bool.eq_false_iff.mpr h]; exact ev_const rfl
end
/-! the program's -/
/-- What is wrong with a node before its own kind is looked at. -/
def bad (op n : Int) (t : ByteArray) (p0 : Bool) (p1 : Int) (p2 : List ST) (m : Nat) (x3 : Int) : Bool :=
  (decide (op < 1) || decide (op > 15)) || (!decide ((m : Int) = x3) || ((decide (op ≠ 1) && !(n == 0)) || ((decide (op ≠ 2) && !em t) || (decide (op ≠ 3) && (decide (op ≠ 4) && !plainP p0 p1 p2)))))
theorem ij1_ev (op n : Int) (t : ByteArray) (p0 : Bool) (p1 : Int) (p2 : List ST) (ks : List EX) (x3 : Int) (R : Bool) (H : Ev (fun k => impl_isExprNode.j2 k (bad op n t p0 p1 p2 ks.length x3) op n t p0 p1 p2 ks) R) : Ev (fun k => impl_isExprNode.j1 k x3 op n t p0 p1 p2 ks) R := by
  refine Ev.step (fun k => by rw [impl_isExprNode.j1]) ?_
  unfold bad at H
  by_cases a1 : op < 1
  · rw [decide_eq_true a1, Bool.true_or, Bool.true_or] at H; exact ev_pos a1 H
  rw [decide_eq_false a1, Bool.false_or] at H
  refine ev_neg a1 ?_
  by_cases a2 : op > 15
  · rw [decide_eq_true a2, Bool.true_or] at H; exact ev_pos a2 H
  rw [decide_eq_false a2, Bool.false_or] at H
  refine ev_neg a2 ?_
  by_cases a3 : (ks.length : Int) = x3
  rotate_left
  · rw [decide_eq_false a3, Bool.not_false, Bool.true_or] at H; exact ev_neg a3 H
  rw [decide_eq_true a3, Bool.not_true, Bool.false_or] at H
  refine ev_pos a3 ?_
  have T : ∀ R', Ev (fun k => impl_isExprNode.j2 k (decide (op ≠ 3) && (decide (op ≠ 4) && !plainP p0 p1 p2)) op n t p0 p1 p2 ks) R' → Ev (fun k => if op = 3 then impl_isExprNode.j2 k false op n t p0 p1 p2 ks else if op = 4 then impl_isExprNode.j2 k false op n t p0 p1 p2 ks else (impl_isZeroPath.f p0 p1 p2).bind fun t260 => impl_isExprNode.j2 k (!t260) op n t p0 p1 p2 ks) R' := by
    intro R' h
    by_cases b3 : op = 3
    · rw [decide_eq_false (by omega), Bool.false_and] at h; exact ev_pos b3 h
    rw [decide_eq_true b3, Bool.true_and] at h
    by_cases b4 : op = 4
    · rw [decide_eq_false (by omega), Bool.false_and] at h; exact ev_neg b3 (ev_pos b4 h)
    rw [decide_eq_true b4, Bool.true_and] at h
    exact ev_neg b3 (ev_neg b4 (ev_let _ (isZero_eq _ _ _) h))
  have U : ∀ R', Ev (fun k => impl_isExprNode.j2 k ((decide (op ≠ 2) && !em t) || (decide (op ≠ 3) && (decide (op ≠ 4) && !plainP p0 p1 p2))) op n t p0 p1 p2 ks) R' → Ev (fun k => if op = 2 then (if op = 3 then impl_isExprNode.j2 k false op n t p0 p1 p2 ks else if op = 4 then impl_isExprNode.j2 k false op n t p0 p1 p2 ks else (impl_isZeroPath.f p0 p1 p2).bind fun t260 => impl_isExprNode.j2 k (!t260) op n t p0 p1 p2 ks) else if t.toList = ([] : List UInt8) then (if op = 3 then impl_isExprNode.j2 k false op n t p0 p1 p2 ks else if op = 4 then impl_isExprNode.j2 k false op n t p0 p1 p2 ks else (impl_isZeroPath.f p0 p1 p2).bind fun t260 => impl_isExprNode.j2 k (!t260) op n t p0 p1 p2 ks) else impl_isExprNode.j2 k true op n t p0 p1 p2 ks) R' := by
    intro R' h
    by_cases b2 : op = 2
    · rw [decide_eq_false (by omega), Bool.false_and, Bool.false_or] at h; exact ev_pos b2 (T _ h)
    rw [decide_eq_true b2, Bool.true_and] at h
    refine ev_neg b2 ?_
    by_cases be : t.toList = ([] : List UInt8)
    · rw [show em t = true from beq_iff_eq.2 be, Bool.not_true, Bool.false_or] at h; exact ev_pos be (T _ h)
    · rw [show em t = false from beq_eq_false_iff_ne.2 be, Bool.not_false, Bool.true_or] at h; exact ev_neg be h
  by_cases b1 : op = 1
  · rw [decide_eq_false (by omega), Bool.false_and, Bool.false_or] at H; exact ev_pos b1 (U _ H)
  rw [decide_eq_true b1, Bool.true_and] at H
  refine ev_neg b1 ?_
  by_cases bn : n = 0
  · rw [beq_iff_eq.2 bn, Bool.not_true, Bool.false_or] at H; exact ev_pos bn (U _ H)
  · rw [beq_eq_false_iff_ne.2 bn, Bool.not_false, Bool.true_or] at H; exact ev_neg bn H
/-- A node's own kind. -/
def own (op n : Int) (t : ByteArray) (p0 : Bool) (p1 : Int) (p2 : List ST) (v : Bool) : Bool :=
  if op = 1 then decide (0 ≤ n) && decide (n ≤ 1000000000)
  else if op = 2 then mIsText t
  else if op = 4 then mPath p0 p1 p2
  else if op = 3 then mPath p0 p1 p2 && writ p0 p1 p2
  else v
theorem ij2_ev (op n : Int) (t : ByteArray) (ht : t.size ≤ 1048576) (p0 : Bool) (p1 : Int) (p2 : List ST) (hp : p2.length + mu71 p2 ≤ 1048576) (ks : List EX) (v : Bool) (HL : Ev (fun k => impl_isExprNode.l0 k ks (ks.length : Int) 0) v) (x : Bool) : Ev (fun k => impl_isExprNode.j2 k x op n t p0 p1 p2 ks) (!x && own op n t p0 p1 p2 v) := by
  refine Ev.step (fun k => by rw [impl_isExprNode.j2]) ?_
  cases x
  rotate_left
  · exact ev_pos rfl (ev_const rfl)
  rw [Bool.not_false, Bool.true_and, own]
  refine ev_neg (by simp) ?_
  by_cases h1 : op = 1
  · rw [if_pos h1]
    refine ev_pos h1 (ev_ite (fun h => ?_) (fun h => ?_))
    · rw [decide_eq_true (show 0 ≤ n by omega), Bool.true_and]; exact ev_const rfl
    · rw [decide_eq_false (show ¬ 0 ≤ n by omega)]; exact ev_const rfl
  rw [if_neg h1]
  refine ev_neg h1 ?_
  by_cases h2 : op = 2
  · rw [if_pos h2]; exact ev_pos h2 (ev_bind _ (impl_IsText_ev t (by omega)) (ev_const rfl))
  rw [if_neg h2]
  refine ev_neg h2 ?_
  have hP := impl_IsPath_ev p0 p1 p2 hp
  by_cases h4 : op = 4
  · rw [if_pos h4]; exact ev_pos h4 (ev_bind _ hP (ev_const rfl))
  rw [if_neg h4]
  refine ev_neg h4 ?_
  by_cases h3 : op = 3
  rotate_left
  · rw [if_neg h3]; exact ev_neg h3 HL
  rw [if_pos h3]
  refine ev_pos h3 ?_
  have pos : mPath p0 p1 p2 = true → (p0 = true → p1 = 0) ∧ (p0 = false → p1 = 0 → 0 < p2.length) ∧ 0 ≤ p1 := by
    intro h
    obtain ⟨_, h2⟩ := Bool.and_eq_true_iff.1 h
    unfold pfin at h2
    simp only [Bool.and_eq_true, decide_eq_true_eq] at h2
    obtain ⟨⟨q0, _⟩, _, q3⟩ := h2
    refine ⟨fun hh => ?_, fun hh h0 => ?_, q0⟩
    · rw [if_pos hh] at q3; exact of_decide_eq_true q3
    · rw [if_neg (by rw [hh]; simp), Bool.or_eq_true, decide_eq_true_eq, decide_eq_true_eq] at q3; omega
  cases hmp : mPath p0 p1 p2 with
  | false =>
    rw [hmp] at hP
    rw [Bool.false_and]
    refine ev_ite (fun h => ?_) (fun h => ?_)
    · exact ev_bind _ hP (ev_neg (by simp) (ev_const rfl))
    · refine ev_ite (fun h => ?_) (fun h => ?_)
      · refine ev_ite (fun h => ?_) (fun h => ?_)
        · refine ev_pos (by omega) (ev_ite (fun h => ?_) (fun h => ?_))
          · exact ev_bind _ hP (ev_neg (by simp) (ev_const rfl))
          · exact ev_bind _ hP (ev_neg (by simp) (ev_const rfl))
        · exact ev_bind _ hP (ev_neg (by simp) (ev_const rfl))
      · exact ev_bind _ hP (ev_neg (by simp) (ev_const rfl))
  | true =>
    rw [hmp] at hP
    obtain ⟨q1, q2, q3⟩ := pos hmp
    rw [Bool.true_and, writ]
    refine ev_ite (fun h => ?_) (fun h => ?_)
    · have := q1 h
      rw [if_pos h, decide_eq_false (show ¬ p1 > 0 by omega), Bool.false_or]
      refine ev_bind _ hP (ev_pos rfl (ev_const ?_))
      by_cases hl : p2.length = 0
      · rw [hl]; rfl
      · rw [beq_eq_false_iff_ne.2 (show ¬ (p2.length : Int) = 0 by omega), decide_eq_true (by omega)]; rfl
    · rw [if_neg h]
      have h' := Bool.eq_false_iff.mpr h
      refine ev_ite (fun h0 => ?_) (fun h0 => ?_)
      · have := q2 h' h0
        rw [if_neg (show ¬ p1 > 0 by omega)]
        refine ev_pos (by omega) (ev_pos (by omega) (ev_ite (fun hn => ?_) (fun hn => ?_)))
        · rw [show ((name0 p2).toList == ([111, 114] : List UInt8)) = true from beq_iff_eq.2 hn]
          exact ev_bind _ hP (ev_pos rfl (ev_const rfl))
        · rw [show ((name0 p2).toList == ([111, 114] : List UInt8)) = false from beq_eq_false_iff_ne.2 hn, Bool.not_false, Bool.true_and]
          refine ev_bind _ hP (ev_pos rfl (ev_ite (fun hq => ?_) (fun hq => ?_)))
          · rw [show ((name0 p2).toList == ([97, 110, 100] : List UInt8)) = true from beq_iff_eq.2 hq]; exact ev_const rfl
          · rw [show ((name0 p2).toList == ([97, 110, 100] : List UInt8)) = false from beq_eq_false_iff_ne.2 hq]; exact ev_const rfl
      · rw [if_pos (show p1 > 0 by omega)]
        exact ev_bind _ hP (ev_pos rfl (ev_const rfl))
def kidsOf (op : Int) : Int := if op = 1 ∨ op = 2 ∨ op = 3 ∨ op = 4 then 0 else if op = 5 then 1 else 2
theorem fit (op n : Int) (t : ByteArray) (p0 : Bool) (p1 : Int) (p2 : List ST) (m : Nat) (v : Bool) (hv : m = 0 → v = true) : (!bad op n t p0 p1 p2 m (kidsOf op) && own op n t p0 p1 p2 v) = (base op n t p0 p1 p2 m && v) := by
  unfold bad own base kidsOf
  by_cases h1 : op = 1
  · subst h1
    by_cases hm : m = 0
    · rw [hv hm]; subst hm; simp; cases em t <;> cases plainP p0 p1 p2 <;> simp
    · simp [hm]
  by_cases h2 : op = 2
  · subst h2
    by_cases hm : m = 0
    · rw [hv hm]; subst hm; simp; cases mIsText t <;> cases (n == 0) <;> cases plainP p0 p1 p2 <;> simp
    · simp [hm]
  by_cases h3 : op = 3
  · subst h3
    by_cases hm : m = 0
    · rw [hv hm]; subst hm; simp; cases mPath p0 p1 p2 <;> cases (n == 0) <;> cases em t <;> cases writ p0 p1 p2 <;> simp
    · simp [hm]
  by_cases h4 : op = 4
  · subst h4
    by_cases hm : m = 0
    · rw [hv hm]; subst hm; simp; cases mPath p0 p1 p2 <;> cases (n == 0) <;> cases em t <;> simp
    · simp [hm]
  by_cases h5 : op = 5
  · subst h5
    by_cases hm : (m : Int) = 1
    · simp [hm]; cases (n == 0) <;> cases em t <;> cases plainP p0 p1 p2 <;> simp
    · simp [hm]
  · rw [if_neg h1, if_neg h2, if_neg h4, if_neg h3, if_neg h1, if_neg h2, if_neg h3, if_neg h4, if_neg h5, if_neg (by omega), if_neg h5]
    rw [decide_eq_true h1, decide_eq_true h2, decide_eq_true h3, decide_eq_true h4]
    have e1 : (decide (op < 1) || decide (op > 15)) = !(decide (5 ≤ op) && decide (op ≤ 15)) := by
      by_cases a : 5 ≤ op <;> by_cases b : op ≤ 15
      · rw [decide_eq_true a, decide_eq_true b, decide_eq_false (by omega), decide_eq_false (by omega)]; rfl
      · rw [decide_eq_true a, decide_eq_false b, decide_eq_false (by omega), decide_eq_true (by omega)]; rfl
      · rw [decide_eq_false a, decide_eq_true (show op < 1 by omega)]; rfl
      · rw [decide_eq_false a, decide_eq_true (show op < 1 by omega)]; rfl
    rw [e1]
    cases (decide (5 ≤ op) && decide (op ≤ 15)) <;> cases decide ((m : Int) = 2) <;> cases (n == 0) <;> cases em t <;> cases plainP p0 p1 p2 <;> simp
mutual
theorem node_ev : ∀ (e : EX) (hm : ms54 e ≤ 1048576), Ev (fun k => impl_isExprNode.f k e.f0 e.f1 e.f2 e.f3.f0 e.f3.f1 e.f3.f2 e.f4) (vE e)
  | ⟨op, n, t, ⟨p0, p1, p2⟩, ks⟩, hm => by
    rw [ms54] at hm
    simp only [ms29] at hm
    show Ev (fun k => impl_isExprNode.f k op n t p0 p1 p2 ks) _
    have HL := nodeL_ev ks [] (by rw [List.nil_append]; omega) (by omega)
    have v0 : ks.length = 0 → vL ks = true := by intro h; cases ks with | nil => rfl | cons _ _ => simp at h
    have z := ij1_ev op n t p0 p1 p2 ks (kidsOf op) _ (ij2_ev op n t (by omega) p0 p1 p2 (by omega) ks (vL ks) HL _)
    rw [fit op n t p0 p1 p2 ks.length (vL ks) v0] at z
    rw [vE]
    have J : ∀ b : Bool, (b = true → op = 1 ∨ op = 2 ∨ op = 3 ∨ op = 4) → (b = false → ¬ (op = 1 ∨ op = 2 ∨ op = 3 ∨ op = 4)) → Ev (fun k => impl_isExprNode.j0 k 2 op b op n t p0 p1 p2 ks) (base op n t p0 p1 p2 ks.length && vL ks) := by
      intro b hb1 hb2
      refine Ev.step (fun k => by rw [impl_isExprNode.j0]) ?_
      refine ev_ite (fun h => ?_) (fun h => ?_)
      · rw [kidsOf, if_pos (hb1 h)] at z; exact z
      · rw [kidsOf, if_neg (hb2 (Bool.eq_false_iff.mpr h))] at z
        refine ev_ite (fun h5 => ?_) (fun h5 => ?_)
        · rw [if_pos h5] at z; exact z
        · rw [if_neg h5] at z; exact z
    refine Ev.step (fun k => by rw [impl_isExprNode.f]) ?_
    refine ev_ite (fun h => J _ (fun _ => .inl h) (fun hb => ?_)) (fun h1 => ev_ite (fun h => J _ (fun _ => .inr (.inl h)) (fun hb => ?_)) (fun h2 => ev_ite (fun h => J _ (fun _ => .inr (.inr (.inl h))) (fun hb => ?_)) (fun h3 => J _ (fun hb => ?_) (fun hb => ?_))))
    · exact absurd h (beq_eq_false_iff_ne.1 hb)
    · exact absurd h (beq_eq_false_iff_ne.1 hb)
    · exact absurd h (beq_eq_false_iff_ne.1 hb)
    · exact .inr (.inr (.inr (beq_iff_eq.1 hb)))
    · have := beq_eq_false_iff_ne.1 hb
      omega
theorem nodeL_ev : ∀ (suf pre : List EX) (hb : (pre ++ suf).length ≤ 1048576) (hm : mu54 suf ≤ 1048576), Ev (fun k => impl_isExprNode.l0 k (pre ++ suf) ((pre ++ suf).length : Int) (pre.length : Int)) (vL suf)
  | [], pre, hb, hm => by
    refine Ev.step (fun k => by rw [impl_isExprNode.l0]) ?_
    exact ev_neg (by simp) (ev_const (by rw [vL]))
  | x :: suf, pre, hb, hm => by
    have ex : rd_T54 (pre ++ x :: suf) (pre.length : Int) = x := by unfold rd_T54; exact at_pre pre suf x _
    have hb' := hb
    simp only [List.length_append, List.length_cons] at hb'
    rw [mu54] at hm
    have w := node_ev x (by omega)
    have z := nodeL_ev suf (pre ++ [x]) (by simpa using hb) (by omega)
    rw [List.append_assoc, List.singleton_append] at z
    refine Ev.step (fun k => by rw [impl_isExprNode.l0]) ?_
    refine ev_pos (by simp only [List.length_append, List.length_cons]; omega) (ev_pos (by omega) (ev_pos (by simp only [List.length_append, List.length_cons]; omega) ?_))
    rw [ex, next_pre pre x (by omega), vL]
    refine ev_bind _ w (ev_ite (fun h => ?_) (fun h => ?_))
    · rw [h, Bool.true_and]; exact z
    · rw [Bool.eq_false_iff.mpr h]; exact ev_const rfl
end
theorem IsExpr_ev (e : EX) (hm : ms54 e ≤ 1048576) : ∃ r : Bool, Ev (fun k => spec_IsExpr.f k e.f0 e.f1 e.f2 e.f3.f0 e.f3.f1 e.f3.f2 e.f4) r ∧ Ev (fun k => impl_IsExpr.f k e.f0 e.f1 e.f2 e.f3.f0 e.f3.f1 e.f3.f2 e.f4) r := by
  obtain ⟨d, z1, z2⟩ := depth_ev e hm
  simp only [spec_IsExpr.f, impl_IsExpr.f]
  by_cases h : d ≤ 8
  · exact ⟨vE e, ev_bind d z1 (ev_pos h (ev_bind _ (valid_ev e hm) (ev_const rfl))), ev_bind d z2 (ev_pos h (ev_bind _ (node_ev e hm) (ev_const rfl)))⟩
  · exact ⟨false, ev_bind d z1 (ev_neg h (ev_const rfl)), ev_bind d z2 (ev_neg h (ev_const rfl))⟩

theorem FnExactIsExpr : laws_FnExactIsExpr.Pure := by
  rintro e g
  refine Ev.rounds ?_
  simp only [laws_FnExactIsExpr.f]
  refine sz_guard (szExpr_ok e 1048576 g (by omega) (by omega)) (fun z hz ez => ?_)
  have hc : ms54 (cv48 e) ≤ 1048576 := by rw [mscv48]; omega
  obtain ⟨r, z1, z2⟩ := IsExpr_ev (cv48 e) hc
  refine ev_bind _ (toExpr_ev e (by omega)) (ev_bind r z1 ?_)
  refine ev_bind _ (toExpr_ev e (by omega)) (ev_bind r z2 ?_)
  refine ev_neg (by simp) ?_
  refine ev_bind _ (toExpr_ev e (by omega)) (ev_bind _ (eqExpr_ev (cv48 e) (by omega)) ?_)
  exact ev_pos rfl (ev_const rfl)

end Go.Proofs.Ytmkhoakhfdjplaa.Pure.LFnExactIsExpr
namespace Go.Proofs.Ytmkhoakhfdjplaa.Pure
theorem FnExactIsExpr : PFnExactIsExpr.laws_FnExactIsExpr.Pure := LFnExactIsExpr.FnExactIsExpr
end Go.Proofs.Ytmkhoakhfdjplaa.Pure
