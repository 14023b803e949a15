/- For every path, the program's IsPath returns what the reference's IsPath returns. -/
import Derived.Test.YtmkhoakhfdjplaaPFnExactIsPathx0
import Derived.Test.YtmkhoakhfdjplaaPFnExactIsPathx1
import Derived.Test.YtmkhoakhfdjplaaPFnExactIsPathx2
import Derived.Test.YtmkhoakhfdjplaaPFnExactIsPathx3
import Derived.Test.YtmkhoakhfdjplaaPFnExactIsPathx4
import Derived.Test.YtmkhoakhfdjplaaPFnExactIsPathx5
import Derived.Test.YtmkhoakhfdjplaaPFnExactIsPathx6
import Derived.Test.YtmkhoakhfdjplaaQFnExactIsPath
import Derived.Test.YtmkhoakhfdjplaaBase
namespace Go.Proofs.Ytmkhoakhfdjplaa.Pure.LFnExactIsPath
open Go.RowKit Go.Proofs.Ytmkhoakhfdjplaa.PFnExactIsPath Go.Proofs.YtmkhoakhfdjplaaW.PrintWords Go.Proofs.YtmkhoakhfdjplaaW.PrintLast Go.Proofs.YtmkhoakhfdjplaaW.PrintMore Go.Proofs.Ytmkhoakhfdjplaa.Base
set_option linter.unusedVariables false
set_option linter.unusedSimpArgs false

/-! #### the law's own helpers -/
def mustr : List ByteArray → Nat
  | [] => 0
  | x :: l => x.size + mustr l
theorem mustr_mem {l : List ByteArray} {x : ByteArray} (h : x ∈ l) : x.size ≤ mustr l := by
  induction l with
  | nil => cases h
  | cons y l ih =>
    simp only [mustr]
    rcases List.mem_cons.1 h with rfl | h
    · omega
    · have := ih h; omega
theorem mustr_append (l l' : List ByteArray) : mustr (l ++ l') = mustr l + mustr l' := by
  induction l with
  | nil => simp [mustr]
  | cons x l ih => simp only [List.cons_append, mustr, ih]; omega
def ms149 (x : S149) : Nat := (x.f0.size + (x.f1.size + 0))
def mu149 : List S149 → Nat
  | [] => 0
  | x :: l => ms149 x + mu149 l
theorem mu149_append (l l' : List S149) : mu149 (l ++ l') = mu149 l + mu149 l' := by
  induction l with
  | nil => simp [mu149]
  | cons x l ih => simp only [List.cons_append, mu149, ih]; omega
theorem mu149_mem {l : List S149} {x : S149} (h : x ∈ l) : ms149 x ≤ mu149 l := by
  induction l with
  | nil => cases h
  | cons y l ih =>
    simp only [mu149]
    rcases List.mem_cons.1 h with rfl | h
    · omega
    · have := ih h; omega
def ms105 (x : S105) : Nat := (x.f0.size + ((x.f1.length + mu149 x.f1) + 0))
def mu105 : List S105 → Nat
  | [] => 0
  | x :: l => ms105 x + mu105 l
theorem mu105_append (l l' : List S105) : mu105 (l ++ l') = mu105 l + mu105 l' := by
  induction l with
  | nil => simp [mu105]
  | cons x l ih => simp only [List.cons_append, mu105, ih]; omega
theorem mu105_mem {l : List S105} {x : S105} (h : x ∈ l) : ms105 x ≤ mu105 l := by
  induction l with
  | nil => cases h
  | cons y l ih =>
    simp only [mu105]
    rcases List.mem_cons.1 h with rfl | h
    · omega
    · have := ih h; omega
def ms73 (x : S73) : Nat := (x.f0.size + (x.f1.size + 0))
def mu73 : List S73 → Nat
  | [] => 0
  | x :: l => ms73 x + mu73 l
theorem mu73_append (l l' : List S73) : mu73 (l ++ l') = mu73 l + mu73 l' := by
  induction l with
  | nil => simp [mu73]
  | cons x l ih => simp only [List.cons_append, mu73, ih]; omega
theorem mu73_mem {l : List S73} {x : S73} (h : x ∈ l) : ms73 x ≤ mu73 l := by
  induction l with
  | nil => cases h
  | cons y l ih =>
    simp only [mu73]
    rcases List.mem_cons.1 h with rfl | h
    · omega
    · have := ih h; omega
def ms71 (x : S71) : Nat := (x.f0.size + ((x.f1.length + mu73 x.f1) + 0))
def mu71 : List S71 → Nat
  | [] => 0
  | x :: l => ms71 x + mu71 l
theorem mu71_append (l l' : List S71) : mu71 (l ++ l') = mu71 l + mu71 l' := by
  induction l with
  | nil => simp [mu71]
  | cons x l ih => simp only [List.cons_append, mu71, ih]; omega
theorem mu71_mem {l : List S71} {x : S71} (h : x ∈ l) : ms71 x ≤ mu71 l := by
  induction l with
  | nil => cases h
  | cons y l ih =>
    simp only [mu71]
    rcases List.mem_cons.1 h with rfl | h
    · omega
    · have := ih h; omega
theorem szTest_ok (v0 : ByteArray) (v1 : ByteArray) (left : Int) (g0 : v0.size ≤ maxLen) (g1 : v1.size ≤ maxLen) (h0 : 0 ≤ left) (h1 : left ≤ 1048576) : SzOk (fun k => laws_szTest.f v0 v1 left) left (v0.size + (v1.size + 0)) := by
  simp only [laws_szTest.f]
  have e : wrap64 (left - (v0.size : Int)) = left - (v0.size : Int) := w64 (by have := g0; unfold maxLen at this; omega) (by omega)
  simp only [e]; clear e
  refine sz_len ?_; intro q
  generalize ec : left - (v0.size : Int) = c0 at q ⊢
  have q' : c0 ≤ 1048576 := by omega
  have e : wrap64 (c0 - (v1.size : Int)) = c0 - (v1.size : Int) := w64 (by have := g1; unfold maxLen at this; omega) (by omega)
  simp only [e]; clear e
  refine sz_len ?_; intro q
  generalize ec : c0 - (v1.size : Int) = c1 at q ⊢
  have q' : c1 ≤ 1048576 := by omega
  exact sz_ret _ (by assumption)
theorem szTestS_l0 : ∀ (suf pre : List S149) (left : Int) (hb : (pre ++ suf).length ≤ maxLen) (g : ∀ y ∈ suf, G149 y) (h0 : 0 ≤ left) (h1 : left ≤ 1048576), SzOk (fun k => laws_szTestS.l0 k (pre ++ suf) left (pre.length : Int)) left (mu149 suf)
  | [], pre, left, hb, g, h0, h1 => by
    refine sz_step (fun k => by rw [laws_szTestS.l0]) ?_
    refine sz_neg (by simp) ?_
    exact sz_ret _ h0
  | x :: suf, pre, left, hb, g, h0, h1 => by
    have gx := g x List.mem_cons_self
    have ex : rd_T149 (pre ++ x :: suf) (pre.length : Int) = x := by unfold rd_T149; exact at_pre pre suf x _
    refine sz_step (fun k => by rw [laws_szTestS.l0]) ?_
    refine sz_pos (by simp only [List.length_append, List.length_cons]; omega) (sz_pos (by omega) ?_)
    rw [ex]
    rw [mu149]
    obtain ⟨gx0, gx1⟩ := gx
    refine sz_call (szTest_ok _ _ left gx0 gx1 (by assumption) (by omega)) ?_; intro c0 q ec
    have q' : c0 ≤ 1048576 := by omega
    rw [next_pre pre x (by have := hb; simp only [List.length_append, List.length_cons] at this; unfold maxLen at this; omega)]
    have z := szTestS_l0 suf (pre ++ [x]) c0 (by simpa using hb) (fun y hy => g y (List.mem_cons_of_mem _ hy)) (by assumption) (by omega)
    rw [List.append_assoc] at z
    exact z
theorem szTestS_ok (l : List S149) (left : Int) (g : l.length ≤ maxLen ∧ ∀ y ∈ l, G149 y) (h0 : 0 ≤ left) (h1 : left ≤ 1048576) : SzOk (fun k => laws_szTestS.f k l left) left (l.length + mu149 l) := by
  simp only [laws_szTestS.f]
  have e : wrap64 (left - (l.length : Int)) = left - (l.length : Int) := w64 (by have := g.1; unfold maxLen at this; omega) (by omega)
  simp only [e]; clear e
  refine sz_len ?_; intro q
  generalize ec : left - (l.length : Int) = c0 at q ⊢
  have q' : c0 ≤ 1048576 := by omega
  exact szTestS_l0 l [] c0 (by simpa using g.1) g.2 (by assumption) (by assumption)
theorem szStep_ok (v0 : ByteArray) (v1 : List S149) (left : Int) (g0 : v0.size ≤ maxLen) (g1 : v1.length ≤ maxLen ∧ ∀ y ∈ v1, G149 y) (h0 : 0 ≤ left) (h1 : left ≤ 1048576) : SzOk (fun k => laws_szStep.f k v0 v1 left) left (v0.size + ((v1.length + mu149 v1) + 0)) := by
  simp only [laws_szStep.f]
  have e : wrap64 (left - (v0.size : Int)) = left - (v0.size : Int) := w64 (by have := g0; unfold maxLen at this; omega) (by omega)
  simp only [e]; clear e
  refine sz_len ?_; intro q
  generalize ec : left - (v0.size : Int) = c0 at q ⊢
  have q' : c0 ≤ 1048576 := by omega
  refine sz_call (szTestS_ok _ _ g1 (by assumption) (by omega)) ?_; intro c1 q ec
  have q' : c1 ≤ 1048576 := by omega
  exact sz_ret _ (by assumption)
theorem szStepS_l0 : ∀ (suf pre : List S105) (left : Int) (hb : (pre ++ suf).length ≤ maxLen) (g : ∀ y ∈ suf, G105 y) (h0 : 0 ≤ left) (h1 : left ≤ 1048576), SzOk (fun k => laws_szStepS.l0 k (pre ++ suf) left (pre.length : Int)) left (mu105 suf)
  | [], pre, left, hb, g, h0, h1 => by
    refine sz_step (fun k => by rw [laws_szStepS.l0]) ?_
    refine sz_neg (by simp) ?_
    exact sz_ret _ h0
  | x :: suf, pre, left, hb, g, h0, h1 => by
    have gx := g x List.mem_cons_self
    have ex : rd_T105 (pre ++ x :: suf) (pre.length : Int) = x := by unfold rd_T105; exact at_pre pre suf x _
    refine sz_step (fun k => by rw [laws_szStepS.l0]) ?_
    refine sz_pos (by simp only [List.length_append, List.length_cons]; omega) (sz_pos (by omega) ?_)
    rw [ex]
    rw [mu105]
    obtain ⟨gx0, gx1⟩ := gx
    refine sz_call (szStep_ok _ _ left gx0 gx1 (by assumption) (by omega)) ?_; intro c0 q ec
    have q' : c0 ≤ 1048576 := by omega
    rw [next_pre pre x (by have := hb; simp only [List.length_append, List.length_cons] at this; unfold maxLen at this; omega)]
    have z := szStepS_l0 suf (pre ++ [x]) c0 (by simpa using hb) (fun y hy => g y (List.mem_cons_of_mem _ hy)) (by assumption) (by omega)
    rw [List.append_assoc] at z
    exact z
theorem szStepS_ok (l : List S105) (left : Int) (g : l.length ≤ maxLen ∧ ∀ y ∈ l, G105 y) (h0 : 0 ≤ left) (h1 : left ≤ 1048576) : SzOk (fun k => laws_szStepS.f k l left) left (l.length + mu105 l) := by
  simp only [laws_szStepS.f]
  have e : wrap64 (left - (l.length : Int)) = left - (l.length : Int) := w64 (by have := g.1; unfold maxLen at this; omega) (by omega)
  simp only [e]; clear e
  refine sz_len ?_; intro q
  generalize ec : left - (l.length : Int) = c0 at q ⊢
  have q' : c0 ≤ 1048576 := by omega
  exact szStepS_l0 l [] c0 (by simpa using g.1) g.2 (by assumption) (by assumption)
theorem szPath_ok (v0 : Bool) (v1 : Int) (v2 : List S105) (left : Int) (g2 : v2.length ≤ maxLen ∧ ∀ y ∈ v2, G105 y) (h0 : 0 ≤ left) (h1 : left ≤ 1048576) : SzOk (fun k => laws_szPath.f k v0 v1 v2 left) left ((v2.length + mu105 v2) + 0) := by
  simp only [laws_szPath.f]
  refine sz_call (szStepS_ok _ _ g2 (by assumption) (by omega)) ?_; intro c0 q ec
  have q' : c0 ≤ 1048576 := by omega
  exact sz_ret _ (by assumption)
def cv149 (x : S149) : S73 := ⟨x.f0, x.f1⟩
def cvl149 : List S149 → List S73
  | [] => []
  | x :: l => cv149 x :: cvl149 l
theorem cvl149_length (l : List S149) : (cvl149 l).length = l.length := by
  induction l with
  | nil => rfl
  | cons x l ih => simp only [cvl149, List.length_cons, ih]
theorem cvl149_append (l l' : List S149) : cvl149 (l ++ l') = cvl149 l ++ cvl149 l' := by
  induction l with
  | nil => rfl
  | cons x l ih => simp only [List.cons_append, cvl149, ih]
theorem cvl149_map (l : List S149) : cvl149 l = l.map cv149 := by
  induction l with
  | nil => rfl
  | cons x l ih => simp only [List.map_cons, cvl149, ih]
theorem mscv149 (x : S149) : ms73 (cv149 x) = ms149 x := by
  simp only [cv149, ms73, ms149]
theorem mucv149 (l : List S149) : mu73 (cvl149 l) = mu149 l := by
  induction l with
  | nil => rfl
  | cons x l ih => simp only [cvl149, mu73, mu149, mscv149, ih]
def cv105 (x : S105) : S71 := ⟨x.f0, (cvl149 x.f1)⟩
def cvl105 : List S105 → List S71
  | [] => []
  | x :: l => cv105 x :: cvl105 l
theorem cvl105_length (l : List S105) : (cvl105 l).length = l.length := by
  induction l with
  | nil => rfl
  | cons x l ih => simp only [cvl105, List.length_cons, ih]
theorem cvl105_append (l l' : List S105) : cvl105 (l ++ l') = cvl105 l ++ cvl105 l' := by
  induction l with
  | nil => rfl
  | cons x l ih => simp only [List.cons_append, cvl105, ih]
theorem cvl105_map (l : List S105) : cvl105 l = l.map cv105 := by
  induction l with
  | nil => rfl
  | cons x l ih => simp only [List.map_cons, cvl105, ih]
theorem mscv105 (x : S105) : ms71 (cv105 x) = ms105 x := by
  simp only [cv105, ms71, ms105, cvl149_length, mucv149]
theorem mucv105 (l : List S105) : mu71 (cvl105 l) = mu105 l := by
  induction l with
  | nil => rfl
  | cons x l ih => simp only [cvl105, mu71, mu105, mscv105, ih]
theorem toTest_ev (v0 : ByteArray) (v1 : ByteArray) (hm : (v0.size + (v1.size + 0)) ≤ 1048576) : Ev (fun k => laws_toTest.f v0 v1) (v0, v1) := by
  simp only [laws_toTest.f]
  exact ev_const rfl
theorem toTestS_l0 : ∀ (suf pre : List S149) (hb : (pre ++ suf).length ≤ 1048576) (hm : mu149 suf ≤ 1048576), Ev (fun k => laws_toTestS.l0 k (pre ++ suf) ((cvl149 pre) ++ List.replicate suf.length z73) (pre.length : Int)) (cvl149 (pre ++ suf))
  | [], pre, hb, hm => by
    refine Ev.step (fun k => by rw [laws_toTestS.l0]) ?_
    refine ev_neg (by simp) (ev_const ?_)
    simp
  | x :: suf, pre, hb, hm => by
    have ex : rd_T149 (pre ++ x :: suf) (pre.length : Int) = x := by unfold rd_T149; exact at_pre pre suf x _
    have hb' := hb
    simp only [List.length_append, List.length_cons] at hb'
    rw [mu149] at hm
    refine Ev.step (fun k => by rw [laws_toTestS.l0]) ?_
    refine ev_pos (by simp only [List.length_append, List.length_cons]; omega) (ev_pos (by omega) ?_)
    rw [ex]
    refine ev_bind _ (toTest_ev _ _ (by first | (simp only [ms149] at hm; omega) | omega)) ?_
    refine ev_pos (by simp only [List.length_append, cvl149_length, List.length_replicate, List.length_cons]; omega) ?_
    have es : (cvl149 pre ++ List.replicate (x :: suf).length z73).set ((pre.length : Int)).toNat (cv149 x) = cvl149 (pre ++ [x]) ++ List.replicate suf.length z73 := by
      have h2 := set_pre (cvl149 pre) (List.replicate suf.length z73) z73 (cv149 x)
      rw [cvl149_length] at h2
      rw [List.length_cons, List.replicate_succ, h2, cvl149_append]; rfl
    rw [next_pre pre x (by omega)]
    have z := toTestS_l0 suf (pre ++ [x]) (by simpa using hb) (by omega)
    rw [List.append_assoc] at z
    rw [← es] at z
    have e2 : (⟨(cv149 x).f0, (cv149 x).f1⟩ : S73) = cv149 x := by rfl
    show Ev (fun k => laws_toTestS.l0 k (pre ++ x :: suf) ((cvl149 pre ++ List.replicate (x :: suf).length z73).set ((pre.length : Int)).toNat (⟨(cv149 x).f0, (cv149 x).f1⟩ : S73)) ((pre ++ [x]).length : Int)) (cvl149 (pre ++ x :: suf))
    rw [e2]
    exact z
theorem toTestS_ev (l : List S149) (hm : (l.length + mu149 l) ≤ 1048576) : Ev (fun k => laws_toTestS.f k l) (cvl149 l) := by
  simp only [laws_toTestS.f]
  have hl : l.length ≤ 1048576 := by omega
  refine ev_pos (by omega) (ev_pos (by omega) ?_)
  have z := toTestS_l0 l [] (by simpa using hl) (by omega)
  simpa [cvl149] using z
theorem toStep_ev (v0 : ByteArray) (v1 : List S149) (hm : (v0.size + ((v1.length + mu149 v1) + 0)) ≤ 1048576) : Ev (fun k => laws_toStep.f k v0 v1) (v0, (cvl149 v1)) := by
  simp only [laws_toStep.f]
  refine ev_bind _ (toTestS_ev _ (by omega)) ?_
  exact ev_const rfl
theorem toStepS_l0 : ∀ (suf pre : List S105) (hb : (pre ++ suf).length ≤ 1048576) (hm : mu105 suf ≤ 1048576), Ev (fun k => laws_toStepS.l0 k (pre ++ suf) ((cvl105 pre) ++ List.replicate suf.length z71) (pre.length : Int)) (cvl105 (pre ++ suf))
  | [], pre, hb, hm => by
    refine Ev.step (fun k => by rw [laws_toStepS.l0]) ?_
    refine ev_neg (by simp) (ev_const ?_)
    simp
  | x :: suf, pre, hb, hm => by
    have ex : rd_T105 (pre ++ x :: suf) (pre.length : Int) = x := by unfold rd_T105; exact at_pre pre suf x _
    have hb' := hb
    simp only [List.length_append, List.length_cons] at hb'
    rw [mu105] at hm
    refine Ev.step (fun k => by rw [laws_toStepS.l0]) ?_
    refine ev_pos (by simp only [List.length_append, List.length_cons]; omega) (ev_pos (by omega) ?_)
    rw [ex]
    refine ev_bind _ (toStep_ev _ _ (by first | (simp only [ms105] at hm; omega) | omega)) ?_
    refine ev_pos (by simp only [List.length_append, cvl105_length, List.length_replicate, List.length_cons]; omega) ?_
    have es : (cvl105 pre ++ List.replicate (x :: suf).length z71).set ((pre.length : Int)).toNat (cv105 x) = cvl105 (pre ++ [x]) ++ List.replicate suf.length z71 := by
      have h2 := set_pre (cvl105 pre) (List.replicate suf.length z71) z71 (cv105 x)
      rw [cvl105_length] at h2
      rw [List.length_cons, List.replicate_succ, h2, cvl105_append]; rfl
    rw [next_pre pre x (by omega)]
    have z := toStepS_l0 suf (pre ++ [x]) (by simpa using hb) (by omega)
    rw [List.append_assoc] at z
    rw [← es] at z
    have e2 : (⟨(cv105 x).f0, (cv105 x).f1⟩ : S71) = cv105 x := by rfl
    show Ev (fun k => laws_toStepS.l0 k (pre ++ x :: suf) ((cvl105 pre ++ List.replicate (x :: suf).length z71).set ((pre.length : Int)).toNat (⟨(cv105 x).f0, (cv105 x).f1⟩ : S71)) ((pre ++ [x]).length : Int)) (cvl105 (pre ++ x :: suf))
    rw [e2]
    exact z
theorem toStepS_ev (l : List S105) (hm : (l.length + mu105 l) ≤ 1048576) : Ev (fun k => laws_toStepS.f k l) (cvl105 l) := by
  simp only [laws_toStepS.f]
  have hl : l.length ≤ 1048576 := by omega
  refine ev_pos (by omega) (ev_pos (by omega) ?_)
  have z := toStepS_l0 l [] (by simpa using hl) (by omega)
  simpa [cvl105] using z
theorem toPath_ev (v0 : Bool) (v1 : Int) (v2 : List S105) (hm : ((v2.length + mu105 v2) + 0) ≤ 1048576) : Ev (fun k => laws_toPath.f k v0 v1 v2) (v0, v1, (cvl105 v2)) := by
  simp only [laws_toPath.f]
  refine ev_bind _ (toStepS_ev _ (by omega)) ?_
  exact ev_const rfl
theorem eqTest_ev (v0 : ByteArray) (v1 : ByteArray) (hm : (v0.size + (v1.size + 0)) ≤ 4611686018427387904) : Ev (fun k => laws_eqTest.f v0 v1 v0 v1) true := by
  simp only [laws_eqTest.f]
  refine ev_pos (by simp) ?_
  refine ev_pos (by simp) ?_
  exact ev_const rfl
theorem eqTestS_l0 : ∀ (suf pre : List S73) (hb : (pre ++ suf).length ≤ 4611686018427387904) (hm : mu73 suf ≤ 4611686018427387904), Ev (fun k => laws_eqTestS.l0 k (pre ++ suf) (pre ++ suf) (pre.length : Int)) true
  | [], pre, hb, hm => by
    refine Ev.step (fun k => by rw [laws_eqTestS.l0]) ?_
    exact ev_neg (by simp) (ev_const rfl)
  | x :: suf, pre, hb, hm => by
    have ex : rd_T73 (pre ++ x :: suf) (pre.length : Int) = x := by unfold rd_T73; exact at_pre pre suf x _
    have hb' := hb
    simp only [List.length_append, List.length_cons] at hb'
    rw [mu73] at hm
    refine Ev.step (fun k => by rw [laws_eqTestS.l0]) ?_
    refine ev_pos (by simp only [List.length_append, List.length_cons]; omega) (ev_pos (by omega) (ev_pos (by simp only [List.length_append, List.length_cons]; omega) ?_))
    rw [ex]
    refine ev_bind _ (eqTest_ev _ _ (by first | (simp only [ms73] at hm; omega) | omega)) (ev_pos (by simp) ?_)
    rw [next_pre pre x (by omega)]
    have z := eqTestS_l0 suf (pre ++ [x]) (by simpa using hb) (by omega)
    rw [List.append_assoc] at z
    exact z
theorem eqTestS_ev (l : List S73) (hm : (l.length + mu73 l) ≤ 4611686018427387904) : Ev (fun k => laws_eqTestS.f k l l) true := by
  simp only [laws_eqTestS.f]
  refine ev_pos (by simp) ?_
  exact eqTestS_l0 l [] (by rw [List.nil_append]; omega) (by omega)
theorem eqStep_ev (v0 : ByteArray) (v1 : List S73) (hm : (v0.size + ((v1.length + mu73 v1) + 0)) ≤ 4611686018427387904) : Ev (fun k => laws_eqStep.f k v0 v1 v0 v1) true := by
  simp only [laws_eqStep.f]
  refine ev_pos (by simp) ?_
  refine ev_bind _ (eqTestS_ev _ (by omega)) (ev_pos (by simp) ?_)
  exact ev_const rfl
theorem eqStepS_l0 : ∀ (suf pre : List S71) (hb : (pre ++ suf).length ≤ 4611686018427387904) (hm : mu71 suf ≤ 4611686018427387904), Ev (fun k => laws_eqStepS.l0 k (pre ++ suf) (pre ++ suf) (pre.length : Int)) true
  | [], pre, hb, hm => by
    refine Ev.step (fun k => by rw [laws_eqStepS.l0]) ?_
    exact ev_neg (by simp) (ev_const rfl)
  | x :: suf, pre, hb, hm => by
    have ex : rd_T71 (pre ++ x :: suf) (pre.length : Int) = x := by unfold rd_T71; exact at_pre pre suf x _
    have hb' := hb
    simp only [List.length_append, List.length_cons] at hb'
    rw [mu71] at hm
    refine Ev.step (fun k => by rw [laws_eqStepS.l0]) ?_
    refine ev_pos (by simp only [List.length_append, List.length_cons]; omega) (ev_pos (by omega) (ev_pos (by simp only [List.length_append, List.length_cons]; omega) ?_))
    rw [ex]
    refine ev_bind _ (eqStep_ev _ _ (by first | (simp only [ms71] at hm; omega) | omega)) (ev_pos (by simp) ?_)
    rw [next_pre pre x (by omega)]
    have z := eqStepS_l0 suf (pre ++ [x]) (by simpa using hb) (by omega)
    rw [List.append_assoc] at z
    exact z
theorem eqStepS_ev (l : List S71) (hm : (l.length + mu71 l) ≤ 4611686018427387904) : Ev (fun k => laws_eqStepS.f k l l) true := by
  simp only [laws_eqStepS.f]
  refine ev_pos (by simp) ?_
  exact eqStepS_l0 l [] (by rw [List.nil_append]; omega) (by omega)
theorem eqPath_ev (v0 : Bool) (v1 : Int) (v2 : List S71) (hm : ((v2.length + mu71 v2) + 0) ≤ 4611686018427387904) : Ev (fun k => laws_eqPath.f k v0 v1 v2 v0 v1 v2) true := by
  simp only [laws_eqPath.f]
  refine ev_neg (by simp) ?_
  refine ev_pos (by simp) ?_
  refine ev_bind _ (eqStepS_ev _ (by omega)) (ev_pos (by simp) ?_)
  exact ev_const rfl

/-! #### l1In -/
theorem spec_l1In_eq (a b c : Int) : spec_l1In.f a b c = some (decide (b ≤ a) && decide (a ≤ c)) := by
  unfold spec_l1In.f
  by_cases h : a ≥ b
  · rw [if_pos h, decide_eq_true h, Bool.true_and]
  · rw [if_neg h, decide_eq_false h, Bool.false_and]

/-! #### mName -/
def lowerB (c : Int) : Bool := decide (97 ≤ c) && decide (c ≤ 122)
def digitB (c : Int) : Bool := decide (48 ≤ c) && decide (c ≤ 57)
def nameB (c : Int) : Bool := lowerB c || (digitB c || decide (c = 45))
def lastOk (s : ByteArray) : Bool := decide ((bts s).getD (s.size - 1) 0 ≠ 45)
def mIsName (s : ByteArray) : Bool :=
  match bts s with
  | [] => false
  | c :: l => (lowerB c && l.all nameB) && (decide (s.size ≤ 16) && lastOk s)

/-! #### spec_IsName -/
theorem spec_IsName_l0 (s : ByteArray) (hs : s.size ≤ 4611686018427387904) : ∀ (n i : Nat), 1 ≤ i → i + n = s.size → Ev (fun k => spec_IsName.l0 k s i) (((bts s).drop i).all nameB && (decide (s.size ≤ 16) && lastOk s)) := by
  intro n
  induction n with
  | zero =>
    intro i h1 hi
    refine Ev.step (fun k => by rw [spec_IsName.l0]) ?_
    refine ev_neg (by omega) ?_
    rw [List.drop_eq_nil_of_le (by rw [bts_length]; omega), List.all_nil, Bool.true_and]
    refine ev_let _ (spec_l1In_eq _ _ _) ?_
    have e : wrap64 ((s.size : Int) - 1) = ((s.size - 1 : Nat) : Int) := by rw [w64 (by omega) (by omega)]; omega
    rw [e]
    refine ev_ite (fun h => ?_) (fun h => ?_)
    · refine ev_pos (by omega) (ev_pos (by omega) (ev_const ?_))
      simp only [Bool.and_eq_true, decide_eq_true_eq] at h
      rw [decide_eq_true (by omega), Bool.true_and, bt_eq, lastOk, Int.toNat_natCast]
      congr 1
      simp [bne, BEq.beq]
    · refine ev_const ?_
      simp only [Bool.and_eq_true, decide_eq_true_eq] at h
      rw [decide_eq_false (by omega), Bool.false_and]
  | succ n ih =>
    intro i h1 hi
    have hb := bt_range s i
    have e1 : wrap64 (bt s i) = bt s i := w64 (by omega) (by omega)
    have e2 : wrap64 ((i : Int) + 1) = ((i + 1 : Nat) : Int) := by rw [w64 (by omega) (by omega)]; omega
    refine Ev.step (fun k => by rw [spec_IsName.l0]) ?_
    refine ev_pos (by omega) (ev_pos (by omega) ?_)
    refine ev_let _ (spec_l1In_eq _ _ _) ?_
    rw [e1, e2, drop_cons (z := 0) (by rw [bts_length]; omega), List.all_cons, ← Int.toNat_natCast i, ← bt_eq, Int.toNat_natCast]
    have z := ih (i + 1) (by omega) (by omega)
    refine ev_ite (fun h => ?_) (fun h => ?_)
    · rw [show nameB (bt s i) = true from by rw [nameB, lowerB, h, Bool.true_or], Bool.true_and]
      exact z
    · have h' := Bool.eq_false_iff.mpr h
      refine ev_neg (by omega) (ev_let _ (spec_l1In_eq _ _ _) ?_)
      refine ev_ite (fun h2 => ?_) (fun h2 => ?_)
      · rw [show nameB (bt s i) = true from by rw [nameB, digitB, h2, Bool.true_or, Bool.or_true], Bool.true_and]
        exact z
      · have h2' := Bool.eq_false_iff.mpr h2
        refine ev_ite (fun h3 => ?_) (fun h3 => ?_)
        · rw [show nameB (bt s i) = true from by rw [nameB, decide_eq_true h3, Bool.or_true, Bool.or_true], Bool.true_and]
          exact z
        · rw [show nameB (bt s i) = false from by rw [nameB, lowerB, digitB, h', h2', decide_eq_false h3]; rfl, Bool.false_and, Bool.false_and]
          exact ev_const rfl
theorem spec_IsName_ev (s : ByteArray) (hs : s.size ≤ 4611686018427387904) : Ev (fun k => spec_IsName.f k s) (mIsName s) := by
  show Ev (fun k => spec_IsName.l0 k s 0) _
  have hl := bts_length s
  have hb := bt_range s 0
  refine Ev.step (fun k => by rw [spec_IsName.l0]) ?_
  unfold mIsName
  cases hc : bts s with
  | nil =>
    rw [hc] at hl
    simp only [List.length_nil] at hl
    refine ev_neg (by omega) (ev_let _ (spec_l1In_eq _ _ _) ?_)
    exact ev_neg (by simp; omega) (ev_const rfl)
  | cons c l =>
    rw [hc] at hl
    simp only [List.length_cons] at hl
    show Ev _ ((lowerB c && l.all nameB) && (decide (s.size ≤ 16) && lastOk s))
    have ec : bt s 0 = c := by rw [bt_eq, hc]; rfl
    have hd : (bts s).drop 1 = l := by rw [hc]; rfl
    have e1 : wrap64 (bt s 0) = c := by rw [w64 (by omega) (by omega), ec]
    have e2 : wrap64 ((0 : Int) + 1) = ((1 : Nat) : Int) := by rw [w64 (by omega) (by omega)]; rfl
    refine ev_pos (by omega) (ev_pos (by omega) ?_)
    refine ev_let _ (spec_l1In_eq _ _ _) ?_
    rw [e1, e2]
    refine ev_ite (fun h => ?_) (fun h => ?_)
    · rw [show lowerB c = true from h, Bool.true_and]
      have z := spec_IsName_l0 s hs (s.size - 1) 1 (by omega) (by omega)
      rw [hd] at z
      exact z
    · rw [show lowerB c = false from Bool.eq_false_iff.mpr h, Bool.false_and, Bool.false_and]
      exact ev_pos rfl (ev_const rfl)

/-! #### isByte -/
theorem isLower_eq (c : Int) : impl_isLower.f c = some (lowerB c) := by
  unfold impl_isLower.f lowerB
  by_cases h : c ≥ 97
  · rw [if_pos h, decide_eq_true h, Bool.true_and]
  · rw [if_neg h, decide_eq_false h, Bool.false_and]
theorem isDigit_eq (c : Int) : impl_isDigit.f c = some (digitB c) := by
  unfold impl_isDigit.f digitB
  by_cases h : c ≥ 48
  · rw [if_pos h, decide_eq_true h, Bool.true_and]
  · rw [if_neg h, decide_eq_false h, Bool.false_and]
theorem isNameByte_eq (c : Int) : impl_isNameByte.f c = some (nameB c) := by
  unfold impl_isNameByte.f nameB
  rw [isLower_eq, isDigit_eq]
  simp only [Option.bind_some]
  cases lowerB c <;> cases digitB c <;> simp [BEq.beq]

/-! #### impl_IsName -/
theorem impl_IsName_l0 (s : ByteArray) (hs : s.size ≤ 16) : ∀ (n i : Nat), 1 ≤ i → i + n = s.size → Ev (fun k => impl_IsName.l0 k s i) (((bts s).drop i).all nameB && (decide (s.size ≤ 16) && lastOk s)) := by
  intro n
  induction n with
  | zero =>
    intro i h1 hi
    refine Ev.step (fun k => by rw [impl_IsName.l0]) ?_
    refine ev_neg (by omega) ?_
    rw [List.drop_eq_nil_of_le (by rw [bts_length]; omega), List.all_nil, Bool.true_and]
    have e : wrap64 ((s.size : Int) - 1) = ((s.size - 1 : Nat) : Int) := by rw [w64 (by omega) (by omega)]; omega
    rw [e]
    refine ev_pos (by omega) (ev_pos (by omega) (ev_const ?_))
    rw [decide_eq_true (by omega), Bool.true_and, bt_eq, lastOk, Int.toNat_natCast]
    congr 1
    simp [bne, BEq.beq]
  | succ n ih =>
    intro i h1 hi
    have e2 : wrap64 ((i : Int) + 1) = ((i + 1 : Nat) : Int) := by rw [w64 (by omega) (by omega)]; omega
    refine Ev.step (fun k => by rw [impl_IsName.l0]) ?_
    refine ev_pos (by omega) (ev_pos (by omega) ?_)
    refine ev_let _ (isNameByte_eq _) ?_
    rw [e2, drop_cons (z := 0) (by rw [bts_length]; omega), List.all_cons, ← Int.toNat_natCast i, ← bt_eq, Int.toNat_natCast]
    refine ev_ite (fun h => ?_) (fun h => ?_)
    · rw [h, Bool.true_and]
      exact ih (i + 1) (by omega) (by omega)
    · rw [Bool.eq_false_iff.mpr h, Bool.false_and, Bool.false_and]
      exact ev_const rfl
theorem impl_IsName_ev (s : ByteArray) (hs : s.size ≤ 4611686018427387904) : Ev (fun k => impl_IsName.f k s) (mIsName s) := by
  have hl := bts_length s
  simp only [impl_IsName.f]
  unfold mIsName
  cases hc : bts s with
  | nil =>
    rw [hc] at hl
    simp only [List.length_nil] at hl
    refine ev_pos (by omega) (Ev.step (fun k => by rw [impl_IsName.j0]) ?_)
    exact ev_pos rfl (ev_const rfl)
  | cons c l =>
    rw [hc] at hl
    simp only [List.length_cons] at hl
    show Ev _ ((lowerB c && l.all nameB) && (decide (s.size ≤ 16) && lastOk s))
    have ec : bt s 0 = c := by rw [bt_eq, hc]; rfl
    have hd : (bts s).drop 1 = l := by rw [hc]; rfl
    refine ev_neg (by omega) (ev_ite (fun h => ?_) (fun h => ?_))
    · rw [decide_eq_false (by omega), Bool.false_and, Bool.and_false]
      exact Ev.step (fun k => by rw [impl_IsName.j0]) (ev_pos rfl (ev_const rfl))
    · refine ev_pos (by omega) (ev_let _ (isLower_eq _) ?_)
      rw [ec]
      refine Ev.step (fun k => by rw [impl_IsName.j0]) (ev_ite (fun h2 => ?_) (fun h2 => ?_))
      · rw [show lowerB c = false from by simpa using h2, Bool.false_and, Bool.false_and]
        exact ev_const rfl
      · rw [show lowerB c = true from by simpa using h2, Bool.true_and]
        have z := impl_IsName_l0 s (by omega) (s.size - 1) 1 (by omega) (by omega)
        rw [hd] at z
        exact z

/-! #### mIsText -/
def okT (c : Int) : Bool := decide (32 ≤ c) && decide (c ≤ 126)
def mIsText (s : ByteArray) : Bool := (bts s).all okT && decide ((s.size : Int) ≤ 40)

/-! #### spec_IsText -/
theorem spec_IsText_l0 (s : ByteArray) (hs : s.size ≤ 4611686018427387904) : ∀ (n i : Nat), i + n = s.size → Ev (fun k => spec_IsText.l0 k s i) (((bts s).drop i).all okT && decide ((s.size : Int) ≤ 40)) := by
  intro n
  induction n with
  | zero =>
    intro i hi
    refine Ev.step (fun k => by rw [spec_IsText.l0]) ?_
    refine ev_neg (by omega) (ev_const ?_)
    rw [List.drop_eq_nil_of_le (by rw [bts_length]; omega), List.all_nil, Bool.true_and]
  | succ n ih =>
    intro i hi
    have hb := bt_range s i
    have e1 : wrap64 (bt s i) = bt s i := w64 (by omega) (by omega)
    have e2 : wrap64 ((i : Int) + 1) = ((i + 1 : Nat) : Int) := by rw [w64 (by omega) (by omega)]; omega
    refine Ev.step (fun k => by rw [spec_IsText.l0]) ?_
    refine ev_pos (by omega) (ev_pos (by omega) ?_)
    refine ev_let _ (spec_l1In_eq _ _ _) ?_
    rw [e1, e2, drop_cons (z := 0) (by rw [bts_length]; omega), List.all_cons, ← Int.toNat_natCast i, ← bt_eq, Int.toNat_natCast]
    refine ev_ite (fun h => ?_) (fun h => ?_)
    · rw [show okT (bt s i) = true from h, Bool.true_and]
      exact ih (i + 1) (by omega)
    · rw [show okT (bt s i) = false from Bool.eq_false_iff.mpr h]
      exact ev_const rfl
theorem spec_IsText_ev (s : ByteArray) (hs : s.size ≤ 4611686018427387904) : Ev (fun k => spec_IsText.f k s) (mIsText s) := spec_IsText_l0 s hs s.size 0 (by omega)

/-! #### impl_IsText -/
theorem impl_IsText_l0 (s : ByteArray) (hs : s.size ≤ 4611686018427387904) : ∀ (n i : Nat), i + n = s.size → Ev (fun k => impl_IsText.l0 k s i) (((bts s).drop i).all okT && decide ((s.size : Int) ≤ 40)) := by
  intro n
  induction n with
  | zero =>
    intro i hi
    refine Ev.step (fun k => by rw [impl_IsText.l0]) ?_
    refine ev_neg (by omega) (ev_const ?_)
    rw [List.drop_eq_nil_of_le (by rw [bts_length]; omega), List.all_nil, Bool.true_and]
  | succ n ih =>
    intro i hi
    have hb := bt_range s i
    have e2 : wrap64 ((i : Int) + 1) = ((i + 1 : Nat) : Int) := by rw [w64 (by omega) (by omega)]; omega
    refine Ev.step (fun k => by rw [impl_IsText.l0]) ?_
    refine ev_pos (by omega) (ev_pos (by omega) ?_)
    rw [e2, drop_cons (z := 0) (by rw [bts_length]; omega), List.all_cons, ← Int.toNat_natCast i, ← bt_eq, Int.toNat_natCast]
    refine ev_ite (fun h => ?_) (fun h => ev_ite (fun h2 => ?_) (fun h2 => ?_))
    · rw [show okT (bt s i) = false from by simp only [okT, Bool.and_eq_false_iff, decide_eq_false_iff_not]; omega]
      exact ev_const rfl
    · rw [show okT (bt s i) = false from by simp only [okT, Bool.and_eq_false_iff, decide_eq_false_iff_not]; omega]
      exact ev_const rfl
    · rw [show okT (bt s i) = true from by simp only [okT, Bool.and_eq_true, decide_eq_true_eq]; omega, Bool.true_and]
      exact ih (i + 1) (by omega)
theorem impl_IsText_ev (s : ByteArray) (hs : s.size ≤ 4611686018427387904) : Ev (fun k => impl_IsText.f k s) (mIsText s) := impl_IsText_l0 s hs s.size 0 (by omega)

/-! #### IsPath -/
abbrev TS := S73
abbrev ST := S71
def dt : List ByteArray → List ByteArray → Bool
  | _, [] => true
  | pre, x :: suf => !(pre.any fun y => decide (x = y)) && dt (pre ++ [x]) suf
def tOk (x : TS) : Bool := mIsName x.f0 && mIsText x.f1
def tk : List TS → List TS → Bool
  | _, [] => true
  | pre, x :: suf => !(pre.any fun y => decide (y.f0 = x.f0)) && (tOk x && tk (pre ++ [x]) suf)
def fn0 (x : TS) : ByteArray := x.f0
theorem tk_eq : ∀ (suf pre : List TS), tk pre suf = (suf.all tOk && dt (pre.map fn0) (suf.map fn0))
  | [], pre => rfl
  | x :: suf, pre => by
    have e : ((pre.map fn0).any fun y => decide (fn0 x = y)) = pre.any fun y => decide (y.f0 = x.f0) := by
      rw [List.any_map]
      congr 1
      funext y
      show decide (x.f0 = y.f0) = decide (y.f0 = x.f0)
      exact decide_eq_decide.2 eq_comm
    rw [tk, tk_eq suf (pre ++ [x]), List.map_cons, dt, List.all_cons, e, List.map_append, List.map_singleton]
    cases tOk x <;> cases suf.all tOk <;> cases (pre.any fun y => decide (y.f0 = x.f0)) <;> simp
def mStep (s : ST) : Bool := tk [] s.f1 && (mIsName s.f0 && decide (s.f1.length ≤ 3))
def pfin (a : Bool) (b : Int) (n : Nat) : Bool := (decide (0 ≤ b) && decide (b ≤ 8)) && (decide (n ≤ 10) && (if a = true then decide (b = 0) else (decide (b > 0) || decide (n > 0))))
def mPath (a : Bool) (b : Int) (l : List ST) : Bool := l.all mStep && pfin a b l.length
theorem rd_test {l : List TS} {n : Nat} {x : TS} (h : l[n]? = some x) : rd_T73 l (n : Int) = x := by
  unfold rd_T73
  rw [List.getD_eq_getElem?_getD, Int.toNat_natCast, h]; rfl
theorem sp_l2 (i : Int) (a : Bool) (b : Int) (l : List ST) (x : TS) (suf : List TS) (R : Bool) (h0 : x.f0.size ≤ 4611686018427387904) (h1 : x.f1.size ≤ 4611686018427387904) : ∀ (preB preA : List TS) (hb : (preA ++ preB ++ x :: suf).length ≤ 1048576) (HR : Ev (fun k => spec_IsPath.l1 k i (preA ++ preB ++ x :: suf) ((preA ++ preB ++ [x]).length : Int) a b l) R), Ev (fun k => spec_IsPath.l2 k i (preA ++ preB ++ x :: suf) ((preA ++ preB).length : Int) (preA.length : Int) a b l) (!(preB.any fun y => decide (y.f0 = x.f0)) && (tOk x && R))
  | [], preA, hb, HR => by
    rw [List.append_nil] at *
    have hb' := hb
    simp only [List.length_append, List.length_cons] at hb'
    have ex : rd_T73 (preA ++ x :: suf) (preA.length : Int) = x := rd_test (by simp)
    refine Ev.step (fun k => by rw [spec_IsPath.l2]) ?_
    refine ev_neg (by omega) (ev_pos (by omega) (ev_pos (by simp only [List.length_append, List.length_cons]; omega) ?_))
    rw [ex]
    simp only [List.any_nil, Bool.not_false, Bool.true_and, tOk]
    refine ev_bind _ (spec_IsName_ev _ h0) (ev_ite (fun h => ?_) (fun h => ?_))
    · rw [h, Bool.true_and]
      refine ev_bind _ (spec_IsText_ev _ h1) (ev_ite (fun h2 => ?_) (fun h2 => ?_))
      · rw [h2, Bool.true_and, next_pre preA x (by omega)]
        exact HR
      · rw [Bool.eq_false_iff.mpr h2, Bool.false_and]
        exact ev_const rfl
    · rw [Bool.eq_false_iff.mpr h, Bool.false_and, Bool.false_and]
      exact ev_const rfl
  | y :: preB, preA, hb, HR => by
    have hb' := hb
    simp only [List.length_append, List.length_cons] at hb'
    have ey : rd_T73 (preA ++ y :: preB ++ x :: suf) (preA.length : Int) = y := rd_test (by simp)
    have ex : rd_T73 (preA ++ y :: preB ++ x :: suf) ((preA ++ y :: preB).length : Int) = x := rd_test (by simp)
    refine Ev.step (fun k => by rw [spec_IsPath.l2]) ?_
    refine ev_pos (by simp only [List.length_append, List.length_cons]; omega) (ev_pos (by omega) (ev_pos (by simp only [List.length_append, List.length_cons]; omega) (ev_pos (by omega) (ev_pos (by simp only [List.length_append, List.length_cons]; omega) ?_))))
    rw [ey, ex, List.any_cons]
    refine ev_ite (fun h => ?_) (fun h => ?_)
    · rw [decide_eq_true (toList_eq.1 h)]
      exact ev_const rfl
    · rw [decide_eq_false (fun hh => h (toList_eq.2 hh)), Bool.false_or, next_pre preA y (by omega)]
      have e : preA ++ y :: preB = preA ++ [y] ++ preB := by simp
      rw [e] at hb HR ⊢
      exact sp_l2 i a b l x suf R h0 h1 preB (preA ++ [y]) hb HR
theorem sp_l1 (i : Int) (a : Bool) (b : Int) (l : List ST) (R : Bool) : ∀ (suf pre : List TS) (hb : (pre ++ suf).length ≤ 1048576) (hm : mu73 suf ≤ 1048576) (HR : Ev (fun k => spec_IsPath.l1 k i (pre ++ suf) ((pre ++ suf).length : Int) a b l) R), Ev (fun k => spec_IsPath.l1 k i (pre ++ suf) (pre.length : Int) a b l) (tk pre suf && R)
  | [], pre, hb, hm, HR => by
    rw [List.append_nil] at *
    rw [tk, Bool.true_and]
    exact HR
  | x :: suf, pre, hb, hm, HR => by
    have hb' := hb
    simp only [List.length_append, List.length_cons] at hb'
    simp only [mu73, ms73] at hm
    have e : pre ++ x :: suf = pre ++ [x] ++ suf := by simp
    have z : Ev (fun k => spec_IsPath.l1 k i (pre ++ x :: suf) ((pre ++ [x]).length : Int) a b l) (tk (pre ++ [x]) suf && R) := by
      rw [e] at hb HR ⊢
      exact sp_l1 i a b l R suf (pre ++ [x]) hb (by omega) HR
    refine Ev.step (fun k => by rw [spec_IsPath.l1]) ?_
    refine ev_pos (by simp only [List.length_append, List.length_cons]; omega) ?_
    have z2 := sp_l2 i a b l x suf _ (by omega) (by omega) pre [] (by simpa using hb) (by simpa using z)
    rw [tk, Bool.and_assoc, Bool.and_assoc]
    simpa using z2
theorem sp_l0 (a : Bool) (b : Int) : ∀ (suf pre : List ST) (hb : (pre ++ suf).length ≤ 1048576) (hm : mu71 suf ≤ 1048576), Ev (fun k => spec_IsPath.l0 k (pre.length : Int) a b (pre ++ suf)) (suf.all mStep && pfin a b (pre ++ suf).length)
  | [], pre, hb, hm => by
    rw [List.append_nil] at *
    refine Ev.step (fun k => by rw [spec_IsPath.l0]) ?_
    refine ev_neg (by omega) (ev_let _ (spec_l1In_eq _ _ _) ?_)
    rw [List.all_nil, Bool.true_and]
    unfold pfin
    refine ev_ite (fun h => ?_) (fun h => ?_)
    · rw [h, Bool.true_and]
      refine ev_ite (fun h2 => ?_) (fun h2 => ?_)
      · rw [decide_eq_true (show pre.length ≤ 10 by omega), Bool.true_and]
        refine ev_ite (fun h3 => ?_) (fun h3 => ?_)
        · rw [if_pos h3]
          refine ev_ite (fun h4 => ?_) (fun h4 => ?_)
          · rw [decide_eq_true h4]; exact ev_const rfl
          · rw [decide_eq_false h4]; exact ev_const rfl
        · rw [if_neg h3]
          refine ev_ite (fun h4 => ?_) (fun h4 => ?_)
          · rw [decide_eq_true h4]; exact ev_const rfl
          · rw [decide_eq_false h4, Bool.false_or]; exact ev_const (by simp)
      · rw [decide_eq_false (show ¬ pre.length ≤ 10 by omega)]; exact ev_const rfl
    · rw [Bool.eq_false_iff.mpr h]; exact ev_const rfl
  | s :: suf, pre, hb, hm => by
    have ex : rd_T71 (pre ++ s :: suf) (pre.length : Int) = s := by unfold rd_T71; exact at_pre pre suf s _
    have hb' := hb
    simp only [List.length_append, List.length_cons] at hb'
    simp only [mu71, ms71] at hm
    have z := sp_l0 a b suf (pre ++ [s]) (by simpa using hb) (by omega)
    rw [List.append_assoc, List.singleton_append] at z
    refine Ev.step (fun k => by rw [spec_IsPath.l0]) ?_
    refine ev_pos (by simp only [List.length_append, List.length_cons]; omega) (ev_pos (by omega) ?_)
    rw [ex]
    have HR : Ev (fun k => spec_IsPath.l1 k (pre.length : Int) s.f1 (s.f1.length : Int) a b (pre ++ s :: suf)) ((mIsName s.f0 && decide (s.f1.length ≤ 3)) && (suf.all mStep && pfin a b (pre ++ s :: suf).length)) := by
      refine Ev.step (fun k => by rw [spec_IsPath.l1]) ?_
      refine ev_neg (by omega) (ev_pos (by omega) (ev_pos (by simp only [List.length_append, List.length_cons]; omega) ?_))
      rw [ex]
      refine ev_bind _ (spec_IsName_ev _ (by omega)) (ev_ite (fun h => ?_) (fun h => ?_))
      · rw [h, Bool.true_and]
        refine ev_ite (fun h2 => ?_) (fun h2 => ?_)
        · rw [decide_eq_false (by omega)]; exact ev_const rfl
        · rw [decide_eq_true (by omega), Bool.true_and, next_pre pre s (by omega)]
          exact z
      · rw [Bool.eq_false_iff.mpr h]; exact ev_const rfl
    have z2 := sp_l1 (pre.length : Int) a b (pre ++ s :: suf) _ s.f1 [] (by rw [List.nil_append]; omega) (by omega) (by rw [List.nil_append]; exact HR)
    rw [List.all_cons, mStep]
    simpa [Bool.and_assoc] using z2
theorem spec_IsPath_ev (a : Bool) (b : Int) (l : List ST) (hm : l.length + mu71 l ≤ 1048576) : Ev (fun k => spec_IsPath.f k a b l) (mPath a b l) := sp_l0 a b l [] (by rw [List.nil_append]; omega) (by omega)
/-! the program's -/
theorem rd_str {l : List ByteArray} {n : Nat} {x : ByteArray} (h : l[n]? = some x) : rdOf ByteArray.empty l (n : Int) = x := by
  unfold rdOf
  rw [List.getD_eq_getElem?_getD, Int.toNat_natCast, h]; rfl
theorem index_l0 (x : ByteArray) : ∀ (suf pre : List ByteArray) (hb : (pre ++ suf).length ≤ 1048576), ∃ r, Ev (fun k => slices_Index_string_string.l0 k (pre ++ suf) x ((pre ++ suf).length : Int) (pre.length : Int)) r ∧ decide (r ≥ 0) = suf.any fun y => decide (x = y)
  | [], pre, hb => by
    refine ⟨-1, Ev.step (fun k => by rw [slices_Index_string_string.l0]) ?_, rfl⟩
    exact ev_neg (by simp) (ev_const rfl)
  | y :: suf, pre, hb => by
    have ey : rdOf ByteArray.empty (pre ++ y :: suf) (pre.length : Int) = y := rd_str (by simp)
    have hb' := hb
    simp only [List.length_append, List.length_cons] at hb'
    by_cases h : x = y
    · refine ⟨(pre.length : Int), Ev.step (fun k => by rw [slices_Index_string_string.l0]) ?_, ?_⟩
      · refine ev_pos (by simp only [List.length_append, List.length_cons]; omega) (ev_pos (by omega) (ev_pos (by simp only [List.length_append, List.length_cons]; omega) ?_))
        rw [ey]
        exact ev_pos (toList_eq.2 h) (ev_const rfl)
      · rw [List.any_cons, decide_eq_true h, Bool.true_or, decide_eq_true (by omega)]
    · obtain ⟨r, z, hr⟩ := index_l0 x suf (pre ++ [y]) (by simpa using hb)
      rw [List.append_assoc, List.singleton_append] at z
      refine ⟨r, Ev.step (fun k => by rw [slices_Index_string_string.l0]) ?_, ?_⟩
      · refine ev_pos (by simp only [List.length_append, List.length_cons]; omega) (ev_pos (by omega) (ev_pos (by simp only [List.length_append, List.length_cons]; omega) ?_))
        rw [ey, next_pre pre y (by omega)]
        exact ev_neg (fun hh => h (toList_eq.1 hh)) z
      · rw [List.any_cons, decide_eq_false h, Bool.false_or, hr]
theorem contains_ev (l : List ByteArray) (x : ByteArray) (hb : l.length ≤ 1048576) : Ev (fun k => slices_Contains_string_string.f k l x) (l.any fun y => decide (x = y)) := by
  simp only [slices_Contains_string_string.f, slices_Index_string_string.f]
  obtain ⟨r, z, hr⟩ := index_l0 x l [] (by simpa using hb)
  refine ev_bind r z (ev_const ?_)
  rw [hr]
theorem diff_l0 : ∀ (suf pre : List ByteArray) (hb : (pre ++ suf).length ≤ 1048576), Ev (fun k => impl_differentTexts.l0 k (pre ++ suf) ((pre ++ suf).length : Int) (pre.length : Int)) (dt pre suf)
  | [], pre, hb => by
    refine Ev.step (fun k => by rw [impl_differentTexts.l0]) ?_
    exact ev_neg (by simp) (ev_const rfl)
  | x :: suf, pre, hb => by
    have ex : rdOf ByteArray.empty (pre ++ x :: suf) (pre.length : Int) = x := rd_str (by simp)
    have et : (pre ++ x :: suf).take ((pre.length : Int)).toNat = pre := by simp
    have hb' := hb
    simp only [List.length_append, List.length_cons] at hb'
    refine Ev.step (fun k => by rw [impl_differentTexts.l0]) ?_
    refine ev_pos (by simp only [List.length_append, List.length_cons]; omega) (ev_pos (by omega) (ev_pos (by simp only [List.length_append, List.length_cons]; omega) (ev_pos (by simp only [List.length_append, List.length_cons]; omega) ?_)))
    rw [ex, et]
    refine ev_bind _ (contains_ev pre x (by omega)) ?_
    rw [dt]
    refine ev_ite (fun h => ?_) (fun h => ?_)
    · rw [h]; exact ev_const rfl
    · rw [Bool.eq_false_iff.mpr h, Bool.not_false, Bool.true_and, next_pre pre x (by omega)]
      have z := diff_l0 suf (pre ++ [x]) (by simpa using hb)
      rw [List.append_assoc, List.singleton_append] at z
      exact z
theorem isStep_l0 (n : ByteArray) (w : List TS) (hw : w.length ≤ 1048576) (hn : n.size ≤ 4611686018427387904) : ∀ (suf pre : List TS) (hb : (pre ++ suf).length ≤ 1048576) (hm : mu73 suf ≤ 1048576), Ev (fun k => impl_isStep.l0 k (pre.map fn0) (pre ++ suf) ((pre ++ suf).length : Int) (pre.length : Int) n w) (suf.all tOk && ((mIsName n && decide (w.length ≤ 3)) && dt [] ((pre ++ suf).map fn0)))
  | [], pre, hb, hm => by
    refine Ev.step (fun k => by rw [impl_isStep.l0]) ?_
    rw [List.append_nil] at *
    refine ev_neg (by omega) ?_
    rw [List.all_nil, Bool.true_and]
    refine ev_bind _ (impl_IsName_ev _ hn) (ev_ite (fun h => ?_) (fun h => ?_))
    · rw [h, Bool.true_and]
      refine ev_ite (fun h2 => ?_) (fun h2 => ?_)
      · rw [decide_eq_true (by omega), Bool.true_and]
        refine ev_bind (dt [] (pre.map fn0)) ?_ (ev_const rfl)
        simp only [impl_differentTexts.f]
        exact diff_l0 (pre.map fn0) [] (by rw [List.nil_append, List.length_map]; omega)
      · rw [decide_eq_false (by omega)]; exact ev_const rfl
    · rw [Bool.eq_false_iff.mpr h]; exact ev_const rfl
  | x :: suf, pre, hb, hm => by
    have ex : rd_T73 (pre ++ x :: suf) (pre.length : Int) = x := rd_test (by simp)
    have hb' := hb
    simp only [List.length_append, List.length_cons] at hb'
    simp only [mu73, ms73] at hm
    refine Ev.step (fun k => by rw [impl_isStep.l0]) ?_
    refine ev_pos (by simp only [List.length_append, List.length_cons]; omega) (ev_pos (by omega) (ev_pos (by simp only [List.length_append, List.length_cons]; omega) ?_))
    rw [ex, List.all_cons, tOk]
    refine ev_bind _ (impl_IsName_ev _ (by omega)) (ev_ite (fun h => ?_) (fun h => ?_))
    · rw [h, Bool.true_and]
      refine ev_bind _ (impl_IsText_ev _ (by omega)) (ev_ite (fun h2 => ?_) (fun h2 => ?_))
      · rw [h2, Bool.true_and, next_pre pre x (by omega)]
        refine ev_pos (by rw [List.length_map]; omega) ?_
        have z := isStep_l0 n w hw hn suf (pre ++ [x]) (by simpa using hb) (by omega)
        rw [List.append_assoc, List.singleton_append, List.map_append] at z
        exact z
      · rw [Bool.eq_false_iff.mpr h2]; exact ev_const rfl
    · rw [Bool.eq_false_iff.mpr h]; exact ev_const rfl
theorem isStep_ev (s : ST) (hm : ms71 s ≤ 1048576) : Ev (fun k => impl_isStep.f k s.f0 s.f1) (mStep s) := by
  simp only [ms71] at hm
  have z := isStep_l0 s.f0 s.f1 (by omega) (by omega) s.f1 [] (by rw [List.nil_append]; omega) (by omega)
  have e : mStep s = (s.f1.all tOk && ((mIsName s.f0 && decide (s.f1.length ≤ 3)) && dt [] (([] ++ s.f1).map fn0))) := by
    rw [mStep, tk_eq, List.nil_append, List.map_nil]
    cases s.f1.all tOk <;> cases dt [] (s.f1.map fn0) <;> simp
  rw [e]
  exact z
theorem ip_l0 (a : Bool) (b : Int) (w : List ST) : ∀ (suf pre : List ST) (hb : (pre ++ suf).length ≤ 1048576) (hm : mu71 suf ≤ 1048576), Ev (fun k => impl_IsPath.l0 k (pre ++ suf) ((pre ++ suf).length : Int) (pre.length : Int) a b w) (suf.all mStep && pfin a b w.length)
  | [], pre, hb, hm => by
    refine Ev.step (fun k => by rw [impl_IsPath.l0]) ?_
    refine ev_neg (by simp) ?_
    rw [List.all_nil, Bool.true_and]
    unfold pfin
    refine ev_ite (fun h => ?_) (fun h => ?_)
    · rw [decide_eq_true (show 0 ≤ b by omega), Bool.true_and]
      refine ev_ite (fun h1 => ?_) (fun h1 => ?_)
      · rw [decide_eq_true h1, Bool.true_and]
        refine ev_ite (fun h3 => ?_) (fun h3 => ?_)
        · rw [if_pos h3]
          refine ev_ite (fun h4 => ?_) (fun h4 => ?_)
          · rw [decide_eq_true h4, Bool.and_true]
            refine ev_ite (fun h2 => ?_) (fun h2 => ?_)
            · rw [decide_eq_true (show w.length ≤ 10 by omega)]; exact ev_const rfl
            · rw [decide_eq_false (show ¬ w.length ≤ 10 by omega)]; exact ev_const rfl
          · rw [decide_eq_false h4, Bool.and_false]; exact ev_const rfl
        · rw [if_neg h3]
          refine ev_ite (fun h2 => ?_) (fun h2 => ?_)
          · rw [decide_eq_true (show w.length ≤ 10 by omega), Bool.true_and]
            refine ev_ite (fun h4 => ?_) (fun h4 => ?_)
            · rw [decide_eq_true h4]; exact ev_const rfl
            · rw [decide_eq_false h4, Bool.false_or]; exact ev_const (by simp)
          · rw [decide_eq_false (show ¬ w.length ≤ 10 by omega)]; exact ev_const rfl
      · rw [decide_eq_false h1]; exact ev_const rfl
    · rw [decide_eq_false (show ¬ 0 ≤ b by omega)]; exact ev_const rfl
  | s :: suf, pre, hb, hm => by
    have ex : rd_T71 (pre ++ s :: suf) (pre.length : Int) = s := by unfold rd_T71; exact at_pre pre suf s _
    have hb' := hb
    simp only [List.length_append, List.length_cons] at hb'
    rw [mu71] at hm
    refine Ev.step (fun k => by rw [impl_IsPath.l0]) ?_
    refine ev_pos (by simp only [List.length_append, List.length_cons]; omega) (ev_pos (by omega) (ev_pos (by simp only [List.length_append, List.length_cons]; omega) ?_))
    rw [ex, List.all_cons]
    refine ev_bind _ (isStep_ev s (by omega)) (ev_ite (fun h => ?_) (fun h => ?_))
    · rw [h, Bool.true_and, next_pre pre s (by omega)]
      have z := ip_l0 a b w suf (pre ++ [s]) (by simpa using hb) (by omega)
      rw [List.append_assoc, List.singleton_append] at z
      exact z
    · rw [Bool.eq_false_iff.mpr h]; exact ev_const rfl
theorem impl_IsPath_ev (a : Bool) (b : Int) (l : List ST) (hm : l.length + mu71 l ≤ 1048576) : Ev (fun k => impl_IsPath.f k a b l) (mPath a b l) := ip_l0 a b l l [] (by rw [List.nil_append]; omega) (by omega)

theorem FnExactIsPath : laws_FnExactIsPath.Pure := by
  rintro ⟨a, b, c⟩ ⟨_, _, g⟩
  refine Ev.rounds ?_
  show Ev (fun k => laws_FnExactIsPath.f k a b c) true
  simp only [laws_FnExactIsPath.f]
  refine sz_guard (szPath_ok a b c 1048576 g (by omega) (by omega)) (fun z hz ez => ?_)
  have hc : (cvl105 c).length + mu71 (cvl105 c) ≤ 1048576 := by rw [cvl105_length, mucv105]; omega
  refine ev_bind _ (toPath_ev a b c (by omega)) (ev_bind _ (spec_IsPath_ev _ _ _ hc) ?_)
  refine ev_bind _ (toPath_ev a b c (by omega)) (ev_bind _ (impl_IsPath_ev _ _ _ hc) ?_)
  refine ev_neg (by simp) ?_
  refine ev_bind _ (toPath_ev a b c (by omega)) (ev_bind _ (eqPath_ev a b (cvl105 c) (by omega)) ?_)
  exact ev_pos rfl (ev_const rfl)

end Go.Proofs.Ytmkhoakhfdjplaa.Pure.LFnExactIsPath
namespace Go.Proofs.Ytmkhoakhfdjplaa.Pure
theorem FnExactIsPath : PFnExactIsPath.laws_FnExactIsPath.Pure := LFnExactIsPath.FnExactIsPath
end Go.Proofs.Ytmkhoakhfdjplaa.Pure
