/- For every path, the program's FormatPath returns what the reference's FormatPath returns. -/
import Derived.Test.YtmkhoakhfdjplaaPFnExactFormatPathx0
import Derived.Test.YtmkhoakhfdjplaaPFnExactFormatPathx1
import Derived.Test.YtmkhoakhfdjplaaPFnExactFormatPathx2
import Derived.Test.YtmkhoakhfdjplaaPFnExactFormatPathx3
import Derived.Test.YtmkhoakhfdjplaaPFnExactFormatPathx4
import Derived.Test.YtmkhoakhfdjplaaPFnExactFormatPathx5
import Derived.Test.YtmkhoakhfdjplaaPFnExactFormatPathx6
import Derived.Test.YtmkhoakhfdjplaaPFnExactFormatPathx7
import Derived.Test.YtmkhoakhfdjplaaPFnExactFormatPathx8
import Derived.Test.YtmkhoakhfdjplaaPFnExactFormatPathx9
import Derived.Test.YtmkhoakhfdjplaaQFnExactFormatPath
import Derived.Test.YtmkhoakhfdjplaaBase
import Derived.Lib.Join
namespace Go.Proofs.Ytmkhoakhfdjplaa.Pure.LFnExactFormatPath
open Go.RowKit Go.Proofs.Ytmkhoakhfdjplaa.PFnExactFormatPath Go.Proofs.YtmkhoakhfdjplaaW.PrintWords Go.Proofs.YtmkhoakhfdjplaaW.PrintLast Go.Proofs.YtmkhoakhfdjplaaW.PrintMore Go.Proofs.Ytmkhoakhfdjplaa.Base
set_option linter.unusedVariables false
set_option linter.unusedSimpArgs false

/-! #### the law's own helpers -/
def mustr : List ByteArray → Nat
  | [] => 0
  | x :: l => x.size + mustr l
theorem mustr_mem {l : List ByteArray} {x : ByteArray} (h : x ∈ l) : x.size ≤ mustr l := by
  induction l with
  | nil => cases h
  | cons y l ih =>
    simp only [mustr]
    rcases List.mem_cons.1 h with rfl | h
    · omega
    · have := ih h; omega
theorem mustr_append (l l' : List ByteArray) : mustr (l ++ l') = mustr l + mustr l' := by
  induction l with
  | nil => simp [mustr]
  | cons x l ih => simp only [List.cons_append, mustr, ih]; omega
def ms149 (x : S149) : Nat := (x.f0.size + (x.f1.size + 0))
def mu149 : List S149 → Nat
  | [] => 0
  | x :: l => ms149 x + mu149 l
theorem mu149_append (l l' : List S149) : mu149 (l ++ l') = mu149 l + mu149 l' := by
  induction l with
  | nil => simp [mu149]
  | cons x l ih => simp only [List.cons_append, mu149, ih]; omega
theorem mu149_mem {l : List S149} {x : S149} (h : x ∈ l) : ms149 x ≤ mu149 l := by
  induction l with
  | nil => cases h
  | cons y l ih =>
    simp only [mu149]
    rcases List.mem_cons.1 h with rfl | h
    · omega
    · have := ih h; omega
def ms105 (x : S105) : Nat := (x.f0.size + ((x.f1.length + mu149 x.f1) + 0))
def mu105 : List S105 → Nat
  | [] => 0
  | x :: l => ms105 x + mu105 l
theorem mu105_append (l l' : List S105) : mu105 (l ++ l') = mu105 l + mu105 l' := by
  induction l with
  | nil => simp [mu105]
  | cons x l ih => simp only [List.cons_append, mu105, ih]; omega
theorem mu105_mem {l : List S105} {x : S105} (h : x ∈ l) : ms105 x ≤ mu105 l := by
  induction l with
  | nil => cases h
  | cons y l ih =>
    simp only [mu105]
    rcases List.mem_cons.1 h with rfl | h
    · omega
    · have := ih h; omega
def ms73 (x : S73) : Nat := (x.f0.size + (x.f1.size + 0))
def mu73 : List S73 → Nat
  | [] => 0
  | x :: l => ms73 x + mu73 l
theorem mu73_append (l l' : List S73) : mu73 (l ++ l') = mu73 l + mu73 l' := by
  induction l with
  | nil => simp [mu73]
  | cons x l ih => simp only [List.cons_append, mu73, ih]; omega
theorem mu73_mem {l : List S73} {x : S73} (h : x ∈ l) : ms73 x ≤ mu73 l := by
  induction l with
  | nil => cases h
  | cons y l ih =>
    simp only [mu73]
    rcases List.mem_cons.1 h with rfl | h
    · omega
    · have := ih h; omega
def ms71 (x : S71) : Nat := (x.f0.size + ((x.f1.length + mu73 x.f1) + 0))
def mu71 : List S71 → Nat
  | [] => 0
  | x :: l => ms71 x + mu71 l
theorem mu71_append (l l' : List S71) : mu71 (l ++ l') = mu71 l + mu71 l' := by
  induction l with
  | nil => simp [mu71]
  | cons x l ih => simp only [List.cons_append, mu71, ih]; omega
theorem mu71_mem {l : List S71} {x : S71} (h : x ∈ l) : ms71 x ≤ mu71 l := by
  induction l with
  | nil => cases h
  | cons y l ih =>
    simp only [mu71]
    rcases List.mem_cons.1 h with rfl | h
    · omega
    · have := ih h; omega
theorem szTest_ok (v0 : ByteArray) (v1 : ByteArray) (left : Int) (g0 : v0.size ≤ maxLen) (g1 : v1.size ≤ maxLen) (h0 : 0 ≤ left) (h1 : left ≤ 1048576) : SzOk (fun k => laws_szTest.f v0 v1 left) left (v0.size + (v1.size + 0)) := by
  simp only [laws_szTest.f]
  have e : wrap64 (left - (v0.size : Int)) = left - (v0.size : Int) := w64 (by have := g0; unfold maxLen at this; omega) (by omega)
  simp only [e]; clear e
  refine sz_len ?_; intro q
  generalize ec : left - (v0.size : Int) = c0 at q ⊢
  have q' : c0 ≤ 1048576 := by omega
  have e : wrap64 (c0 - (v1.size : Int)) = c0 - (v1.size : Int) := w64 (by have := g1; unfold maxLen at this; omega) (by omega)
  simp only [e]; clear e
  refine sz_len ?_; intro q
  generalize ec : c0 - (v1.size : Int) = c1 at q ⊢
  have q' : c1 ≤ 1048576 := by omega
  exact sz_ret _ (by assumption)
theorem szTestS_l0 : ∀ (suf pre : List S149) (left : Int) (hb : (pre ++ suf).length ≤ maxLen) (g : ∀ y ∈ suf, G149 y) (h0 : 0 ≤ left) (h1 : left ≤ 1048576), SzOk (fun k => laws_szTestS.l0 k (pre ++ suf) left (pre.length : Int)) left (mu149 suf)
  | [], pre, left, hb, g, h0, h1 => by
    refine sz_step (fun k => by rw [laws_szTestS.l0]) ?_
    refine sz_neg (by simp) ?_
    exact sz_ret _ h0
  | x :: suf, pre, left, hb, g, h0, h1 => by
    have gx := g x List.mem_cons_self
    have ex : rd_T149 (pre ++ x :: suf) (pre.length : Int) = x := by unfold rd_T149; exact at_pre pre suf x _
    refine sz_step (fun k => by rw [laws_szTestS.l0]) ?_
    refine sz_pos (by simp only [List.length_append, List.length_cons]; omega) (sz_pos (by omega) ?_)
    rw [ex]
    rw [mu149]
    obtain ⟨gx0, gx1⟩ := gx
    refine sz_call (szTest_ok _ _ left gx0 gx1 (by assumption) (by omega)) ?_; intro c0 q ec
    have q' : c0 ≤ 1048576 := by omega
    rw [next_pre pre x (by have := hb; simp only [List.length_append, List.length_cons] at this; unfold maxLen at this; omega)]
    have z := szTestS_l0 suf (pre ++ [x]) c0 (by simpa using hb) (fun y hy => g y (List.mem_cons_of_mem _ hy)) (by assumption) (by omega)
    rw [List.append_assoc] at z
    exact z
theorem szTestS_ok (l : List S149) (left : Int) (g : l.length ≤ maxLen ∧ ∀ y ∈ l, G149 y) (h0 : 0 ≤ left) (h1 : left ≤ 1048576) : SzOk (fun k => laws_szTestS.f k l left) left (l.length + mu149 l) := by
  simp only [laws_szTestS.f]
  have e : wrap64 (left - (l.length : Int)) = left - (l.length : Int) := w64 (by have := g.1; unfold maxLen at this; omega) (by omega)
  simp only [e]; clear e
  refine sz_len ?_; intro q
  generalize ec : left - (l.length : Int) = c0 at q ⊢
  have q' : c0 ≤ 1048576 := by omega
  exact szTestS_l0 l [] c0 (by simpa using g.1) g.2 (by assumption) (by assumption)
theorem szStep_ok (v0 : ByteArray) (v1 : List S149) (left : Int) (g0 : v0.size ≤ maxLen) (g1 : v1.length ≤ maxLen ∧ ∀ y ∈ v1, G149 y) (h0 : 0 ≤ left) (h1 : left ≤ 1048576) : SzOk (fun k => laws_szStep.f k v0 v1 left) left (v0.size + ((v1.length + mu149 v1) + 0)) := by
  simp only [laws_szStep.f]
  have e : wrap64 (left - (v0.size : Int)) = left - (v0.size : Int) := w64 (by have := g0; unfold maxLen at this; omega) (by omega)
  simp only [e]; clear e
  refine sz_len ?_; intro q
  generalize ec : left - (v0.size : Int) = c0 at q ⊢
  have q' : c0 ≤ 1048576 := by omega
  refine sz_call (szTestS_ok _ _ g1 (by assumption) (by omega)) ?_; intro c1 q ec
  have q' : c1 ≤ 1048576 := by omega
  exact sz_ret _ (by assumption)
theorem szStepS_l0 : ∀ (suf pre : List S105) (left : Int) (hb : (pre ++ suf).length ≤ maxLen) (g : ∀ y ∈ suf, G105 y) (h0 : 0 ≤ left) (h1 : left ≤ 1048576), SzOk (fun k => laws_szStepS.l0 k (pre ++ suf) left (pre.length : Int)) left (mu105 suf)
  | [], pre, left, hb, g, h0, h1 => by
    refine sz_step (fun k => by rw [laws_szStepS.l0]) ?_
    refine sz_neg (by simp) ?_
    exact sz_ret _ h0
  | x :: suf, pre, left, hb, g, h0, h1 => by
    have gx := g x List.mem_cons_self
    have ex : rd_T105 (pre ++ x :: suf) (pre.length : Int) = x := by unfold rd_T105; exact at_pre pre suf x _
    refine sz_step (fun k => by rw [laws_szStepS.l0]) ?_
    refine sz_pos (by simp only [List.length_append, List.length_cons]; omega) (sz_pos (by omega) ?_)
    rw [ex]
    rw [mu105]
    obtain ⟨gx0, gx1⟩ := gx
    refine sz_call (szStep_ok _ _ left gx0 gx1 (by assumption) (by omega)) ?_; intro c0 q ec
    have q' : c0 ≤ 1048576 := by omega
    rw [next_pre pre x (by have := hb; simp only [List.length_append, List.length_cons] at this; unfold maxLen at this; omega)]
    have z := szStepS_l0 suf (pre ++ [x]) c0 (by simpa using hb) (fun y hy => g y (List.mem_cons_of_mem _ hy)) (by assumption) (by omega)
    rw [List.append_assoc] at z
    exact z
theorem szStepS_ok (l : List S105) (left : Int) (g : l.length ≤ maxLen ∧ ∀ y ∈ l, G105 y) (h0 : 0 ≤ left) (h1 : left ≤ 1048576) : SzOk (fun k => laws_szStepS.f k l left) left (l.length + mu105 l) := by
  simp only [laws_szStepS.f]
  have e : wrap64 (left - (l.length : Int)) = left - (l.length : Int) := w64 (by have := g.1; unfold maxLen at this; omega) (by omega)
  simp only [e]; clear e
  refine sz_len ?_; intro q
  generalize ec : left - (l.length : Int) = c0 at q ⊢
  have q' : c0 ≤ 1048576 := by omega
  exact szStepS_l0 l [] c0 (by simpa using g.1) g.2 (by assumption) (by assumption)
theorem szPath_ok (v0 : Bool) (v1 : Int) (v2 : List S105) (left : Int) (g2 : v2.length ≤ maxLen ∧ ∀ y ∈ v2, G105 y) (h0 : 0 ≤ left) (h1 : left ≤ 1048576) : SzOk (fun k => laws_szPath.f k v0 v1 v2 left) left ((v2.length + mu105 v2) + 0) := by
  simp only [laws_szPath.f]
  refine sz_call (szStepS_ok _ _ g2 (by assumption) (by omega)) ?_; intro c0 q ec
  have q' : c0 ≤ 1048576 := by omega
  exact sz_ret _ (by assumption)
def cv149 (x : S149) : S73 := ⟨x.f0, x.f1⟩
def cvl149 : List S149 → List S73
  | [] => []
  | x :: l => cv149 x :: cvl149 l
theorem cvl149_length (l : List S149) : (cvl149 l).length = l.length := by
  induction l with
  | nil => rfl
  | cons x l ih => simp only [cvl149, List.length_cons, ih]
theorem cvl149_append (l l' : List S149) : cvl149 (l ++ l') = cvl149 l ++ cvl149 l' := by
  induction l with
  | nil => rfl
  | cons x l ih => simp only [List.cons_append, cvl149, ih]
theorem cvl149_map (l : List S149) : cvl149 l = l.map cv149 := by
  induction l with
  | nil => rfl
  | cons x l ih => simp only [List.map_cons, cvl149, ih]
theorem mscv149 (x : S149) : ms73 (cv149 x) = ms149 x := by
  simp only [cv149, ms73, ms149]
theorem mucv149 (l : List S149) : mu73 (cvl149 l) = mu149 l := by
  induction l with
  | nil => rfl
  | cons x l ih => simp only [cvl149, mu73, mu149, mscv149, ih]
def cv105 (x : S105) : S71 := ⟨x.f0, (cvl149 x.f1)⟩
def cvl105 : List S105 → List S71
  | [] => []
  | x :: l => cv105 x :: cvl105 l
theorem cvl105_length (l : List S105) : (cvl105 l).length = l.length := by
  induction l with
  | nil => rfl
  | cons x l ih => simp only [cvl105, List.length_cons, ih]
theorem cvl105_append (l l' : List S105) : cvl105 (l ++ l') = cvl105 l ++ cvl105 l' := by
  induction l with
  | nil => rfl
  | cons x l ih => simp only [List.cons_append, cvl105, ih]
theorem cvl105_map (l : List S105) : cvl105 l = l.map cv105 := by
  induction l with
  | nil => rfl
  | cons x l ih => simp only [List.map_cons, cvl105, ih]
theorem mscv105 (x : S105) : ms71 (cv105 x) = ms105 x := by
  simp only [cv105, ms71, ms105, cvl149_length, mucv149]
theorem mucv105 (l : List S105) : mu71 (cvl105 l) = mu105 l := by
  induction l with
  | nil => rfl
  | cons x l ih => simp only [cvl105, mu71, mu105, mscv105, ih]
theorem toTest_ev (v0 : ByteArray) (v1 : ByteArray) (hm : (v0.size + (v1.size + 0)) ≤ 1048576) : Ev (fun k => laws_toTest.f v0 v1) (v0, v1) := by
  simp only [laws_toTest.f]
  exact ev_const rfl
theorem toTestS_l0 : ∀ (suf pre : List S149) (hb : (pre ++ suf).length ≤ 1048576) (hm : mu149 suf ≤ 1048576), Ev (fun k => laws_toTestS.l0 k (pre ++ suf) ((cvl149 pre) ++ List.replicate suf.length z73) (pre.length : Int)) (cvl149 (pre ++ suf))
  | [], pre, hb, hm => by
    refine Ev.step (fun k => by rw [laws_toTestS.l0]) ?_
    refine ev_neg (by simp) (ev_const ?_)
    simp
  | x :: suf, pre, hb, hm => by
    have ex : rd_T149 (pre ++ x :: suf) (pre.length : Int) = x := by unfold rd_T149; exact at_pre pre suf x _
    have hb' := hb
    simp only [List.length_append, List.length_cons] at hb'
    rw [mu149] at hm
    refine Ev.step (fun k => by rw [laws_toTestS.l0]) ?_
    refine ev_pos (by simp only [List.length_append, List.length_cons]; omega) (ev_pos (by omega) ?_)
    rw [ex]
    refine ev_bind _ (toTest_ev _ _ (by first | (simp only [ms149] at hm; omega) | omega)) ?_
    refine ev_pos (by simp only [List.length_append, cvl149_length, List.length_replicate, List.length_cons]; omega) ?_
    have es : (cvl149 pre ++ List.replicate (x :: suf).length z73).set ((pre.length : Int)).toNat (cv149 x) = cvl149 (pre ++ [x]) ++ List.replicate suf.length z73 := by
      have h2 := set_pre (cvl149 pre) (List.replicate suf.length z73) z73 (cv149 x)
      rw [cvl149_length] at h2
      rw [List.length_cons, List.replicate_succ, h2, cvl149_append]; rfl
    rw [next_pre pre x (by omega)]
    have z := toTestS_l0 suf (pre ++ [x]) (by simpa using hb) (by omega)
    rw [List.append_assoc] at z
    rw [← es] at z
    have e2 : (⟨(cv149 x).f0, (cv149 x).f1⟩ : S73) = cv149 x := by rfl
    show Ev (fun k => laws_toTestS.l0 k (pre ++ x :: suf) ((cvl149 pre ++ List.replicate (x :: suf).length z73).set ((pre.length : Int)).toNat (⟨(cv149 x).f0, (cv149 x).f1⟩ : S73)) ((pre ++ [x]).length : Int)) (cvl149 (pre ++ x :: suf))
    rw [e2]
    exact z
theorem toTestS_ev (l : List S149) (hm : (l.length + mu149 l) ≤ 1048576) : Ev (fun k => laws_toTestS.f k l) (cvl149 l) := by
  simp only [laws_toTestS.f]
  have hl : l.length ≤ 1048576 := by omega
  refine ev_pos (by omega) (ev_pos (by omega) ?_)
  have z := toTestS_l0 l [] (by simpa using hl) (by omega)
  simpa [cvl149] using z
theorem toStep_ev (v0 : ByteArray) (v1 : List S149) (hm : (v0.size + ((v1.length + mu149 v1) + 0)) ≤ 1048576) : Ev (fun k => laws_toStep.f k v0 v1) (v0, (cvl149 v1)) := by
  simp only [laws_toStep.f]
  refine ev_bind _ (toTestS_ev _ (by omega)) ?_
  exact ev_const rfl
theorem toStepS_l0 : ∀ (suf pre : List S105) (hb : (pre ++ suf).length ≤ 1048576) (hm : mu105 suf ≤ 1048576), Ev (fun k => laws_toStepS.l0 k (pre ++ suf) ((cvl105 pre) ++ List.replicate suf.length z71) (pre.length : Int)) (cvl105 (pre ++ suf))
  | [], pre, hb, hm => by
    refine Ev.step (fun k => by rw [laws_toStepS.l0]) ?_
    refine ev_neg (by simp) (ev_const ?_)
    simp
  | x :: suf, pre, hb, hm => by
    have ex : rd_T105 (pre ++ x :: suf) (pre.length : Int) = x := by unfold rd_T105; exact at_pre pre suf x _
    have hb' := hb
    simp only [List.length_append, List.length_cons] at hb'
    rw [mu105] at hm
    refine Ev.step (fun k => by rw [laws_toStepS.l0]) ?_
    refine ev_pos (by simp only [List.length_append, List.length_cons]; omega) (ev_pos (by omega) ?_)
    rw [ex]
    refine ev_bind _ (toStep_ev _ _ (by first | (simp only [ms105] at hm; omega) | omega)) ?_
    refine ev_pos (by simp only [List.length_append, cvl105_length, List.length_replicate, List.length_cons]; omega) ?_
    have es : (cvl105 pre ++ List.replicate (x :: suf).length z71).set ((pre.length : Int)).toNat (cv105 x) = cvl105 (pre ++ [x]) ++ List.replicate suf.length z71 := by
      have h2 := set_pre (cvl105 pre) (List.replicate suf.length z71) z71 (cv105 x)
      rw [cvl105_length] at h2
      rw [List.length_cons, List.replicate_succ, h2, cvl105_append]; rfl
    rw [next_pre pre x (by omega)]
    have z := toStepS_l0 suf (pre ++ [x]) (by simpa using hb) (by omega)
    rw [List.append_assoc] at z
    rw [← es] at z
    have e2 : (⟨(cv105 x).f0, (cv105 x).f1⟩ : S71) = cv105 x := by rfl
    show Ev (fun k => laws_toStepS.l0 k (pre ++ x :: suf) ((cvl105 pre ++ List.replicate (x :: suf).length z71).set ((pre.length : Int)).toNat (⟨(cv105 x).f0, (cv105 x).f1⟩ : S71)) ((pre ++ [x]).length : Int)) (cvl105 (pre ++ x :: suf))
    rw [e2]
    exact z
theorem toStepS_ev (l : List S105) (hm : (l.length + mu105 l) ≤ 1048576) : Ev (fun k => laws_toStepS.f k l) (cvl105 l) := by
  simp only [laws_toStepS.f]
  have hl : l.length ≤ 1048576 := by omega
  refine ev_pos (by omega) (ev_pos (by omega) ?_)
  have z := toStepS_l0 l [] (by simpa using hl) (by omega)
  simpa [cvl105] using z
theorem toPath_ev (v0 : Bool) (v1 : Int) (v2 : List S105) (hm : ((v2.length + mu105 v2) + 0) ≤ 1048576) : Ev (fun k => laws_toPath.f k v0 v1 v2) (v0, v1, (cvl105 v2)) := by
  simp only [laws_toPath.f]
  refine ev_bind _ (toStepS_ev _ (by omega)) ?_
  exact ev_const rfl
theorem eqTest_ev (v0 : ByteArray) (v1 : ByteArray) (hm : (v0.size + (v1.size + 0)) ≤ 4611686018427387904) : Ev (fun k => laws_eqTest.f v0 v1 v0 v1) true := by
  simp only [laws_eqTest.f]
  refine ev_pos (by simp) ?_
  refine ev_pos (by simp) ?_
  exact ev_const rfl
theorem eqTestS_l0 : ∀ (suf pre : List S73) (hb : (pre ++ suf).length ≤ 4611686018427387904) (hm : mu73 suf ≤ 4611686018427387904), Ev (fun k => laws_eqTestS.l0 k (pre ++ suf) (pre ++ suf) (pre.length : Int)) true
  | [], pre, hb, hm => by
    refine Ev.step (fun k => by rw [laws_eqTestS.l0]) ?_
    exact ev_neg (by simp) (ev_const rfl)
  | x :: suf, pre, hb, hm => by
    have ex : rd_T73 (pre ++ x :: suf) (pre.length : Int) = x := by unfold rd_T73; exact at_pre pre suf x _
    have hb' := hb
    simp only [List.length_append, List.length_cons] at hb'
    rw [mu73] at hm
    refine Ev.step (fun k => by rw [laws_eqTestS.l0]) ?_
    refine ev_pos (by simp only [List.length_append, List.length_cons]; omega) (ev_pos (by omega) (ev_pos (by simp only [List.length_append, List.length_cons]; omega) ?_))
    rw [ex]
    refine ev_bind _ (eqTest_ev _ _ (by first | (simp only [ms73] at hm; omega) | omega)) (ev_pos (by simp) ?_)
    rw [next_pre pre x (by omega)]
    have z := eqTestS_l0 suf (pre ++ [x]) (by simpa using hb) (by omega)
    rw [List.append_assoc] at z
    exact z
theorem eqTestS_ev (l : List S73) (hm : (l.length + mu73 l) ≤ 4611686018427387904) : Ev (fun k => laws_eqTestS.f k l l) true := by
  simp only [laws_eqTestS.f]
  refine ev_pos (by simp) ?_
  exact eqTestS_l0 l [] (by rw [List.nil_append]; omega) (by omega)
theorem eqStep_ev (v0 : ByteArray) (v1 : List S73) (hm : (v0.size + ((v1.length + mu73 v1) + 0)) ≤ 4611686018427387904) : Ev (fun k => laws_eqStep.f k v0 v1 v0 v1) true := by
  simp only [laws_eqStep.f]
  refine ev_pos (by simp) ?_
  refine ev_bind _ (eqTestS_ev _ (by omega)) (ev_pos (by simp) ?_)
  exact ev_const rfl
theorem eqStepS_l0 : ∀ (suf pre : List S71) (hb : (pre ++ suf).length ≤ 4611686018427387904) (hm : mu71 suf ≤ 4611686018427387904), Ev (fun k => laws_eqStepS.l0 k (pre ++ suf) (pre ++ suf) (pre.length : Int)) true
  | [], pre, hb, hm => by
    refine Ev.step (fun k => by rw [laws_eqStepS.l0]) ?_
    exact ev_neg (by simp) (ev_const rfl)
  | x :: suf, pre, hb, hm => by
    have ex : rd_T71 (pre ++ x :: suf) (pre.length : Int) = x := by unfold rd_T71; exact at_pre pre suf x _
    have hb' := hb
    simp only [List.length_append, List.length_cons] at hb'
    rw [mu71] at hm
    refine Ev.step (fun k => by rw [laws_eqStepS.l0]) ?_
    refine ev_pos (by simp only [List.length_append, List.length_cons]; omega) (ev_pos (by omega) (ev_pos (by simp only [List.length_append, List.length_cons]; omega) ?_))
    rw [ex]
    refine ev_bind _ (eqStep_ev _ _ (by first | (simp only [ms71] at hm; omega) | omega)) (ev_pos (by simp) ?_)
    rw [next_pre pre x (by omega)]
    have z := eqStepS_l0 suf (pre ++ [x]) (by simpa using hb) (by omega)
    rw [List.append_assoc] at z
    exact z
theorem eqStepS_ev (l : List S71) (hm : (l.length + mu71 l) ≤ 4611686018427387904) : Ev (fun k => laws_eqStepS.f k l l) true := by
  simp only [laws_eqStepS.f]
  refine ev_pos (by simp) ?_
  exact eqStepS_l0 l [] (by rw [List.nil_append]; omega) (by omega)
theorem eqPath_ev (v0 : Bool) (v1 : Int) (v2 : List S71) (hm : ((v2.length + mu71 v2) + 0) ≤ 4611686018427387904) : Ev (fun k => laws_eqPath.f k v0 v1 v2 v0 v1 v2) true := by
  simp only [laws_eqPath.f]
  refine ev_neg (by simp) ?_
  refine ev_pos (by simp) ?_
  refine ev_bind _ (eqStepS_ev _ (by omega)) (ev_pos (by simp) ?_)
  exact ev_const rfl

/-! #### l1In -/
theorem spec_l1In_eq (a b c : Int) : spec_l1In.f a b c = some (decide (b ≤ a) && decide (a ≤ c)) := by
  unfold spec_l1In.f
  by_cases h : a ≥ b
  · rw [if_pos h, decide_eq_true h, Bool.true_and]
  · rw [if_neg h, decide_eq_false h, Bool.false_and]

/-! #### mName -/
def lowerB (c : Int) : Bool := decide (97 ≤ c) && decide (c ≤ 122)
def digitB (c : Int) : Bool := decide (48 ≤ c) && decide (c ≤ 57)
def nameB (c : Int) : Bool := lowerB c || (digitB c || decide (c = 45))
def lastOk (s : ByteArray) : Bool := decide ((bts s).getD (s.size - 1) 0 ≠ 45)
def mIsName (s : ByteArray) : Bool :=
  match bts s with
  | [] => false
  | c :: l => (lowerB c && l.all nameB) && (decide (s.size ≤ 16) && lastOk s)

/-! #### spec_IsName -/
theorem spec_IsName_l0 (s : ByteArray) (hs : s.size ≤ 4611686018427387904) : ∀ (n i : Nat), 1 ≤ i → i + n = s.size → Ev (fun k => spec_IsName.l0 k s i) (((bts s).drop i).all nameB && (decide (s.size ≤ 16) && lastOk s)) := by
  intro n
  induction n with
  | zero =>
    intro i h1 hi
    refine Ev.step (fun k => by rw [spec_IsName.l0]) ?_
    refine ev_neg (by omega) ?_
    rw [List.drop_eq_nil_of_le (by rw [bts_length]; omega), List.all_nil, Bool.true_and]
    refine ev_let _ (spec_l1In_eq _ _ _) ?_
    have e : wrap64 ((s.size : Int) - 1) = ((s.size - 1 : Nat) : Int) := by rw [w64 (by omega) (by omega)]; omega
    rw [e]
    refine ev_ite (fun h => ?_) (fun h => ?_)
    · refine ev_pos (by omega) (ev_pos (by omega) (ev_const ?_))
      simp only [Bool.and_eq_true, decide_eq_true_eq] at h
      rw [decide_eq_true (by omega), Bool.true_and, bt_eq, lastOk, Int.toNat_natCast]
      congr 1
      simp [bne, BEq.beq]
    · refine ev_const ?_
      simp only [Bool.and_eq_true, decide_eq_true_eq] at h
      rw [decide_eq_false (by omega), Bool.false_and]
  | succ n ih =>
    intro i h1 hi
    have hb := bt_range s i
    have e1 : wrap64 (bt s i) = bt s i := w64 (by omega) (by omega)
    have e2 : wrap64 ((i : Int) + 1) = ((i + 1 : Nat) : Int) := by rw [w64 (by omega) (by omega)]; omega
    refine Ev.step (fun k => by rw [spec_IsName.l0]) ?_
    refine ev_pos (by omega) (ev_pos (by omega) ?_)
    refine ev_let _ (spec_l1In_eq _ _ _) ?_
    rw [e1, e2, drop_cons (z := 0) (by rw [bts_length]; omega), List.all_cons, ← Int.toNat_natCast i, ← bt_eq, Int.toNat_natCast]
    have z := ih (i + 1) (by omega) (by omega)
    refine ev_ite (fun h => ?_) (fun h => ?_)
    · rw [show nameB (bt s i) = true from by rw [nameB, lowerB, h, Bool.true_or], Bool.true_and]
      exact z
    · have h' := Bool.eq_false_iff.mpr h
      refine ev_neg (by omega) (ev_let _ (spec_l1In_eq _ _ _) ?_)
      refine ev_ite (fun h2 => ?_) (fun h2 => ?_)
      · rw [show nameB (bt s i) = true from by rw [nameB, digitB, h2, Bool.true_or, Bool.or_true], Bool.true_and]
        exact z
      · have h2' := Bool.eq_false_iff.mpr h2
        refine ev_ite (fun h3 => ?_) (fun h3 => ?_)
        · rw [show nameB (bt s i) = true from by rw [nameB, decide_eq_true h3, Bool.or_true, Bool.or_true], Bool.true_and]
          exact z
        · rw [show nameB (bt s i) = false from by rw [nameB, lowerB, digitB, h', h2', decide_eq_false h3]; rfl, Bool.false_and, Bool.false_and]
          exact ev_const rfl
theorem spec_IsName_ev (s : ByteArray) (hs : s.size ≤ 4611686018427387904) : Ev (fun k => spec_IsName.f k s) (mIsName s) := by
  show Ev (fun k => spec_IsName.l0 k s 0) _
  have hl := bts_length s
  have hb := bt_range s 0
  refine Ev.step (fun k => by rw [spec_IsName.l0]) ?_
  unfold mIsName
  cases hc : bts s with
  | nil =>
    rw [hc] at hl
    simp only [List.length_nil] at hl
    refine ev_neg (by omega) (ev_let _ (spec_l1In_eq _ _ _) ?_)
    exact ev_neg (by simp; omega) (ev_const rfl)
  | cons c l =>
    rw [hc] at hl
    simp only [List.length_cons] at hl
    show Ev _ ((lowerB c && l.all nameB) && (decide (s.size ≤ 16) && lastOk s))
    have ec : bt s 0 = c := by rw [bt_eq, hc]; rfl
    have hd : (bts s).drop 1 = l := by rw [hc]; rfl
    have e1 : wrap64 (bt s 0) = c := by rw [w64 (by omega) (by omega), ec]
    have e2 : wrap64 ((0 : Int) + 1) = ((1 : Nat) : Int) := by rw [w64 (by omega) (by omega)]; rfl
    refine ev_pos (by omega) (ev_pos (by omega) ?_)
    refine ev_let _ (spec_l1In_eq _ _ _) ?_
    rw [e1, e2]
    refine ev_ite (fun h => ?_) (fun h => ?_)
    · rw [show lowerB c = true from h, Bool.true_and]
      have z := spec_IsName_l0 s hs (s.size - 1) 1 (by omega) (by omega)
      rw [hd] at z
      exact z
    · rw [show lowerB c = false from Bool.eq_false_iff.mpr h, Bool.false_and, Bool.false_and]
      exact ev_pos rfl (ev_const rfl)

/-! #### isByte -/
theorem isLower_eq (c : Int) : impl_isLower.f c = some (lowerB c) := by
  unfold impl_isLower.f lowerB
  by_cases h : c ≥ 97
  · rw [if_pos h, decide_eq_true h, Bool.true_and]
  · rw [if_neg h, decide_eq_false h, Bool.false_and]
theorem isDigit_eq (c : Int) : impl_isDigit.f c = some (digitB c) := by
  unfold impl_isDigit.f digitB
  by_cases h : c ≥ 48
  · rw [if_pos h, decide_eq_true h, Bool.true_and]
  · rw [if_neg h, decide_eq_false h, Bool.false_and]
theorem isNameByte_eq (c : Int) : impl_isNameByte.f c = some (nameB c) := by
  unfold impl_isNameByte.f nameB
  rw [isLower_eq, isDigit_eq]
  simp only [Option.bind_some]
  cases lowerB c <;> cases digitB c <;> simp [BEq.beq]

/-! #### impl_IsName -/
theorem impl_IsName_l0 (s : ByteArray) (hs : s.size ≤ 16) : ∀ (n i : Nat), 1 ≤ i → i + n = s.size → Ev (fun k => impl_IsName.l0 k s i) (((bts s).drop i).all nameB && (decide (s.size ≤ 16) && lastOk s)) := by
  intro n
  induction n with
  | zero =>
    intro i h1 hi
    refine Ev.step (fun k => by rw [impl_IsName.l0]) ?_
    refine ev_neg (by omega) ?_
    rw [List.drop_eq_nil_of_le (by rw [bts_length]; omega), List.all_nil, Bool.true_and]
    have e : wrap64 ((s.size : Int) - 1) = ((s.size - 1 : Nat) : Int) := by rw [w64 (by omega) (by omega)]; omega
    rw [e]
    refine ev_pos (by omega) (ev_pos (by omega) (ev_const ?_))
    rw [decide_eq_true (by omega), Bool.true_and, bt_eq, lastOk, Int.toNat_natCast]
    congr 1
    simp [bne, BEq.beq]
  | succ n ih =>
    intro i h1 hi
    have e2 : wrap64 ((i : Int) + 1) = ((i + 1 : Nat) : Int) := by rw [w64 (by omega) (by omega)]; omega
    refine Ev.step (fun k => by rw [impl_IsName.l0]) ?_
    refine ev_pos (by omega) (ev_pos (by omega) ?_)
    refine ev_let _ (isNameByte_eq _) ?_
    rw [e2, drop_cons (z := 0) (by rw [bts_length]; omega), List.all_cons, ← Int.toNat_natCast i, ← bt_eq, Int.toNat_natCast]
    refine ev_ite (fun h => ?_) (fun h => ?_)
    · rw [h, Bool.true_and]
      exact ih (i + 1) (by omega) (by omega)
    · rw [Bool.eq_false_iff.mpr h, Bool.false_and, Bool.false_and]
      exact ev_const rfl
theorem impl_IsName_ev (s : ByteArray) (hs : s.size ≤ 4611686018427387904) : Ev (fun k => impl_IsName.f k s) (mIsName s) := by
  have hl := bts_length s
  simp only [impl_IsName.f]
  unfold mIsName
  cases hc : bts s with
  | nil =>
    rw [hc] at hl
    simp only [List.length_nil] at hl
    refine ev_pos (by omega) (Ev.step (fun k => by rw [impl_IsName.j0]) ?_)
    exact ev_pos rfl (ev_const rfl)
  | cons c l =>
    rw [hc] at hl
    simp only [List.length_cons] at hl
    show Ev _ ((lowerB c && l.all nameB) && (decide (s.size ≤ 16) && lastOk s))
    have ec : bt s 0 = c := by rw [bt_eq, hc]; rfl
    have hd : (bts s).drop 1 = l := by rw [hc]; rfl
    refine ev_neg (by omega) (ev_ite (fun h => ?_) (fun h => ?_))
    · rw [decide_eq_false (by omega), Bool.false_and, Bool.and_false]
      exact Ev.step (fun k => by rw [impl_IsName.j0]) (ev_pos rfl (ev_const rfl))
    · refine ev_pos (by omega) (ev_let _ (isLower_eq _) ?_)
      rw [ec]
      refine Ev.step (fun k => by rw [impl_IsName.j0]) (ev_ite (fun h2 => ?_) (fun h2 => ?_))
      · rw [show lowerB c = false from by simpa using h2, Bool.false_and, Bool.false_and]
        exact ev_const rfl
      · rw [show lowerB c = true from by simpa using h2, Bool.true_and]
        have z := impl_IsName_l0 s (by omega) (s.size - 1) 1 (by omega) (by omega)
        rw [hd] at z
        exact z

/-! #### mIsText -/
def okT (c : Int) : Bool := decide (32 ≤ c) && decide (c ≤ 126)
def mIsText (s : ByteArray) : Bool := (bts s).all okT && decide ((s.size : Int) ≤ 40)

/-! #### spec_IsText -/
theorem spec_IsText_l0 (s : ByteArray) (hs : s.size ≤ 4611686018427387904) : ∀ (n i : Nat), i + n = s.size → Ev (fun k => spec_IsText.l0 k s i) (((bts s).drop i).all okT && decide ((s.size : Int) ≤ 40)) := by
  intro n
  induction n with
  | zero =>
    intro i hi
    refine Ev.step (fun k => by rw [spec_IsText.l0]) ?_
    refine ev_neg (by omega) (ev_const ?_)
    rw [List.drop_eq_nil_of_le (by rw [bts_length]; omega), List.all_nil, Bool.true_and]
  | succ n ih =>
    intro i hi
    have hb := bt_range s i
    have e1 : wrap64 (bt s i) = bt s i := w64 (by omega) (by omega)
    have e2 : wrap64 ((i : Int) + 1) = ((i + 1 : Nat) : Int) := by rw [w64 (by omega) (by omega)]; omega
    refine Ev.step (fun k => by rw [spec_IsText.l0]) ?_
    refine ev_pos (by omega) (ev_pos (by omega) ?_)
    refine ev_let _ (spec_l1In_eq _ _ _) ?_
    rw [e1, e2, drop_cons (z := 0) (by rw [bts_length]; omega), List.all_cons, ← Int.toNat_natCast i, ← bt_eq, Int.toNat_natCast]
    refine ev_ite (fun h => ?_) (fun h => ?_)
    · rw [show okT (bt s i) = true from h, Bool.true_and]
      exact ih (i + 1) (by omega)
    · rw [show okT (bt s i) = false from Bool.eq_false_iff.mpr h]
      exact ev_const rfl
theorem spec_IsText_ev (s : ByteArray) (hs : s.size ≤ 4611686018427387904) : Ev (fun k => spec_IsText.f k s) (mIsText s) := spec_IsText_l0 s hs s.size 0 (by omega)

/-! #### impl_IsText -/
theorem impl_IsText_l0 (s : ByteArray) (hs : s.size ≤ 4611686018427387904) : ∀ (n i : Nat), i + n = s.size → Ev (fun k => impl_IsText.l0 k s i) (((bts s).drop i).all okT && decide ((s.size : Int) ≤ 40)) := by
  intro n
  induction n with
  | zero =>
    intro i hi
    refine Ev.step (fun k => by rw [impl_IsText.l0]) ?_
    refine ev_neg (by omega) (ev_const ?_)
    rw [List.drop_eq_nil_of_le (by rw [bts_length]; omega), List.all_nil, Bool.true_and]
  | succ n ih =>
    intro i hi
    have hb := bt_range s i
    have e2 : wrap64 ((i : Int) + 1) = ((i + 1 : Nat) : Int) := by rw [w64 (by omega) (by omega)]; omega
    refine Ev.step (fun k => by rw [impl_IsText.l0]) ?_
    refine ev_pos (by omega) (ev_pos (by omega) ?_)
    rw [e2, drop_cons (z := 0) (by rw [bts_length]; omega), List.all_cons, ← Int.toNat_natCast i, ← bt_eq, Int.toNat_natCast]
    refine ev_ite (fun h => ?_) (fun h => ev_ite (fun h2 => ?_) (fun h2 => ?_))
    · rw [show okT (bt s i) = false from by simp only [okT, Bool.and_eq_false_iff, decide_eq_false_iff_not]; omega]
      exact ev_const rfl
    · rw [show okT (bt s i) = false from by simp only [okT, Bool.and_eq_false_iff, decide_eq_false_iff_not]; omega]
      exact ev_const rfl
    · rw [show okT (bt s i) = true from by simp only [okT, Bool.and_eq_true, decide_eq_true_eq]; omega, Bool.true_and]
      exact ih (i + 1) (by omega)
theorem impl_IsText_ev (s : ByteArray) (hs : s.size ≤ 4611686018427387904) : Ev (fun k => impl_IsText.f k s) (mIsText s) := impl_IsText_l0 s hs s.size 0 (by omega)

/-! #### IsPath -/
abbrev TS := S73
abbrev ST := S71
def dt : List ByteArray → List ByteArray → Bool
  | _, [] => true
  | pre, x :: suf => !(pre.any fun y => decide (x = y)) && dt (pre ++ [x]) suf
def tOk (x : TS) : Bool := mIsName x.f0 && mIsText x.f1
def tk : List TS → List TS → Bool
  | _, [] => true
  | pre, x :: suf => !(pre.any fun y => decide (y.f0 = x.f0)) && (tOk x && tk (pre ++ [x]) suf)
def fn0 (x : TS) : ByteArray := x.f0
theorem tk_eq : ∀ (suf pre : List TS), tk pre suf = (suf.all tOk && dt (pre.map fn0) (suf.map fn0))
  | [], pre => rfl
  | x :: suf, pre => by
    have e : ((pre.map fn0).any fun y => decide (fn0 x = y)) = pre.any fun y => decide (y.f0 = x.f0) := by
      rw [List.any_map]
      congr 1
      funext y
      show decide (x.f0 = y.f0) = decide (y.f0 = x.f0)
      exact decide_eq_decide.2 eq_comm
    rw [tk, tk_eq suf (pre ++ [x]), List.map_cons, dt, List.all_cons, e, List.map_append, List.map_singleton]
    cases tOk x <;> cases suf.all tOk <;> cases (pre.any fun y => decide (y.f0 = x.f0)) <;> simp
def mStep (s : ST) : Bool := tk [] s.f1 && (mIsName s.f0 && decide (s.f1.length ≤ 3))
def pfin (a : Bool) (b : Int) (n : Nat) : Bool := (decide (0 ≤ b) && decide (b ≤ 8)) && (decide (n ≤ 10) && (if a = true then decide (b = 0) else (decide (b > 0) || decide (n > 0))))
def mPath (a : Bool) (b : Int) (l : List ST) : Bool := l.all mStep && pfin a b l.length
theorem rd_test {l : List TS} {n : Nat} {x : TS} (h : l[n]? = some x) : rd_T73 l (n : Int) = x := by
  unfold rd_T73
  rw [List.getD_eq_getElem?_getD, Int.toNat_natCast, h]; rfl
theorem sp_l2 (i : Int) (a : Bool) (b : Int) (l : List ST) (x : TS) (suf : List TS) (R : Bool) (h0 : x.f0.size ≤ 4611686018427387904) (h1 : x.f1.size ≤ 4611686018427387904) : ∀ (preB preA : List TS) (hb : (preA ++ preB ++ x :: suf).length ≤ 1048576) (HR : Ev (fun k => spec_IsPath.l1 k i (preA ++ preB ++ x :: suf) ((preA ++ preB ++ [x]).length : Int) a b l) R), Ev (fun k => spec_IsPath.l2 k i (preA ++ preB ++ x :: suf) ((preA ++ preB).length : Int) (preA.length : Int) a b l) (!(preB.any fun y => decide (y.f0 = x.f0)) && (tOk x && R))
  | [], preA, hb, HR => by
    rw [List.append_nil] at *
    have hb' := hb
    simp only [List.length_append, List.length_cons] at hb'
    have ex : rd_T73 (preA ++ x :: suf) (preA.length : Int) = x := rd_test (by simp)
    refine Ev.step (fun k => by rw [spec_IsPath.l2]) ?_
    refine ev_neg (by omega) (ev_pos (by omega) (ev_pos (by simp only [List.length_append, List.length_cons]; omega) ?_))
    rw [ex]
    simp only [List.any_nil, Bool.not_false, Bool.true_and, tOk]
    refine ev_bind _ (spec_IsName_ev _ h0) (ev_ite (fun h => ?_) (fun h => ?_))
    · rw [h, Bool.true_and]
      refine ev_bind _ (spec_IsText_ev _ h1) (ev_ite (fun h2 => ?_) (fun h2 => ?_))
      · rw [h2, Bool.true_and, next_pre preA x (by omega)]
        exact HR
      · rw [Bool.eq_false_iff.mpr h2, Bool.false_and]
        exact ev_const rfl
    · rw [Bool.eq_false_iff.mpr h, Bool.false_and, Bool.false_and]
      exact ev_const rfl
  | y :: preB, preA, hb, HR => by
    have hb' := hb
    simp only [List.length_append, List.length_cons] at hb'
    have ey : rd_T73 (preA ++ y :: preB ++ x :: suf) (preA.length : Int) = y := rd_test (by simp)
    have ex : rd_T73 (preA ++ y :: preB ++ x :: suf) ((preA ++ y :: preB).length : Int) = x := rd_test (by simp)
    refine Ev.step (fun k => by rw [spec_IsPath.l2]) ?_
    refine ev_pos (by simp only [List.length_append, List.length_cons]; omega) (ev_pos (by omega) (ev_pos (by simp only [List.length_append, List.length_cons]; omega) (ev_pos (by omega) (ev_pos (by simp only [List.length_append, List.length_cons]; omega) ?_))))
    rw [ey, ex, List.any_cons]
    refine ev_ite (fun h => ?_) (fun h => ?_)
    · rw [decide_eq_true (toList_eq.1 h)]
      exact ev_const rfl
    · rw [decide_eq_false (fun hh => h (toList_eq.2 hh)), Bool.false_or, next_pre preA y (by omega)]
      have e : preA ++ y :: preB = preA ++ [y] ++ preB := by simp
      rw [e] at hb HR ⊢
      exact sp_l2 i a b l x suf R h0 h1 preB (preA ++ [y]) hb HR
theorem sp_l1 (i : Int) (a : Bool) (b : Int) (l : List ST) (R : Bool) : ∀ (suf pre : List TS) (hb : (pre ++ suf).length ≤ 1048576) (hm : mu73 suf ≤ 1048576) (HR : Ev (fun k => spec_IsPath.l1 k i (pre ++ suf) ((pre ++ suf).length : Int) a b l) R), Ev (fun k => spec_IsPath.l1 k i (pre ++ suf) (pre.length : Int) a b l) (tk pre suf && R)
  | [], pre, hb, hm, HR => by
    rw [List.append_nil] at *
    rw [tk, Bool.true_and]
    exact HR
  | x :: suf, pre, hb, hm, HR => by
    have hb' := hb
    simp only [List.length_append, List.length_cons] at hb'
    simp only [mu73, ms73] at hm
    have e : pre ++ x :: suf = pre ++ [x] ++ suf := by simp
    have z : Ev (fun k => spec_IsPath.l1 k i (pre ++ x :: suf) ((pre ++ [x]).length : Int) a b l) (tk (pre ++ [x]) suf && R) := by
      rw [e] at hb HR ⊢
      exact sp_l1 i a b l R suf (pre ++ [x]) hb (by omega) HR
    refine Ev.step (fun k => by rw [spec_IsPath.l1]) ?_
    refine ev_pos (by simp only [List.length_append, List.length_cons]; omega) ?_
    have z2 := sp_l2 i a b l x suf _ (by omega) (by omega) pre [] (by simpa using hb) (by simpa using z)
    rw [tk, Bool.and_assoc, Bool.and_assoc]
    simpa using z2
theorem sp_l0 (a : Bool) (b : Int) : ∀ (suf pre : List ST) (hb : (pre ++ suf).length ≤ 1048576) (hm : mu71 suf ≤ 1048576), Ev (fun k => spec_IsPath.l0 k (pre.length : Int) a b (pre ++ suf)) (suf.all mStep && pfin a b (pre ++ suf).length)
  | [], pre, hb, hm => by
    rw [List.append_nil] at *
    refine Ev.step (fun k => by rw [spec_IsPath.l0]) ?_
    refine ev_neg (by omega) (ev_let _ (spec_l1In_eq _ _ _) ?_)
    rw [List.all_nil, Bool.true_and]
    unfold pfin
    refine ev_ite (fun h => ?_) (fun h => ?_)
    · rw [h, Bool.true_and]
      refine ev_ite (fun h2 => ?_) (fun h2 => ?_)
      · rw [decide_eq_true (show pre.length ≤ 10 by omega), Bool.true_and]
        refine ev_ite (fun h3 => ?_) (fun h3 => ?_)
        · rw [if_pos h3]
          refine ev_ite (fun h4 => ?_) (fun h4 => ?_)
          · rw [decide_eq_true h4]; exact ev_const rfl
          · rw [decide_eq_false h4]; exact ev_const rfl
        · rw [if_neg h3]
          refine ev_ite (fun h4 => ?_) (fun h4 => ?_)
          · rw [decide_eq_true h4]; exact ev_const rfl
          · rw [decide_eq_false h4, Bool.false_or]; exact ev_const (by simp)
      · rw [decide_eq_false (show ¬ pre.length ≤ 10 by omega)]; exact ev_const rfl
    · rw [Bool.eq_false_iff.mpr h]; exact ev_const rfl
  | s :: suf, pre, hb, hm => by
    have ex : rd_T71 (pre ++ s :: suf) (pre.length : Int) = s := by unfold rd_T71; exact at_pre pre suf s _
    have hb' := hb
    simp only [List.length_append, List.length_cons] at hb'
    simp only [mu71, ms71] at hm
    have z := sp_l0 a b suf (pre ++ [s]) (by simpa using hb) (by omega)
    rw [List.append_assoc, List.singleton_append] at z
    refine Ev.step (fun k => by rw [spec_IsPath.l0]) ?_
    refine ev_pos (by simp only [List.length_append, List.length_cons]; omega) (ev_pos (by omega) ?_)
    rw [ex]
    have HR : Ev (fun k => spec_IsPath.l1 k (pre.length : Int) s.f1 (s.f1.length : Int) a b (pre ++ s :: suf)) ((mIsName s.f0 && decide (s.f1.length ≤ 3)) && (suf.all mStep && pfin a b (pre ++ s :: suf).length)) := by
      refine Ev.step (fun k => by rw [spec_IsPath.l1]) ?_
      refine ev_neg (by omega) (ev_pos (by omega) (ev_pos (by simp only [List.length_append, List.length_cons]; omega) ?_))
      rw [ex]
      refine ev_bind _ (spec_IsName_ev _ (by omega)) (ev_ite (fun h => ?_) (fun h => ?_))
      · rw [h, Bool.true_and]
        refine ev_ite (fun h2 => ?_) (fun h2 => ?_)
        · rw [decide_eq_false (by omega)]; exact ev_const rfl
        · rw [decide_eq_true (by omega), Bool.true_and, next_pre pre s (by omega)]
          exact z
      · rw [Bool.eq_false_iff.mpr h]; exact ev_const rfl
    have z2 := sp_l1 (pre.length : Int) a b (pre ++ s :: suf) _ s.f1 [] (by rw [List.nil_append]; omega) (by omega) (by rw [List.nil_append]; exact HR)
    rw [List.all_cons, mStep]
    simpa [Bool.and_assoc] using z2
theorem spec_IsPath_ev (a : Bool) (b : Int) (l : List ST) (hm : l.length + mu71 l ≤ 1048576) : Ev (fun k => spec_IsPath.f k a b l) (mPath a b l) := sp_l0 a b l [] (by rw [List.nil_append]; omega) (by omega)
/-! the program's -/
theorem rd_str {l : List ByteArray} {n : Nat} {x : ByteArray} (h : l[n]? = some x) : rdOf ByteArray.empty l (n : Int) = x := by
  unfold rdOf
  rw [List.getD_eq_getElem?_getD, Int.toNat_natCast, h]; rfl
theorem index_l0 (x : ByteArray) : ∀ (suf pre : List ByteArray) (hb : (pre ++ suf).length ≤ 1048576), ∃ r, Ev (fun k => slices_Index_string_string.l0 k (pre ++ suf) x ((pre ++ suf).length : Int) (pre.length : Int)) r ∧ decide (r ≥ 0) = suf.any fun y => decide (x = y)
  | [], pre, hb => by
    refine ⟨-1, Ev.step (fun k => by rw [slices_Index_string_string.l0]) ?_, rfl⟩
    exact ev_neg (by simp) (ev_const rfl)
  | y :: suf, pre, hb => by
    have ey : rdOf ByteArray.empty (pre ++ y :: suf) (pre.length : Int) = y := rd_str (by simp)
    have hb' := hb
    simp only [List.length_append, List.length_cons] at hb'
    by_cases h : x = y
    · refine ⟨(pre.length : Int), Ev.step (fun k => by rw [slices_Index_string_string.l0]) ?_, ?_⟩
      · refine ev_pos (by simp only [List.length_append, List.length_cons]; omega) (ev_pos (by omega) (ev_pos (by simp only [List.length_append, List.length_cons]; omega) ?_))
        rw [ey]
        exact ev_pos (toList_eq.2 h) (ev_const rfl)
      · rw [List.any_cons, decide_eq_true h, Bool.true_or, decide_eq_true (by omega)]
    · obtain ⟨r, z, hr⟩ := index_l0 x suf (pre ++ [y]) (by simpa using hb)
      rw [List.append_assoc, List.singleton_append] at z
      refine ⟨r, Ev.step (fun k => by rw [slices_Index_string_string.l0]) ?_, ?_⟩
      · refine ev_pos (by simp only [List.length_append, List.length_cons]; omega) (ev_pos (by omega) (ev_pos (by simp only [List.length_append, List.length_cons]; omega) ?_))
        rw [ey, next_pre pre y (by omega)]
        exact ev_neg (fun hh => h (toList_eq.1 hh)) z
      · rw [List.any_cons, decide_eq_false h, Bool.false_or, hr]
theorem contains_ev (l : List ByteArray) (x : ByteArray) (hb : l.length ≤ 1048576) : Ev (fun k => slices_Contains_string_string.f k l x) (l.any fun y => decide (x = y)) := by
  simp only [slices_Contains_string_string.f, slices_Index_string_string.f]
  obtain ⟨r, z, hr⟩ := index_l0 x l [] (by simpa using hb)
  refine ev_bind r z (ev_const ?_)
  rw [hr]
theorem diff_l0 : ∀ (suf pre : List ByteArray) (hb : (pre ++ suf).length ≤ 1048576), Ev (fun k => impl_differentTexts.l0 k (pre ++ suf) ((pre ++ suf).length : Int) (pre.length : Int)) (dt pre suf)
  | [], pre, hb => by
    refine Ev.step (fun k => by rw [impl_differentTexts.l0]) ?_
    exact ev_neg (by simp) (ev_const rfl)
  | x :: suf, pre, hb => by
    have ex : rdOf ByteArray.empty (pre ++ x :: suf) (pre.length : Int) = x := rd_str (by simp)
    have et : (pre ++ x :: suf).take ((pre.length : Int)).toNat = pre := by simp
    have hb' := hb
    simp only [List.length_append, List.length_cons] at hb'
    refine Ev.step (fun k => by rw [impl_differentTexts.l0]) ?_
    refine ev_pos (by simp only [List.length_append, List.length_cons]; omega) (ev_pos (by omega) (ev_pos (by simp only [List.length_append, List.length_cons]; omega) (ev_pos (by simp only [List.length_append, List.length_cons]; omega) ?_)))
    rw [ex, et]
    refine ev_bind _ (contains_ev pre x (by omega)) ?_
    rw [dt]
    refine ev_ite (fun h => ?_) (fun h => ?_)
    · rw [h]; exact ev_const rfl
    · rw [Bool.eq_false_iff.mpr h, Bool.not_false, Bool.true_and, next_pre pre x (by omega)]
      have z := diff_l0 suf (pre ++ [x]) (by simpa using hb)
      rw [List.append_assoc, List.singleton_append] at z
      exact z
theorem isStep_l0 (n : ByteArray) (w : List TS) (hw : w.length ≤ 1048576) (hn : n.size ≤ 4611686018427387904) : ∀ (suf pre : List TS) (hb : (pre ++ suf).length ≤ 1048576) (hm : mu73 suf ≤ 1048576), Ev (fun k => impl_isStep.l0 k (pre.map fn0) (pre ++ suf) ((pre ++ suf).length : Int) (pre.length : Int) n w) (suf.all tOk && ((mIsName n && decide (w.length ≤ 3)) && dt [] ((pre ++ suf).map fn0)))
  | [], pre, hb, hm => by
    refine Ev.step (fun k => by rw [impl_isStep.l0]) ?_
    rw [List.append_nil] at *
    refine ev_neg (by omega) ?_
    rw [List.all_nil, Bool.true_and]
    refine ev_bind _ (impl_IsName_ev _ hn) (ev_ite (fun h => ?_) (fun h => ?_))
    · rw [h, Bool.true_and]
      refine ev_ite (fun h2 => ?_) (fun h2 => ?_)
      · rw [decide_eq_true (by omega), Bool.true_and]
        refine ev_bind (dt [] (pre.map fn0)) ?_ (ev_const rfl)
        simp only [impl_differentTexts.f]
        exact diff_l0 (pre.map fn0) [] (by rw [List.nil_append, List.length_map]; omega)
      · rw [decide_eq_false (by omega)]; exact ev_const rfl
    · rw [Bool.eq_false_iff.mpr h]; exact ev_const rfl
  | x :: suf, pre, hb, hm => by
    have ex : rd_T73 (pre ++ x :: suf) (pre.length : Int) = x := rd_test (by simp)
    have hb' := hb
    simp only [List.length_append, List.length_cons] at hb'
    simp only [mu73, ms73] at hm
    refine Ev.step (fun k => by rw [impl_isStep.l0]) ?_
    refine ev_pos (by simp only [List.length_append, List.length_cons]; omega) (ev_pos (by omega) (ev_pos (by simp only [List.length_append, List.length_cons]; omega) ?_))
    rw [ex, List.all_cons, tOk]
    refine ev_bind _ (impl_IsName_ev _ (by omega)) (ev_ite (fun h => ?_) (fun h => ?_))
    · rw [h, Bool.true_and]
      refine ev_bind _ (impl_IsText_ev _ (by omega)) (ev_ite (fun h2 => ?_) (fun h2 => ?_))
      · rw [h2, Bool.true_and, next_pre pre x (by omega)]
        refine ev_pos (by rw [List.length_map]; omega) ?_
        have z := isStep_l0 n w hw hn suf (pre ++ [x]) (by simpa using hb) (by omega)
        rw [List.append_assoc, List.singleton_append, List.map_append] at z
        exact z
      · rw [Bool.eq_false_iff.mpr h2]; exact ev_const rfl
    · rw [Bool.eq_false_iff.mpr h]; exact ev_const rfl
theorem isStep_ev (s : ST) (hm : ms71 s ≤ 1048576) : Ev (fun k => impl_isStep.f k s.f0 s.f1) (mStep s) := by
  simp only [ms71] at hm
  have z := isStep_l0 s.f0 s.f1 (by omega) (by omega) s.f1 [] (by rw [List.nil_append]; omega) (by omega)
  have e : mStep s = (s.f1.all tOk && ((mIsName s.f0 && decide (s.f1.length ≤ 3)) && dt [] (([] ++ s.f1).map fn0))) := by
    rw [mStep, tk_eq, List.nil_append, List.map_nil]
    cases s.f1.all tOk <;> cases dt [] (s.f1.map fn0) <;> simp
  rw [e]
  exact z
theorem ip_l0 (a : Bool) (b : Int) (w : List ST) : ∀ (suf pre : List ST) (hb : (pre ++ suf).length ≤ 1048576) (hm : mu71 suf ≤ 1048576), Ev (fun k => impl_IsPath.l0 k (pre ++ suf) ((pre ++ suf).length : Int) (pre.length : Int) a b w) (suf.all mStep && pfin a b w.length)
  | [], pre, hb, hm => by
    refine Ev.step (fun k => by rw [impl_IsPath.l0]) ?_
    refine ev_neg (by simp) ?_
    rw [List.all_nil, Bool.true_and]
    unfold pfin
    refine ev_ite (fun h => ?_) (fun h => ?_)
    · rw [decide_eq_true (show 0 ≤ b by omega), Bool.true_and]
      refine ev_ite (fun h1 => ?_) (fun h1 => ?_)
      · rw [decide_eq_true h1, Bool.true_and]
        refine ev_ite (fun h3 => ?_) (fun h3 => ?_)
        · rw [if_pos h3]
          refine ev_ite (fun h4 => ?_) (fun h4 => ?_)
          · rw [decide_eq_true h4, Bool.and_true]
            refine ev_ite (fun h2 => ?_) (fun h2 => ?_)
            · rw [decide_eq_true (show w.length ≤ 10 by omega)]; exact ev_const rfl
            · rw [decide_eq_false (show ¬ w.length ≤ 10 by omega)]; exact ev_const rfl
          · rw [decide_eq_false h4, Bool.and_false]; exact ev_const rfl
        · rw [if_neg h3]
          refine ev_ite (fun h2 => ?_) (fun h2 => ?_)
          · rw [decide_eq_true (show w.length ≤ 10 by omega), Bool.true_and]
            refine ev_ite (fun h4 => ?_) (fun h4 => ?_)
            · rw [decide_eq_true h4]; exact ev_const rfl
            · rw [decide_eq_false h4, Bool.false_or]; exact ev_const (by simp)
          · rw [decide_eq_false (show ¬ w.length ≤ 10 by omega)]; exact ev_const rfl
      · rw [decide_eq_false h1]; exact ev_const rfl
    · rw [decide_eq_false (show ¬ 0 ≤ b by omega)]; exact ev_const rfl
  | s :: suf, pre, hb, hm => by
    have ex : rd_T71 (pre ++ s :: suf) (pre.length : Int) = s := by unfold rd_T71; exact at_pre pre suf s _
    have hb' := hb
    simp only [List.length_append, List.length_cons] at hb'
    rw [mu71] at hm
    refine Ev.step (fun k => by rw [impl_IsPath.l0]) ?_
    refine ev_pos (by simp only [List.length_append, List.length_cons]; omega) (ev_pos (by omega) (ev_pos (by simp only [List.length_append, List.length_cons]; omega) ?_))
    rw [ex, List.all_cons]
    refine ev_bind _ (isStep_ev s (by omega)) (ev_ite (fun h => ?_) (fun h => ?_))
    · rw [h, Bool.true_and, next_pre pre s (by omega)]
      have z := ip_l0 a b w suf (pre ++ [s]) (by simpa using hb) (by omega)
      rw [List.append_assoc, List.singleton_append] at z
      exact z
    · rw [Bool.eq_false_iff.mpr h]; exact ev_const rfl
theorem impl_IsPath_ev (a : Bool) (b : Int) (l : List ST) (hm : l.length + mu71 l ≤ 1048576) : Ev (fun k => impl_IsPath.f k a b l) (mPath a b l) := ip_l0 a b l l [] (by rw [List.nil_append]; omega) (by omega)

/-! #### mQuote -/
def quoteB (c : Int) : List Int := if c = 34 ∨ c = 92 then [92, c] else [c]
def quoteL (l : List Int) : List Int := l.flatMap quoteB
def mQuote (s : ByteArray) : ByteArray := strOfNums (34 :: quoteL (bts s) ++ [34])
theorem quoteL_cons (c : Int) (l : List Int) : quoteL (c :: l) = quoteB c ++ quoteL l := by simp [quoteL]
theorem quoteB_len (c : Int) : (quoteB c).length ≤ 2 := by unfold quoteB; split <;> simp
theorem quoteL_len (l : List Int) : (quoteL l).length ≤ 2 * l.length := by
  induction l with
  | nil => simp [quoteL]
  | cons c l ih =>
    rw [quoteL_cons, List.length_append, List.length_cons]
    have := quoteB_len c
    omega

/-! #### spec_QuoteText -/
theorem spec_QuoteText_l0 (s : ByteArray) (hs : s.size ≤ 35184372088832) : ∀ (n i : Nat) (acc : List Int), i + n = s.size → acc.length ≤ 2 * i + 1 → Ev (fun k => spec_QuoteText.l0 k s acc i) (strOfNums (acc ++ quoteL ((bts s).drop i) ++ [34])) := by
  intro n
  induction n with
  | zero =>
    intro i acc hi ha
    refine Ev.step (fun k => by rw [spec_QuoteText.l0]) ?_
    refine ev_neg (by omega) (ev_pos (by omega) (ev_const ?_))
    rw [List.drop_eq_nil_of_le (by rw [bts_length]; omega)]
    simp [quoteL]
  | succ n ih =>
    intro i acc hi ha
    have e2 : wrap64 ((i : Int) + 1) = ((i + 1 : Nat) : Int) := by rw [w64 (by omega) (by omega)]; omega
    refine Ev.step (fun k => by rw [spec_QuoteText.l0]) ?_
    refine ev_pos (by omega) (ev_pos (by omega) ?_)
    rw [e2, drop_cons (z := 0) (by rw [bts_length]; omega), quoteL_cons, ← Int.toNat_natCast i, ← bt_eq, Int.toNat_natCast]
    refine ev_ite (fun h => ?_) (fun h => ev_ite (fun h2 => ?_) (fun h2 => ?_))
    · refine ev_pos (by omega) (ev_let _ rfl (ev_pos (by simp; omega) ?_))
      have := ih (i + 1) (acc ++ [92] ++ [bt s i]) (by omega) (by simp; omega)
      rw [quoteB, if_pos (.inl h)]
      simpa using this
    · refine ev_pos (by omega) (ev_let _ rfl (ev_pos (by simp; omega) ?_))
      have := ih (i + 1) (acc ++ [92] ++ [bt s i]) (by omega) (by simp; omega)
      rw [quoteB, if_pos (.inr h2)]
      simpa using this
    · refine ev_pos (by omega) ?_
      have := ih (i + 1) (acc ++ [bt s i]) (by omega) (by simp; omega)
      rw [quoteB, if_neg (by omega)]
      simpa using this
theorem spec_QuoteText_ev (s : ByteArray) (hs : s.size ≤ 35184372088832) : Ev (fun k => spec_QuoteText.f k s) (mQuote s) := by
  have := spec_QuoteText_l0 s hs s.size 0 [34] (by omega) (by simp)
  show Ev (fun k => spec_QuoteText.l0 k s [34] 0) _
  unfold mQuote
  simpa using this

/-! #### impl_QuoteText -/
theorem impl_QuoteText_l0 (s : ByteArray) (hs : s.size ≤ 35184372088832) : ∀ (n i : Nat) (acc : List Int), i + n = s.size → acc.length ≤ 2 * i + 1 → Ev (fun k => impl_QuoteText.l0 k s acc i) (strOfNums (acc ++ quoteL ((bts s).drop i) ++ [34])) := by
  intro n
  induction n with
  | zero =>
    intro i acc hi ha
    refine Ev.step (fun k => by rw [impl_QuoteText.l0]) ?_
    refine ev_neg (by omega) (ev_pos (by omega) (ev_const ?_))
    rw [List.drop_eq_nil_of_le (by rw [bts_length]; omega)]
    simp [quoteL]
  | succ n ih =>
    intro i acc hi ha
    have e2 : wrap64 ((i : Int) + 1) = ((i + 1 : Nat) : Int) := by rw [w64 (by omega) (by omega)]; omega
    refine Ev.step (fun k => by rw [impl_QuoteText.l0]) ?_
    refine ev_pos (by omega) (ev_pos (by omega) ?_)
    rw [e2, drop_cons (z := 0) (by rw [bts_length]; omega), quoteL_cons, ← Int.toNat_natCast i, ← bt_eq, Int.toNat_natCast]
    refine ev_ite (fun h => ?_) (fun h => ev_ite (fun h2 => ?_) (fun h2 => ?_))
    · refine ev_pos (by omega) (ev_let _ rfl (ev_pos (by simp; omega) ?_))
      have := ih (i + 1) (acc ++ [92] ++ [bt s i]) (by omega) (by simp; omega)
      rw [quoteB, if_pos (.inl h)]
      simpa using this
    · refine ev_pos (by omega) (ev_let _ rfl (ev_pos (by simp; omega) ?_))
      have := ih (i + 1) (acc ++ [92] ++ [bt s i]) (by omega) (by simp; omega)
      rw [quoteB, if_pos (.inr h2)]
      simpa using this
    · refine ev_pos (by omega) ?_
      have := ih (i + 1) (acc ++ [bt s i]) (by omega) (by simp; omega)
      rw [quoteB, if_neg (by omega)]
      simpa using this
theorem impl_QuoteText_ev (s : ByteArray) (hs : s.size ≤ 35184372088832) : Ev (fun k => impl_QuoteText.f k s) (mQuote s) := by
  have := impl_QuoteText_l0 s hs s.size 0 [34] (by omega) (by simp)
  show Ev (fun k => impl_QuoteText.l0 k s [34] 0) _
  unfold mQuote
  simpa using this

/-! #### FormatPath -/
def sla : ByteArray := ⟨#[47]⟩
def dots : ByteArray := ⟨#[46, 46]⟩
theorem size_app (a b : ByteArray) : (a ++ b).size = a.size + b.size := ByteArray.size_append
theorem sla_size : sla.size = 1 := rfl
theorem dots_size : dots.size = 2 := rfl
theorem b1 (c : UInt8) : (⟨#[c]⟩ : ByteArray).size = 1 := rfl
theorem dat_app (a b : ByteArray) : (a ++ b).data.toList = a.data.toList ++ b.data.toList := by rw [ByteArray.data_append, Array.toList_append]
def jj : List ByteArray → Bool → ByteArray → ByteArray
  | [], _, acc => acc
  | x :: l, true, acc => jj l true ((acc ++ sla) ++ x)
  | x :: l, false, acc => jj l true (acc ++ x)
def csum : List ByteArray → Nat
  | [] => 0
  | x :: l => x.size + 1 + csum l
theorem csum_append (l l' : List ByteArray) : csum (l ++ l') = csum l + csum l' := by
  induction l with
  | nil => simp [csum]
  | cons x l ih => simp only [List.cons_append, csum, ih]; omega
theorem jj_append (l l' : List ByteArray) (f : Bool) (acc : ByteArray) : jj (l ++ l') f acc = jj l' (f || !l.isEmpty) (jj l f acc) := by
  induction l generalizing f acc with
  | nil => cases f <;> rfl
  | cons x l ih =>
    cases f
    · rw [List.cons_append, jj, jj, ih]; rfl
    · rw [List.cons_append, jj, jj, ih]; rfl
theorem jj_true (l : List ByteArray) (acc : ByteArray) : (jj l true acc).data.toList = acc.data.toList ++ Lib.joinTail [47] (l.map fun x => x.data.toList) := by
  induction l generalizing acc with
  | nil => simp [jj, Lib.joinTail]
  | cons x l ih =>
    rw [jj, ih, dat_app, dat_app]
    simp only [Lib.joinTail, List.map_cons, List.flatten_cons, List.append_assoc]
    rfl
theorem jj_join (l : List ByteArray) (acc : ByteArray) : (jj l false acc).data.toList = acc.data.toList ++ Lib.join (l.map fun x => x.data.toList) [47] := by
  cases l with
  | nil => simp [jj, Lib.join_nil]
  | cons x l => rw [jj, jj_true, List.map_cons, Lib.join_cons, dat_app, List.append_assoc]
theorem jj_size (l : List ByteArray) (b : Bool) (acc : ByteArray) : (jj l b acc).size ≤ acc.size + csum l := by
  induction l generalizing acc b with
  | nil => cases b <;> simp [jj, csum]
  | cons x l ih =>
    cases b
    · rw [jj]; have := ih true (acc ++ x); rw [size_app] at this; simp only [csum]; omega
    · rw [jj]; have := ih true ((acc ++ sla) ++ x); rw [size_app, size_app, sla_size] at this; simp only [csum]; omega
def one (x : TS) : ByteArray := ((((⟨#[91]⟩ : ByteArray) ++ x.f0) ++ (⟨#[61]⟩ : ByteArray)) ++ mQuote x.f1) ++ (⟨#[93]⟩ : ByteArray)
theorem one_eq (acc : ByteArray) (x : TS) : ((((acc ++ (⟨#[91]⟩ : ByteArray)) ++ x.f0) ++ (⟨#[61]⟩ : ByteArray)) ++ mQuote x.f1) ++ (⟨#[93]⟩ : ByteArray) = acc ++ one x := by
  apply bytes_ext
  simp only [one, dat_app, List.append_assoc]
theorem mQuote_size (s : ByteArray) : (mQuote s).size ≤ 2 * s.size + 2 := by
  unfold mQuote
  rw [size_str]
  have := quoteL_len (bts s)
  rw [bts_length] at this
  simp only [List.length_cons, List.length_append, List.length_nil]
  omega
theorem one_size (x : TS) : (one x).size ≤ 5 + 2 * ms73 x := by
  simp only [one, size_app, b1, ms73]
  have := mQuote_size x.f1
  omega
def tt : List TS → ByteArray → ByteArray
  | [], acc => acc
  | x :: l, acc => tt l (acc ++ one x)
theorem tt_size (l : List TS) (acc : ByteArray) : (tt l acc).size ≤ acc.size + 5 * l.length + 2 * mu73 l := by
  induction l generalizing acc with
  | nil => simp [tt]
  | cons x l ih =>
    have h := ih (acc ++ one x)
    have h2 := one_size x
    rw [size_app] at h
    simp only [tt, List.length_cons, mu73]
    omega
def stx (s : ST) : ByteArray := tt s.f1 s.f0
theorem csum_stx (l : List ST) : csum (l.map stx) ≤ l.length + 5 * mu71 l := by
  induction l with
  | nil => simp [csum]
  | cons s l ih =>
    have h := tt_size s.f1 s.f0
    simp only [List.map_cons, csum, List.length_cons, mu71, ms71, stx]
    omega
theorem csum_dots (n : Nat) : csum (List.replicate n dots) = 3 * n := by
  induction n with
  | zero => rfl
  | succ n ih => rw [List.replicate_succ, csum, ih, dots_size]; omega
theorem spec_l7_l0 (a : ByteArray) : ∀ (suf pre : List TS) (acc : ByteArray) (hb : (pre ++ suf).length ≤ 1048576) (hm : mu73 suf ≤ 1048576) (ha : acc.size + 5 * suf.length + 2 * mu73 suf ≤ 1000000000), Ev (fun k => spec_l7Step.l0 k acc (pre.length : Int) a (pre ++ suf)) (tt suf acc)
  | [], pre, acc, hb, hm, ha => by
    refine Ev.step (fun k => by rw [spec_l7Step.l0]) ?_
    exact ev_neg (by simp) (ev_const rfl)
  | x :: suf, pre, acc, hb, hm, ha => by
    have ex : rd_T73 (pre ++ x :: suf) (pre.length : Int) = x := rd_test (by simp)
    have hb' := hb
    simp only [List.length_append, List.length_cons] at hb'
    simp only [mu73, ms73, List.length_cons] at hm ha
    have hq := mQuote_size x.f1
    refine Ev.step (fun k => by rw [spec_l7Step.l0]) ?_
    refine ev_pos (by simp only [List.length_append, List.length_cons]; omega) ?_
    rw [ex, next_pre pre x (by omega)]
    refine ev_pos (by omega) (ev_pos (by omega) (ev_pos (by rw [size_app, b1]; omega) (ev_pos (by rw [size_app, size_app, b1]; omega) ?_)))
    refine ev_bind _ (spec_QuoteText_ev x.f1 (by omega)) ?_
    refine ev_pos (by rw [size_app, size_app, size_app, b1, b1]; omega) (ev_pos (by rw [size_app, size_app, size_app, size_app, b1, b1]; omega) ?_)
    rw [one_eq, tt]
    have h1 := one_size x
    simp only [ms73] at h1
    have z := spec_l7_l0 a suf (pre ++ [x]) (acc ++ one x) (by simpa using hb) (by omega) (by rw [size_app]; omega)
    rw [List.append_assoc, List.singleton_append] at z
    exact z
theorem spec_l7Step_ev (s : ST) (hm : ms71 s ≤ 1048576) : Ev (fun k => spec_l7Step.f k s.f0 s.f1) (stx s) := by
  simp only [ms71] at hm
  simp only [spec_l7Step.f]
  exact spec_l7_l0 s.f0 s.f1 [] s.f0 (by rw [List.nil_append]; omega) (by omega) (by omega)
theorem spec_FP_l1 (a : Bool) (b : Int) : ∀ (suf pre : List ST) (acc : ByteArray) (hb : (pre ++ suf).length ≤ 1048576) (hm : mu71 suf ≤ 1048576) (ha : acc.size + csum (suf.map stx) ≤ 1000000000), Ev (fun k => spec_FormatPath.l1 k acc (pre.length : Int) a b (pre ++ suf)) (jj (suf.map stx) (decide (b > 0) || !pre.isEmpty) acc)
  | [], pre, acc, hb, hm, ha => by
    refine Ev.step (fun k => by rw [spec_FormatPath.l1]) ?_
    refine ev_neg (by simp) (ev_const ?_)
    rw [List.map_nil]; unfold jj; rfl
  | s :: suf, pre, acc, hb, hm, ha => by
    have ex : rd_T71 (pre ++ s :: suf) (pre.length : Int) = s := by unfold rd_T71; exact at_pre pre suf s _
    have hb' := hb
    simp only [List.length_append, List.length_cons] at hb'
    rw [mu71] at hm
    rw [List.map_cons, csum] at ha
    have z : ∀ acc' : ByteArray, acc'.size + csum (suf.map stx) ≤ 1000000000 → Ev (fun k => spec_FormatPath.l1 k acc' ((pre ++ [s]).length : Int) a b (pre ++ s :: suf)) (jj (suf.map stx) true acc') := by
      intro acc' h'
      have z := spec_FP_l1 a b suf (pre ++ [s]) acc' (by simpa using hb) (by omega) h'
      rw [List.append_assoc, List.singleton_append] at z
      have e : (decide (b > 0) || !(pre ++ [s]).isEmpty) = true := by cases pre <;> simp
      rw [e] at z
      exact z
    have hs := spec_l7Step_ev s (by omega)
    refine Ev.step (fun k => by rw [spec_FormatPath.l1]) ?_
    refine ev_pos (by simp only [List.length_append, List.length_cons]; omega) ?_
    rw [ex, next_pre pre s (by omega), List.map_cons]
    refine ev_ite (fun h => ?_) (fun h => ?_)
    · have e : (!pre.isEmpty) = true := by cases pre with | nil => simp at h | cons _ _ => rfl
      rw [e, Bool.or_true, jj]
      refine ev_pos (by omega) (ev_pos (by omega) (ev_bind _ hs ?_))
      refine ev_pos (by rw [size_app, b1]; omega) ?_
      exact z _ (by rw [size_app, size_app, b1]; omega)
    · have e : (!pre.isEmpty) = false := by cases pre with | nil => rfl | cons _ _ => simp at h
      rw [e, Bool.or_false]
      refine ev_ite (fun h2 => ?_) (fun h2 => ?_)
      · rw [decide_eq_true h2, jj]
        refine ev_pos (by omega) (ev_pos (by omega) (ev_bind _ hs ?_))
        refine ev_pos (by rw [size_app, b1]; omega) ?_
        exact z _ (by rw [size_app, size_app, b1]; omega)
      · rw [decide_eq_false h2, jj]
        refine ev_pos (by omega) (ev_bind _ hs ?_)
        refine ev_pos (by omega) ?_
        exact z _ (by rw [size_app]; omega)
theorem spec_FP_l0 (a : Bool) (b : Int) (l : List ST) (hb8 : b ≤ 8) (hl : l.length ≤ 1048576) (hm : mu71 l ≤ 1048576) : ∀ (n : Nat) (j : Int) (acc : ByteArray) (hj : 0 ≤ j) (hn : j + n = b) (ha : acc.size + 3 * n ≤ 1000000), Ev (fun k => spec_FormatPath.l0 k acc j a b l) (jj (l.map stx) (decide (b > 0)) (jj (List.replicate n dots) (decide (j > 0)) acc)) := by
  intro n
  induction n with
  | zero =>
    intro j acc hj hn ha
    have h := csum_stx l
    refine Ev.step (fun k => by rw [spec_FormatPath.l0]) ?_
    refine ev_neg (by omega) ?_
    have z := spec_FP_l1 a b l [] acc (by rw [List.nil_append]; omega) hm (by omega)
    have e : jj (List.replicate 0 dots) (decide (j > 0)) acc = acc := by cases decide (j > 0) <;> rfl
    rw [e]
    simpa using z
  | succ n ih =>
    intro j acc hj hn ha
    have ej : wrap64 (j + 1) = j + 1 := w64 (by omega) (by omega)
    refine Ev.step (fun k => by rw [spec_FormatPath.l0]) ?_
    refine ev_pos (by omega) ?_
    rw [ej, List.replicate_succ]
    refine ev_ite (fun h => ?_) (fun h => ?_)
    · refine ev_pos (by omega) (ev_pos (by rw [size_app, b1]; omega) ?_)
      have z := ih (j + 1) ((acc ++ sla) ++ dots) (by omega) (by omega) (by rw [size_app, size_app, sla_size, dots_size]; omega)
      rw [decide_eq_true (show j + 1 > 0 by omega)] at z
      rw [decide_eq_true h, jj]
      exact z
    · refine ev_pos (by omega) ?_
      have z := ih (j + 1) (acc ++ dots) (by omega) (by omega) (by rw [size_app, dots_size]; omega)
      rw [decide_eq_true (show j + 1 > 0 by omega)] at z
      rw [decide_eq_false h, jj]
      exact z
def parts (b : Int) (l : List ST) : List ByteArray := List.replicate b.toNat dots ++ l.map stx
def root (a : Bool) : ByteArray := if a = true then sla else ⟨#[]⟩
def mFP (a : Bool) (b : Int) (l : List ST) : ByteArray := if mPath a b l = true then jj (parts b l) false (root a) else ⟨#[]⟩
theorem mPath_b {a : Bool} {b : Int} {l : List ST} (h : mPath a b l = true) : 0 ≤ b ∧ b ≤ 8 := by
  unfold mPath pfin at h
  simp only [Bool.and_eq_true, decide_eq_true_eq] at h
  exact h.2.1
theorem spec_FormatPath_ev (a : Bool) (b : Int) (l : List ST) (hm : l.length + mu71 l ≤ 1048576) : Ev (fun k => spec_FormatPath.f k a b l) (mFP a b l) := by
  simp only [spec_FormatPath.f]
  refine ev_bind _ (spec_IsPath_ev a b l hm) ?_
  unfold mFP
  refine ev_ite (fun h => ?_) (fun h => ?_)
  · obtain ⟨h0, h8⟩ := mPath_b h
    rw [if_pos h]
    have z : ∀ acc : ByteArray, acc.size ≤ 1 → Ev (fun k => spec_FormatPath.j0 k acc a b l) (jj (parts b l) false acc) := by
      intro acc hacc
      refine Ev.step (fun k => by rw [spec_FormatPath.j0]) ?_
      have z := spec_FP_l0 a b l h8 (by omega) (by omega) b.toNat 0 acc (by omega) (by omega) (by omega)
      have e : (false || !(List.replicate b.toNat dots).isEmpty) = decide (b > 0) := by
        by_cases hb : b > 0
        · obtain ⟨n, hn⟩ : ∃ n, b.toNat = n + 1 := ⟨b.toNat - 1, by omega⟩
          rw [hn, List.replicate_succ, decide_eq_true hb]; rfl
        · rw [show b.toNat = 0 by omega, decide_eq_false hb]; rfl
      rw [parts, jj_append, e]
      exact z
    refine ev_ite (fun h => ?_) (fun h => ?_)
    · rw [root, if_pos h]; exact z sla (by rw [sla_size]; omega)
    · rw [root, if_neg h]; exact z ⟨#[]⟩ (by show 0 ≤ 1; omega)
  · rw [if_neg h]; exact ev_const rfl
theorem join_ev (l : List ByteArray) (h : l.length ≤ 1000000000) (hc : csum l ≤ 1000000000) : strings_Join.f l sla = some (jj l false ⟨#[]⟩) := by
  have h1 := jj_join l ⟨#[]⟩
  have h2 := jj_size l false ⟨#[]⟩
  have hs : (⟨#[]⟩ : ByteArray).size = 0 := rfl
  have e2 : sla.data.toList = [47] := rfl
  have e3 : (⟨#[]⟩ : ByteArray).data.toList = [] := rfl
  rw [e3, List.nil_append] at h1
  have h3 := congrArg List.length h1
  rw [szd] at h3
  unfold strings_Join.f
  rw [e2, ← h1, if_pos (by omega), if_pos (by rw [szd]; omega)]
theorem jj_root (l : List ByteArray) : sla ++ jj l false ⟨#[]⟩ = jj l false sla := by
  apply bytes_ext
  rw [dat_app, jj_join, jj_join]
  rfl
theorem impl_FP_l2 (s : ST) (a : Bool) (b : Int) (x3 : List ByteArray) (l : List ST) (n i : Int) (w : List ST) (R : ByteArray) (h3 : x3.length < 8796093022208) (HR : Ev (fun k => impl_FormatPath.l1 k (x3 ++ [stx s]) l n (wrap64 (i + 1)) a b w) R) (he : stx s = tt s.f1 s.f0) : ∀ (suf pre : List TS) (acc : ByteArray) (hb : (pre ++ suf).length ≤ 1048576) (hm : mu73 suf ≤ 1048576) (ha : acc.size + 5 * suf.length + 2 * mu73 suf ≤ 1000000000) (hr : tt suf acc = stx s), Ev (fun k => impl_FormatPath.l2 k x3 acc l n i (pre ++ suf) ((pre ++ suf).length : Int) (pre.length : Int) a b w) R
  | [], pre, acc, hb, hm, ha, hr => by
    refine Ev.step (fun k => by rw [impl_FormatPath.l2]) ?_
    refine ev_neg (by simp) (ev_pos h3 ?_)
    rw [tt] at hr
    rw [hr]
    exact HR
  | x :: suf, pre, acc, hb, hm, ha, hr => by
    have ex : rd_T73 (pre ++ x :: suf) (pre.length : Int) = x := rd_test (by simp)
    have hb' := hb
    simp only [List.length_append, List.length_cons] at hb'
    simp only [mu73, ms73, List.length_cons] at hm ha
    have hq := mQuote_size x.f1
    have h1 := one_size x
    simp only [ms73] at h1
    refine Ev.step (fun k => by rw [impl_FormatPath.l2]) ?_
    refine ev_pos (by simp only [List.length_append, List.length_cons]; omega) (ev_pos (by omega) (ev_pos (by simp only [List.length_append, List.length_cons]; omega) ?_))
    rw [ex, next_pre pre x (by omega)]
    refine ev_pos (by omega) (ev_pos (by rw [size_app, b1]; omega) ?_)
    refine ev_bind _ (impl_QuoteText_ev x.f1 (by omega)) ?_
    refine ev_pos (by rw [size_app, size_app, b1, b1]; omega) (ev_pos (by rw [size_app, size_app, size_app, b1, b1]; omega) (ev_pos (by show acc.size + (one x).size ≤ _; omega) ?_))
    rw [tt] at hr
    have z := impl_FP_l2 s a b x3 l n i w R h3 HR he suf (pre ++ [x]) (acc ++ one x) (by simpa using hb) (by omega) (by rw [size_app]; omega) hr
    rw [List.append_assoc, List.singleton_append] at z
    exact z
theorem impl_FP_l1 (a : Bool) (b : Int) (u : List ByteArray) (w : List ST) (hu : u.length ≤ 8) : ∀ (suf pre : List ST) (hb : (pre ++ suf).length ≤ 1048576) (hm : mu71 suf ≤ 1048576) (ha : csum (u ++ (pre ++ suf).map stx) ≤ 900000000), Ev (fun k => impl_FormatPath.l1 k (u ++ pre.map stx) (pre ++ suf) ((pre ++ suf).length : Int) (pre.length : Int) a b w) (jj (u ++ (pre ++ suf).map stx) false (root a))
  | [], pre, hb, hm, ha => by
    refine Ev.step (fun k => by rw [impl_FormatPath.l1]) ?_
    rw [List.append_nil] at *
    have hl : (u ++ pre.map stx).length ≤ 1000000000 := by rw [List.length_append, List.length_map]; omega
    have e := join_ev (u ++ pre.map stx) hl (by omega)
    have h2 := jj_size (u ++ pre.map stx) false ⟨#[]⟩
    have hs : (⟨#[]⟩ : ByteArray).size = 0 := rfl
    refine ev_neg (by omega) ?_
    refine ev_ite (fun h => ?_) (fun h => ?_)
    · refine ev_let _ e (ev_pos (by omega) ?_)
      rw [root, if_pos h, ← jj_root]
      exact ev_const rfl
    · rw [root, if_neg h]
      exact ev_let _ e (ev_const rfl)
  | s :: suf, pre, hb, hm, ha => by
    have ex : rd_T71 (pre ++ s :: suf) (pre.length : Int) = s := by unfold rd_T71; exact at_pre pre suf s _
    have hb' := hb
    simp only [List.length_append, List.length_cons] at hb'
    simp only [mu71, ms71] at hm
    refine Ev.step (fun k => by rw [impl_FormatPath.l1]) ?_
    refine ev_pos (by simp only [List.length_append, List.length_cons]; omega) (ev_pos (by omega) (ev_pos (by simp only [List.length_append, List.length_cons]; omega) ?_))
    rw [ex]
    have z := impl_FP_l1 a b u w hu suf (pre ++ [s]) (by simpa using hb) (by omega) (by simpa using ha)
    rw [List.append_assoc, List.singleton_append, List.map_append, ← List.append_assoc, ← next_pre pre s (by omega)] at z
    exact impl_FP_l2 s a b (u ++ pre.map stx) (pre ++ s :: suf) _ (pre.length : Int) w _ (by rw [List.length_append, List.length_map]; omega) z rfl s.f1 [] s.f0 (by rw [List.nil_append]; omega) (by omega) (by omega) rfl
theorem impl_FP_l0 (a : Bool) (b : Int) (l : List ST) (hb8 : b ≤ 8) (hb0 : 0 ≤ b) (hm : l.length + mu71 l ≤ 1048576) : ∀ (n j : Nat) (hn : (j : Int) + n = b), Ev (fun k => impl_FormatPath.l0 k (List.replicate j dots) (j : Int) a b l) (jj (parts b l) false (root a)) := by
  intro n
  induction n with
  | zero =>
    intro j hn
    have h := csum_stx l
    have e : j = b.toNat := by omega
    refine Ev.step (fun k => by rw [impl_FormatPath.l0]) ?_
    refine ev_neg (by omega) ?_
    have z := impl_FP_l1 a b (List.replicate j dots) l (by rw [List.length_replicate]; omega) l [] (by rw [List.nil_append]; omega) (by omega) (by rw [csum_append, csum_dots, List.nil_append]; omega)
    rw [List.map_nil, List.append_nil, List.nil_append, e] at z
    rw [e]
    exact z
  | succ n ih =>
    intro j hn
    have ej : wrap64 ((j : Int) + 1) = ((j + 1 : Nat) : Int) := by rw [w64 (by omega) (by omega)]; omega
    refine Ev.step (fun k => by rw [impl_FormatPath.l0]) ?_
    refine ev_pos (by omega) (ev_pos (by rw [List.length_replicate]; omega) ?_)
    have z := ih (j + 1) (by omega)
    rw [← ej, List.replicate_succ'] at z
    exact z
theorem impl_FormatPath_ev (a : Bool) (b : Int) (l : List ST) (hm : l.length + mu71 l ≤ 1048576) : Ev (fun k => impl_FormatPath.f k a b l) (mFP a b l) := by
  simp only [impl_FormatPath.f]
  refine ev_bind _ (impl_IsPath_ev a b l hm) ?_
  unfold mFP
  refine ev_ite (fun h => ?_) (fun h => ?_)
  · obtain ⟨h0, h8⟩ := mPath_b h
    rw [if_pos h]
    exact impl_FP_l0 a b l h8 h0 hm b.toNat 0 (by omega)
  · rw [if_neg h]; exact ev_const rfl

theorem FnExactFormatPath : laws_FnExactFormatPath.Pure := by
  rintro ⟨a, b, c⟩ ⟨_, _, g⟩
  refine Ev.rounds ?_
  show Ev (fun k => laws_FnExactFormatPath.f k a b c) true
  simp only [laws_FnExactFormatPath.f]
  refine sz_guard (szPath_ok a b c 1048576 g (by omega) (by omega)) (fun z hz ez => ?_)
  have hc : (cvl105 c).length + mu71 (cvl105 c) ≤ 1048576 := by rw [cvl105_length, mucv105]; omega
  refine ev_bind _ (toPath_ev a b c (by omega)) (ev_bind _ (spec_FormatPath_ev _ _ _ hc) ?_)
  refine ev_bind _ (toPath_ev a b c (by omega)) (ev_bind _ (impl_FormatPath_ev _ _ _ hc) ?_)
  refine ev_pos rfl ?_
  refine ev_bind _ (toPath_ev a b c (by omega)) (ev_bind _ (eqPath_ev a b (cvl105 c) (by omega)) ?_)
  exact ev_pos rfl (ev_const rfl)

end Go.Proofs.Ytmkhoakhfdjplaa.Pure.LFnExactFormatPath
namespace Go.Proofs.Ytmkhoakhfdjplaa.Pure
theorem FnExactFormatPath : PFnExactFormatPath.laws_FnExactFormatPath.Pure := LFnExactFormatPath.FnExactFormatPath
end Go.Proofs.Ytmkhoakhfdjplaa.Pure
