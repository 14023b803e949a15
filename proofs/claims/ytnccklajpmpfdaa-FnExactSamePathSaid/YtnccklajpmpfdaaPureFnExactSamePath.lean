/- For every two paths, the program's SamePath returns what the reference's SamePath returns. -/
import Derived.Test.YtnccklajpmpfdaaPFnExactSamePathx0
import Derived.Test.YtnccklajpmpfdaaPFnExactSamePathx1
import Derived.Test.YtnccklajpmpfdaaPFnExactSamePathx2
import Derived.Test.YtnccklajpmpfdaaPFnExactSamePathx3
import Derived.Test.YtnccklajpmpfdaaPFnExactSamePathx4
import Derived.Test.YtnccklajpmpfdaaPFnExactSamePathx5
import Derived.Test.YtnccklajpmpfdaaPFnExactSamePathx6
import Derived.Test.YtnccklajpmpfdaaPFnExactSamePathx7
import Derived.Test.YtnccklajpmpfdaaPFnExactSamePathx8
import Derived.Test.YtnccklajpmpfdaaQFnExactSamePath
import Derived.Test.YtnccklajpmpfdaaBase
namespace Go.Proofs.Ytnccklajpmpfdaa.Pure.LFnExactSamePath
open Go.RowKit Go.Proofs.Ytnccklajpmpfdaa.PFnExactSamePath Go.Proofs.YtnccklajpmpfdaaW.PrintWords Go.Proofs.YtnccklajpmpfdaaW.PrintLast Go.Proofs.YtnccklajpmpfdaaW.PrintMore Go.Proofs.Ytnccklajpmpfdaa.Base
set_option linter.unusedVariables false
set_option linter.unusedSimpArgs false

/-! #### the law's own helpers -/
def mustr : List ByteArray → Nat
  | [] => 0
  | x :: l => x.size + mustr l
theorem mustr_mem {l : List ByteArray} {x : ByteArray} (h : x ∈ l) : x.size ≤ mustr l := by
  induction l with
  | nil => cases h
  | cons y l ih =>
    simp only [mustr]
    rcases List.mem_cons.1 h with rfl | h
    · omega
    · have := ih h; omega
theorem mustr_append (l l' : List ByteArray) : mustr (l ++ l') = mustr l + mustr l' := by
  induction l with
  | nil => simp [mustr]
  | cons x l ih => simp only [List.cons_append, mustr, ih]; omega
def ms143 (x : S143) : Nat := (x.f0.size + (x.f1.size + 0))
def mu143 : List S143 → Nat
  | [] => 0
  | x :: l => ms143 x + mu143 l
theorem mu143_append (l l' : List S143) : mu143 (l ++ l') = mu143 l + mu143 l' := by
  induction l with
  | nil => simp [mu143]
  | cons x l ih => simp only [List.cons_append, mu143, ih]; omega
theorem mu143_mem {l : List S143} {x : S143} (h : x ∈ l) : ms143 x ≤ mu143 l := by
  induction l with
  | nil => cases h
  | cons y l ih =>
    simp only [mu143]
    rcases List.mem_cons.1 h with rfl | h
    · omega
    · have := ih h; omega
def ms124 (x : S124) : Nat := (x.f0.size + ((x.f1.length + mu143 x.f1) + 0))
def mu124 : List S124 → Nat
  | [] => 0
  | x :: l => ms124 x + mu124 l
theorem mu124_append (l l' : List S124) : mu124 (l ++ l') = mu124 l + mu124 l' := by
  induction l with
  | nil => simp [mu124]
  | cons x l ih => simp only [List.cons_append, mu124, ih]; omega
theorem mu124_mem {l : List S124} {x : S124} (h : x ∈ l) : ms124 x ≤ mu124 l := by
  induction l with
  | nil => cases h
  | cons y l ih =>
    simp only [mu124]
    rcases List.mem_cons.1 h with rfl | h
    · omega
    · have := ih h; omega
def ms103 (x : S103) : Nat := (x.f0.size + (x.f1.size + 0))
def mu103 : List S103 → Nat
  | [] => 0
  | x :: l => ms103 x + mu103 l
theorem mu103_append (l l' : List S103) : mu103 (l ++ l') = mu103 l + mu103 l' := by
  induction l with
  | nil => simp [mu103]
  | cons x l ih => simp only [List.cons_append, mu103, ih]; omega
theorem mu103_mem {l : List S103} {x : S103} (h : x ∈ l) : ms103 x ≤ mu103 l := by
  induction l with
  | nil => cases h
  | cons y l ih =>
    simp only [mu103]
    rcases List.mem_cons.1 h with rfl | h
    · omega
    · have := ih h; omega
def ms101 (x : S101) : Nat := (x.f0.size + ((x.f1.length + mu103 x.f1) + 0))
def mu101 : List S101 → Nat
  | [] => 0
  | x :: l => ms101 x + mu101 l
theorem mu101_append (l l' : List S101) : mu101 (l ++ l') = mu101 l + mu101 l' := by
  induction l with
  | nil => simp [mu101]
  | cons x l ih => simp only [List.cons_append, mu101, ih]; omega
theorem mu101_mem {l : List S101} {x : S101} (h : x ∈ l) : ms101 x ≤ mu101 l := by
  induction l with
  | nil => cases h
  | cons y l ih =>
    simp only [mu101]
    rcases List.mem_cons.1 h with rfl | h
    · omega
    · have := ih h; omega
theorem szTest_ok (v0 : ByteArray) (v1 : ByteArray) (left : Int) (g0 : v0.size ≤ maxLen) (g1 : v1.size ≤ maxLen) (h0 : 0 ≤ left) (h1 : left ≤ 1048576) : SzOk (fun k => laws_szTest.f v0 v1 left) left (v0.size + (v1.size + 0)) := by
  simp only [laws_szTest.f]
  have e : wrap64 (left - (v0.size : Int)) = left - (v0.size : Int) := w64 (by have := g0; unfold maxLen at this; omega) (by omega)
  simp only [e]; clear e
  refine sz_len ?_; intro q
  generalize ec : left - (v0.size : Int) = c0 at q ⊢
  have q' : c0 ≤ 1048576 := by omega
  have e : wrap64 (c0 - (v1.size : Int)) = c0 - (v1.size : Int) := w64 (by have := g1; unfold maxLen at this; omega) (by omega)
  simp only [e]; clear e
  refine sz_len ?_; intro q
  generalize ec : c0 - (v1.size : Int) = c1 at q ⊢
  have q' : c1 ≤ 1048576 := by omega
  exact sz_ret _ (by assumption)
theorem szTestS_l0 : ∀ (suf pre : List S143) (left : Int) (hb : (pre ++ suf).length ≤ maxLen) (g : ∀ y ∈ suf, G143 y) (h0 : 0 ≤ left) (h1 : left ≤ 1048576), SzOk (fun k => laws_szTestS.l0 k (pre ++ suf) left (pre.length : Int)) left (mu143 suf)
  | [], pre, left, hb, g, h0, h1 => by
    refine sz_step (fun k => by rw [laws_szTestS.l0]) ?_
    refine sz_neg (by simp) ?_
    exact sz_ret _ h0
  | x :: suf, pre, left, hb, g, h0, h1 => by
    have gx := g x List.mem_cons_self
    have ex : rd_T143 (pre ++ x :: suf) (pre.length : Int) = x := by unfold rd_T143; exact at_pre pre suf x _
    refine sz_step (fun k => by rw [laws_szTestS.l0]) ?_
    refine sz_pos (by simp only [List.length_append, List.length_cons]; omega) (sz_pos (by omega) ?_)
    rw [ex]
    rw [mu143]
    obtain ⟨gx0, gx1⟩ := gx
    refine sz_call (szTest_ok _ _ left gx0 gx1 (by assumption) (by omega)) ?_; intro c0 q ec
    have q' : c0 ≤ 1048576 := by omega
    rw [next_pre pre x (by have := hb; simp only [List.length_append, List.length_cons] at this; unfold maxLen at this; omega)]
    have z := szTestS_l0 suf (pre ++ [x]) c0 (by simpa using hb) (fun y hy => g y (List.mem_cons_of_mem _ hy)) (by assumption) (by omega)
    rw [List.append_assoc] at z
    exact z
theorem szTestS_ok (l : List S143) (left : Int) (g : l.length ≤ maxLen ∧ ∀ y ∈ l, G143 y) (h0 : 0 ≤ left) (h1 : left ≤ 1048576) : SzOk (fun k => laws_szTestS.f k l left) left (l.length + mu143 l) := by
  simp only [laws_szTestS.f]
  have e : wrap64 (left - (l.length : Int)) = left - (l.length : Int) := w64 (by have := g.1; unfold maxLen at this; omega) (by omega)
  simp only [e]; clear e
  refine sz_len ?_; intro q
  generalize ec : left - (l.length : Int) = c0 at q ⊢
  have q' : c0 ≤ 1048576 := by omega
  exact szTestS_l0 l [] c0 (by simpa using g.1) g.2 (by assumption) (by assumption)
theorem szStep_ok (v0 : ByteArray) (v1 : List S143) (left : Int) (g0 : v0.size ≤ maxLen) (g1 : v1.length ≤ maxLen ∧ ∀ y ∈ v1, G143 y) (h0 : 0 ≤ left) (h1 : left ≤ 1048576) : SzOk (fun k => laws_szStep.f k v0 v1 left) left (v0.size + ((v1.length + mu143 v1) + 0)) := by
  simp only [laws_szStep.f]
  have e : wrap64 (left - (v0.size : Int)) = left - (v0.size : Int) := w64 (by have := g0; unfold maxLen at this; omega) (by omega)
  simp only [e]; clear e
  refine sz_len ?_; intro q
  generalize ec : left - (v0.size : Int) = c0 at q ⊢
  have q' : c0 ≤ 1048576 := by omega
  refine sz_call (szTestS_ok _ _ g1 (by assumption) (by omega)) ?_; intro c1 q ec
  have q' : c1 ≤ 1048576 := by omega
  exact sz_ret _ (by assumption)
theorem szStepS_l0 : ∀ (suf pre : List S124) (left : Int) (hb : (pre ++ suf).length ≤ maxLen) (g : ∀ y ∈ suf, G124 y) (h0 : 0 ≤ left) (h1 : left ≤ 1048576), SzOk (fun k => laws_szStepS.l0 k (pre ++ suf) left (pre.length : Int)) left (mu124 suf)
  | [], pre, left, hb, g, h0, h1 => by
    refine sz_step (fun k => by rw [laws_szStepS.l0]) ?_
    refine sz_neg (by simp) ?_
    exact sz_ret _ h0
  | x :: suf, pre, left, hb, g, h0, h1 => by
    have gx := g x List.mem_cons_self
    have ex : rd_T124 (pre ++ x :: suf) (pre.length : Int) = x := by unfold rd_T124; exact at_pre pre suf x _
    refine sz_step (fun k => by rw [laws_szStepS.l0]) ?_
    refine sz_pos (by simp only [List.length_append, List.length_cons]; omega) (sz_pos (by omega) ?_)
    rw [ex]
    rw [mu124]
    obtain ⟨gx0, gx1⟩ := gx
    refine sz_call (szStep_ok _ _ left gx0 gx1 (by assumption) (by omega)) ?_; intro c0 q ec
    have q' : c0 ≤ 1048576 := by omega
    rw [next_pre pre x (by have := hb; simp only [List.length_append, List.length_cons] at this; unfold maxLen at this; omega)]
    have z := szStepS_l0 suf (pre ++ [x]) c0 (by simpa using hb) (fun y hy => g y (List.mem_cons_of_mem _ hy)) (by assumption) (by omega)
    rw [List.append_assoc] at z
    exact z
theorem szStepS_ok (l : List S124) (left : Int) (g : l.length ≤ maxLen ∧ ∀ y ∈ l, G124 y) (h0 : 0 ≤ left) (h1 : left ≤ 1048576) : SzOk (fun k => laws_szStepS.f k l left) left (l.length + mu124 l) := by
  simp only [laws_szStepS.f]
  have e : wrap64 (left - (l.length : Int)) = left - (l.length : Int) := w64 (by have := g.1; unfold maxLen at this; omega) (by omega)
  simp only [e]; clear e
  refine sz_len ?_; intro q
  generalize ec : left - (l.length : Int) = c0 at q ⊢
  have q' : c0 ≤ 1048576 := by omega
  exact szStepS_l0 l [] c0 (by simpa using g.1) g.2 (by assumption) (by assumption)
theorem szPath_ok (v0 : Bool) (v1 : Int) (v2 : List S124) (left : Int) (g2 : v2.length ≤ maxLen ∧ ∀ y ∈ v2, G124 y) (h0 : 0 ≤ left) (h1 : left ≤ 1048576) : SzOk (fun k => laws_szPath.f k v0 v1 v2 left) left ((v2.length + mu124 v2) + 0) := by
  simp only [laws_szPath.f]
  refine sz_call (szStepS_ok _ _ g2 (by assumption) (by omega)) ?_; intro c0 q ec
  have q' : c0 ≤ 1048576 := by omega
  exact sz_ret _ (by assumption)
def cv143 (x : S143) : S103 := ⟨x.f0, x.f1⟩
def cvl143 : List S143 → List S103
  | [] => []
  | x :: l => cv143 x :: cvl143 l
theorem cvl143_length (l : List S143) : (cvl143 l).length = l.length := by
  induction l with
  | nil => rfl
  | cons x l ih => simp only [cvl143, List.length_cons, ih]
theorem cvl143_append (l l' : List S143) : cvl143 (l ++ l') = cvl143 l ++ cvl143 l' := by
  induction l with
  | nil => rfl
  | cons x l ih => simp only [List.cons_append, cvl143, ih]
theorem cvl143_map (l : List S143) : cvl143 l = l.map cv143 := by
  induction l with
  | nil => rfl
  | cons x l ih => simp only [List.map_cons, cvl143, ih]
theorem mscv143 (x : S143) : ms103 (cv143 x) = ms143 x := by
  simp only [cv143, ms103, ms143]
theorem mucv143 (l : List S143) : mu103 (cvl143 l) = mu143 l := by
  induction l with
  | nil => rfl
  | cons x l ih => simp only [cvl143, mu103, mu143, mscv143, ih]
def cv124 (x : S124) : S101 := ⟨x.f0, (cvl143 x.f1)⟩
def cvl124 : List S124 → List S101
  | [] => []
  | x :: l => cv124 x :: cvl124 l
theorem cvl124_length (l : List S124) : (cvl124 l).length = l.length := by
  induction l with
  | nil => rfl
  | cons x l ih => simp only [cvl124, List.length_cons, ih]
theorem cvl124_append (l l' : List S124) : cvl124 (l ++ l') = cvl124 l ++ cvl124 l' := by
  induction l with
  | nil => rfl
  | cons x l ih => simp only [List.cons_append, cvl124, ih]
theorem cvl124_map (l : List S124) : cvl124 l = l.map cv124 := by
  induction l with
  | nil => rfl
  | cons x l ih => simp only [List.map_cons, cvl124, ih]
theorem mscv124 (x : S124) : ms101 (cv124 x) = ms124 x := by
  simp only [cv124, ms101, ms124, cvl143_length, mucv143]
theorem mucv124 (l : List S124) : mu101 (cvl124 l) = mu124 l := by
  induction l with
  | nil => rfl
  | cons x l ih => simp only [cvl124, mu101, mu124, mscv124, ih]
theorem toTest_ev (v0 : ByteArray) (v1 : ByteArray) (hm : (v0.size + (v1.size + 0)) ≤ 1048576) : Ev (fun k => laws_toTest.f v0 v1) (v0, v1) := by
  simp only [laws_toTest.f]
  exact ev_const rfl
theorem toTestS_l0 : ∀ (suf pre : List S143) (hb : (pre ++ suf).length ≤ 1048576) (hm : mu143 suf ≤ 1048576), Ev (fun k => laws_toTestS.l0 k (pre ++ suf) ((cvl143 pre) ++ List.replicate suf.length z103) (pre.length : Int)) (cvl143 (pre ++ suf))
  | [], pre, hb, hm => by
    refine Ev.step (fun k => by rw [laws_toTestS.l0]) ?_
    refine ev_neg (by simp) (ev_const ?_)
    simp
  | x :: suf, pre, hb, hm => by
    have ex : rd_T143 (pre ++ x :: suf) (pre.length : Int) = x := by unfold rd_T143; exact at_pre pre suf x _
    have hb' := hb
    simp only [List.length_append, List.length_cons] at hb'
    rw [mu143] at hm
    refine Ev.step (fun k => by rw [laws_toTestS.l0]) ?_
    refine ev_pos (by simp only [List.length_append, List.length_cons]; omega) (ev_pos (by omega) ?_)
    rw [ex]
    refine ev_bind _ (toTest_ev _ _ (by first | (simp only [ms143] at hm; omega) | omega)) ?_
    refine ev_pos (by simp only [List.length_append, cvl143_length, List.length_replicate, List.length_cons]; omega) ?_
    have es : (cvl143 pre ++ List.replicate (x :: suf).length z103).set ((pre.length : Int)).toNat (cv143 x) = cvl143 (pre ++ [x]) ++ List.replicate suf.length z103 := by
      have h2 := set_pre (cvl143 pre) (List.replicate suf.length z103) z103 (cv143 x)
      rw [cvl143_length] at h2
      rw [List.length_cons, List.replicate_succ, h2, cvl143_append]; rfl
    rw [next_pre pre x (by omega)]
    have z := toTestS_l0 suf (pre ++ [x]) (by simpa using hb) (by omega)
    rw [List.append_assoc] at z
    rw [← es] at z
    have e2 : (⟨(cv143 x).f0, (cv143 x).f1⟩ : S103) = cv143 x := by rfl
    show Ev (fun k => laws_toTestS.l0 k (pre ++ x :: suf) ((cvl143 pre ++ List.replicate (x :: suf).length z103).set ((pre.length : Int)).toNat (⟨(cv143 x).f0, (cv143 x).f1⟩ : S103)) ((pre ++ [x]).length : Int)) (cvl143 (pre ++ x :: suf))
    rw [e2]
    exact z
theorem toTestS_ev (l : List S143) (hm : (l.length + mu143 l) ≤ 1048576) : Ev (fun k => laws_toTestS.f k l) (cvl143 l) := by
  simp only [laws_toTestS.f]
  have hl : l.length ≤ 1048576 := by omega
  refine ev_pos (by omega) (ev_pos (by omega) ?_)
  have z := toTestS_l0 l [] (by simpa using hl) (by omega)
  simpa [cvl143] using z
theorem toStep_ev (v0 : ByteArray) (v1 : List S143) (hm : (v0.size + ((v1.length + mu143 v1) + 0)) ≤ 1048576) : Ev (fun k => laws_toStep.f k v0 v1) (v0, (cvl143 v1)) := by
  simp only [laws_toStep.f]
  refine ev_bind _ (toTestS_ev _ (by omega)) ?_
  exact ev_const rfl
theorem toStepS_l0 : ∀ (suf pre : List S124) (hb : (pre ++ suf).length ≤ 1048576) (hm : mu124 suf ≤ 1048576), Ev (fun k => laws_toStepS.l0 k (pre ++ suf) ((cvl124 pre) ++ List.replicate suf.length z101) (pre.length : Int)) (cvl124 (pre ++ suf))
  | [], pre, hb, hm => by
    refine Ev.step (fun k => by rw [laws_toStepS.l0]) ?_
    refine ev_neg (by simp) (ev_const ?_)
    simp
  | x :: suf, pre, hb, hm => by
    have ex : rd_T124 (pre ++ x :: suf) (pre.length : Int) = x := by unfold rd_T124; exact at_pre pre suf x _
    have hb' := hb
    simp only [List.length_append, List.length_cons] at hb'
    rw [mu124] at hm
    refine Ev.step (fun k => by rw [laws_toStepS.l0]) ?_
    refine ev_pos (by simp only [List.length_append, List.length_cons]; omega) (ev_pos (by omega) ?_)
    rw [ex]
    refine ev_bind _ (toStep_ev _ _ (by first | (simp only [ms124] at hm; omega) | omega)) ?_
    refine ev_pos (by simp only [List.length_append, cvl124_length, List.length_replicate, List.length_cons]; omega) ?_
    have es : (cvl124 pre ++ List.replicate (x :: suf).length z101).set ((pre.length : Int)).toNat (cv124 x) = cvl124 (pre ++ [x]) ++ List.replicate suf.length z101 := by
      have h2 := set_pre (cvl124 pre) (List.replicate suf.length z101) z101 (cv124 x)
      rw [cvl124_length] at h2
      rw [List.length_cons, List.replicate_succ, h2, cvl124_append]; rfl
    rw [next_pre pre x (by omega)]
    have z := toStepS_l0 suf (pre ++ [x]) (by simpa using hb) (by omega)
    rw [List.append_assoc] at z
    rw [← es] at z
    have e2 : (⟨(cv124 x).f0, (cv124 x).f1⟩ : S101) = cv124 x := by rfl
    show Ev (fun k => laws_toStepS.l0 k (pre ++ x :: suf) ((cvl124 pre ++ List.replicate (x :: suf).length z101).set ((pre.length : Int)).toNat (⟨(cv124 x).f0, (cv124 x).f1⟩ : S101)) ((pre ++ [x]).length : Int)) (cvl124 (pre ++ x :: suf))
    rw [e2]
    exact z
theorem toStepS_ev (l : List S124) (hm : (l.length + mu124 l) ≤ 1048576) : Ev (fun k => laws_toStepS.f k l) (cvl124 l) := by
  simp only [laws_toStepS.f]
  have hl : l.length ≤ 1048576 := by omega
  refine ev_pos (by omega) (ev_pos (by omega) ?_)
  have z := toStepS_l0 l [] (by simpa using hl) (by omega)
  simpa [cvl124] using z
theorem toPath_ev (v0 : Bool) (v1 : Int) (v2 : List S124) (hm : ((v2.length + mu124 v2) + 0) ≤ 1048576) : Ev (fun k => laws_toPath.f k v0 v1 v2) (v0, v1, (cvl124 v2)) := by
  simp only [laws_toPath.f]
  refine ev_bind _ (toStepS_ev _ (by omega)) ?_
  exact ev_const rfl
theorem eqTest_ev (v0 : ByteArray) (v1 : ByteArray) (hm : (v0.size + (v1.size + 0)) ≤ 4611686018427387904) : Ev (fun k => laws_eqTest.f v0 v1 v0 v1) true := by
  simp only [laws_eqTest.f]
  refine ev_pos (by simp) ?_
  refine ev_pos (by simp) ?_
  exact ev_const rfl
theorem eqTestS_l0 : ∀ (suf pre : List S103) (hb : (pre ++ suf).length ≤ 4611686018427387904) (hm : mu103 suf ≤ 4611686018427387904), Ev (fun k => laws_eqTestS.l0 k (pre ++ suf) (pre ++ suf) (pre.length : Int)) true
  | [], pre, hb, hm => by
    refine Ev.step (fun k => by rw [laws_eqTestS.l0]) ?_
    exact ev_neg (by simp) (ev_const rfl)
  | x :: suf, pre, hb, hm => by
    have ex : rd_T103 (pre ++ x :: suf) (pre.length : Int) = x := by unfold rd_T103; exact at_pre pre suf x _
    have hb' := hb
    simp only [List.length_append, List.length_cons] at hb'
    rw [mu103] at hm
    refine Ev.step (fun k => by rw [laws_eqTestS.l0]) ?_
    refine ev_pos (by simp only [List.length_append, List.length_cons]; omega) (ev_pos (by omega) (ev_pos (by simp only [List.length_append, List.length_cons]; omega) ?_))
    rw [ex]
    refine ev_bind _ (eqTest_ev _ _ (by first | (simp only [ms103] at hm; omega) | omega)) (ev_pos (by simp) ?_)
    rw [next_pre pre x (by omega)]
    have z := eqTestS_l0 suf (pre ++ [x]) (by simpa using hb) (by omega)
    rw [List.append_assoc] at z
    exact z
theorem eqTestS_ev (l : List S103) (hm : (l.length + mu103 l) ≤ 4611686018427387904) : Ev (fun k => laws_eqTestS.f k l l) true := by
  simp only [laws_eqTestS.f]
  refine ev_pos (by simp) ?_
  exact eqTestS_l0 l [] (by rw [List.nil_append]; omega) (by omega)
theorem eqStep_ev (v0 : ByteArray) (v1 : List S103) (hm : (v0.size + ((v1.length + mu103 v1) + 0)) ≤ 4611686018427387904) : Ev (fun k => laws_eqStep.f k v0 v1 v0 v1) true := by
  simp only [laws_eqStep.f]
  refine ev_pos (by simp) ?_
  refine ev_bind _ (eqTestS_ev _ (by omega)) (ev_pos (by simp) ?_)
  exact ev_const rfl
theorem eqStepS_l0 : ∀ (suf pre : List S101) (hb : (pre ++ suf).length ≤ 4611686018427387904) (hm : mu101 suf ≤ 4611686018427387904), Ev (fun k => laws_eqStepS.l0 k (pre ++ suf) (pre ++ suf) (pre.length : Int)) true
  | [], pre, hb, hm => by
    refine Ev.step (fun k => by rw [laws_eqStepS.l0]) ?_
    exact ev_neg (by simp) (ev_const rfl)
  | x :: suf, pre, hb, hm => by
    have ex : rd_T101 (pre ++ x :: suf) (pre.length : Int) = x := by unfold rd_T101; exact at_pre pre suf x _
    have hb' := hb
    simp only [List.length_append, List.length_cons] at hb'
    rw [mu101] at hm
    refine Ev.step (fun k => by rw [laws_eqStepS.l0]) ?_
    refine ev_pos (by simp only [List.length_append, List.length_cons]; omega) (ev_pos (by omega) (ev_pos (by simp only [List.length_append, List.length_cons]; omega) ?_))
    rw [ex]
    refine ev_bind _ (eqStep_ev _ _ (by first | (simp only [ms101] at hm; omega) | omega)) (ev_pos (by simp) ?_)
    rw [next_pre pre x (by omega)]
    have z := eqStepS_l0 suf (pre ++ [x]) (by simpa using hb) (by omega)
    rw [List.append_assoc] at z
    exact z
theorem eqStepS_ev (l : List S101) (hm : (l.length + mu101 l) ≤ 4611686018427387904) : Ev (fun k => laws_eqStepS.f k l l) true := by
  simp only [laws_eqStepS.f]
  refine ev_pos (by simp) ?_
  exact eqStepS_l0 l [] (by rw [List.nil_append]; omega) (by omega)
theorem eqPath_ev (v0 : Bool) (v1 : Int) (v2 : List S101) (hm : ((v2.length + mu101 v2) + 0) ≤ 4611686018427387904) : Ev (fun k => laws_eqPath.f k v0 v1 v2 v0 v1 v2) true := by
  simp only [laws_eqPath.f]
  refine ev_neg (by simp) ?_
  refine ev_pos (by simp) ?_
  refine ev_bind _ (eqStepS_ev _ (by omega)) (ev_pos (by simp) ?_)
  exact ev_const rfl

/-! #### SamePath -/
def sT (x y : S103) : Bool := decide (x.f0.toList = y.f0.toList) && decide (x.f1.toList = y.f1.toList)
def sTl : List S103 → List S103 → Bool
  | x :: l, y :: l' => sT x y && sTl l l'
  | _, _ => true
def sS (x y : S101) : Bool := decide (x.f0.toList = y.f0.toList) && (decide (x.f1.length = y.f1.length) && sTl x.f1 y.f1)
def sSl : List S101 → List S101 → Bool
  | x :: l, y :: l' => sS x y && sSl l l'
  | _, _ => true
def mSamePath (a : Bool) (b : Int) (c : List S101) (a' : Bool) (b' : Int) (c' : List S101) : Bool := !(a != a') && (decide (b = b') && (decide (c.length = c'.length) && sSl c c'))
theorem ne_len {α : Type} (c c' : List α) : ((c.length : Int) != (c'.length : Int)) = !decide (c.length = c'.length) := by
  by_cases h : c.length = c'.length
  · rw [decide_eq_true h, h]; simp
  · rw [decide_eq_false h]; simp; omega
theorem tests_ne (x y : S103) : (!((x.f0.toList) == (y.f0.toList)) || (!((x.f1.toList) == (y.f1.toList)))) = !sT x y := by
  unfold sT
  by_cases h : x.f0.toList = y.f0.toList <;> by_cases h2 : x.f1.toList = y.f1.toList <;> simp [h, h2]
theorem spec_SP_l1 (i : Int) (a a' : Bool) (b b' : Int) (L M : List S101) (n1 n2 : ByteArray) (r : Bool) (hc : Ev (fun k => spec_SamePath.l0 k (wrap64 (i + 1)) a b L a' b' M) r) : ∀ (sufT sufT' preT preT' : List S103) (hp : preT.length = preT'.length) (hs : sufT.length = sufT'.length) (hb : (preT ++ sufT).length ≤ 4611686018427387904), Ev (fun k => spec_SamePath.l1 k i (preT.length : Int) a b L a' b' M n1 (preT ++ sufT) n2 (preT' ++ sufT')) (sTl sufT sufT' && r)
  | [], sufT', preT, preT', hp, hs, hb => by
    refine Ev.step (fun k => by rw [spec_SamePath.l1]) ?_
    refine ev_neg (by simp) ?_
    rw [sTl, Bool.true_and]
    · exact hc
    · intro x l y l' h; cases h
  | x :: sufT, [], preT, preT', hp, hs, hb => by simp at hs
  | x :: sufT, y :: sufT', preT, preT', hp, hs, hb => by
    have ex : rd_T103 (preT ++ x :: sufT) (preT.length : Int) = x := by unfold rd_T103; exact at_pre preT sufT x _
    have ey : rd_T103 (preT' ++ y :: sufT') (preT.length : Int) = y := by unfold rd_T103; rw [hp]; exact at_pre preT' sufT' y _
    have hb' := hb
    simp only [List.length_append, List.length_cons] at hb'
    simp only [List.length_cons] at hs
    refine Ev.step (fun k => by rw [spec_SamePath.l1]) ?_
    refine ev_pos (by simp only [List.length_append, List.length_cons]; omega) (ev_pos (by omega) (ev_pos (by simp only [List.length_append, List.length_cons]; omega) ?_))
    rw [ex, ey, tests_ne, next_pre preT x (by omega), sTl]
    have z := spec_SP_l1 i a a' b b' L M n1 n2 r hc sufT sufT' (preT ++ [x]) (preT' ++ [y]) (by simp [hp]) (by omega) (by simpa using hb)
    rw [List.append_assoc, List.append_assoc] at z
    refine ev_ite (fun h => ?_) (fun h => ?_)
    · rw [show sT x y = false by simpa using h, Bool.false_and, Bool.false_and]; exact ev_const rfl
    · rw [show sT x y = true by simpa using h, Bool.true_and]; exact z
theorem spec_SP_l0 (a a' : Bool) (b b' : Int) : ∀ (suf suf' pre pre' : List S101) (hp : pre.length = pre'.length) (hs : suf.length = suf'.length) (hb : (pre ++ suf).length ≤ 1048576) (hm : mu101 suf ≤ 1048576), Ev (fun k => spec_SamePath.l0 k (pre.length : Int) a b (pre ++ suf) a' b' (pre' ++ suf')) (sSl suf suf')
  | [], suf', pre, pre', hp, hs, hb, hm => by
    refine Ev.step (fun k => by rw [spec_SamePath.l0]) ?_
    refine ev_neg (by simp) (ev_const ?_)
    rw [sSl]
    intro x l y l' h; cases h
  | x :: suf, [], pre, pre', hp, hs, hb, hm => by simp at hs
  | x :: suf, y :: suf', pre, pre', hp, hs, hb, hm => by
    have ex : rd_T101 (pre ++ x :: suf) (pre.length : Int) = x := by unfold rd_T101; exact at_pre pre suf x _
    have ey : rd_T101 (pre' ++ y :: suf') (pre.length : Int) = y := by unfold rd_T101; rw [hp]; exact at_pre pre' suf' y _
    have hb' := hb
    simp only [List.length_append, List.length_cons] at hb'
    simp only [List.length_cons] at hs
    rw [mu101] at hm
    have hx : x.f1.length ≤ 1048576 := by simp only [ms101] at hm; omega
    refine Ev.step (fun k => by rw [spec_SamePath.l0]) ?_
    refine ev_pos (by simp only [List.length_append, List.length_cons]; omega) (ev_pos (by omega) (ev_pos (by simp only [List.length_append, List.length_cons]; omega) ?_))
    rw [ex, ey, ne_len, sSl, sS]
    have z := spec_SP_l0 a a' b b' suf suf' (pre ++ [x]) (pre' ++ [y]) (by simp [hp]) (by omega) (by simpa using hb) (by omega)
    rw [List.append_assoc, List.append_assoc, ← next_pre pre x (by omega)] at z
    refine ev_ite (fun h => ?_) (fun h => ?_)
    · rw [decide_eq_true h, Bool.true_and]
      refine Ev.step (fun k => by rw [spec_SamePath.j2]) ?_
      refine ev_ite (fun h2 => ?_) (fun h2 => ?_)
      · rw [show decide (x.f1.length = y.f1.length) = false by simpa using h2, Bool.false_and, Bool.false_and]; exact ev_const rfl
      · have h3 : x.f1.length = y.f1.length := by simpa using h2
        rw [decide_eq_true h3, Bool.true_and]
        exact spec_SP_l1 (pre.length : Int) a a' b b' _ _ x.f0 y.f0 _ z x.f1 y.f1 [] [] rfl h3 (by simp; omega)
    · rw [decide_eq_false h, Bool.false_and, Bool.false_and]
      refine Ev.step (fun k => by rw [spec_SamePath.j2]) ?_
      exact ev_pos rfl (ev_const rfl)
theorem spec_SamePath_ev (a : Bool) (b : Int) (c : List S101) (a' : Bool) (b' : Int) (c' : List S101) (hm : c.length + mu101 c ≤ 1048576) : Ev (fun k => spec_SamePath.f k a b c a' b' c') (mSamePath a b c a' b' c') := by
  simp only [spec_SamePath.f]
  unfold mSamePath
  have bad : Ev (fun k => spec_SamePath.j0 k true a b c a' b' c') false := by
    refine Ev.step (fun k => by rw [spec_SamePath.j0]) ?_
    exact ev_pos rfl (ev_const rfl)
  refine ev_ite (fun h => ?_) (fun h => ?_)
  · rw [h]; exact bad
  · rw [Bool.eq_false_iff.mpr h, Bool.not_false, Bool.true_and]
    refine ev_ite (fun h2 => ?_) (fun h2 => ?_)
    · rw [decide_eq_true h2, Bool.true_and, ne_len]
      by_cases h3 : c.length = c'.length
      · rw [decide_eq_true h3, Bool.true_and, Bool.not_true]
        refine Ev.step (fun k => by rw [spec_SamePath.j0]) ?_
        refine ev_neg (by simp) ?_
        exact spec_SP_l0 a a' b b' c c' [] [] rfl h3 (by simp; omega) (by omega)
      · rw [decide_eq_false h3, Bool.false_and, Bool.not_false]; exact bad
    · rw [decide_eq_false h2, Bool.false_and]; exact bad
theorem impl_SP_l1 (i : Int) (a a' : Bool) (b b' : Int) (L M : List S101) (n1 n2 : ByteArray) (r : Bool) (hc : Ev (fun k => impl_SamePath.l0 k (L.length : Int) (wrap64 (i + 1)) a b L a' b' M) r) : ∀ (sufT sufT' preT preT' : List S103) (hp : preT.length = preT'.length) (hs : sufT.length = sufT'.length) (hb : (preT ++ sufT).length ≤ 4611686018427387904), Ev (fun k => impl_SamePath.l1 k (L.length : Int) i ((preT ++ sufT).length : Int) (preT.length : Int) a b L a' b' M n1 (preT ++ sufT) n2 (preT' ++ sufT')) (sTl sufT sufT' && r)
  | [], sufT', preT, preT', hp, hs, hb => by
    refine Ev.step (fun k => by rw [impl_SamePath.l1]) ?_
    refine ev_neg (by simp) ?_
    rw [sTl, Bool.true_and]
    · exact hc
    · intro x l y l' h; cases h
  | x :: sufT, [], preT, preT', hp, hs, hb => by simp at hs
  | x :: sufT, y :: sufT', preT, preT', hp, hs, hb => by
    have ex : rd_T103 (preT ++ x :: sufT) (preT.length : Int) = x := by unfold rd_T103; exact at_pre preT sufT x _
    have ey : rd_T103 (preT' ++ y :: sufT') (preT.length : Int) = y := by unfold rd_T103; rw [hp]; exact at_pre preT' sufT' y _
    have hb' := hb
    simp only [List.length_append, List.length_cons] at hb'
    simp only [List.length_cons] at hs
    refine Ev.step (fun k => by rw [impl_SamePath.l1]) ?_
    refine ev_pos (by simp only [List.length_append, List.length_cons]; omega) (ev_pos (by omega) (ev_pos (by simp only [List.length_append, List.length_cons]; omega) (ev_pos (by simp only [List.length_append, List.length_cons]; omega) ?_)))
    rw [ex, ey, tests_ne, next_pre preT x (by omega), sTl]
    have z := impl_SP_l1 i a a' b b' L M n1 n2 r hc sufT sufT' (preT ++ [x]) (preT' ++ [y]) (by simp [hp]) (by omega) (by simpa using hb)
    rw [List.append_assoc, List.append_assoc] at z
    refine ev_ite (fun h => ?_) (fun h => ?_)
    · rw [show sT x y = false by simpa using h, Bool.false_and, Bool.false_and]; exact ev_const rfl
    · rw [show sT x y = true by simpa using h, Bool.true_and]; exact z
theorem impl_SP_l0 (a a' : Bool) (b b' : Int) : ∀ (suf suf' pre pre' : List S101) (hp : pre.length = pre'.length) (hs : suf.length = suf'.length) (hb : (pre ++ suf).length ≤ 1048576) (hm : mu101 suf ≤ 1048576), Ev (fun k => impl_SamePath.l0 k ((pre ++ suf).length : Int) (pre.length : Int) a b (pre ++ suf) a' b' (pre' ++ suf')) (sSl suf suf')
  | [], suf', pre, pre', hp, hs, hb, hm => by
    refine Ev.step (fun k => by rw [impl_SamePath.l0]) ?_
    refine ev_neg (by simp) (ev_const ?_)
    rw [sSl]
    intro x l y l' h; cases h
  | x :: suf, [], pre, pre', hp, hs, hb, hm => by simp at hs
  | x :: suf, y :: suf', pre, pre', hp, hs, hb, hm => by
    have ex : rd_T101 (pre ++ x :: suf) (pre.length : Int) = x := by unfold rd_T101; exact at_pre pre suf x _
    have ey : rd_T101 (pre' ++ y :: suf') (pre.length : Int) = y := by unfold rd_T101; rw [hp]; exact at_pre pre' suf' y _
    have hb' := hb
    simp only [List.length_append, List.length_cons] at hb'
    simp only [List.length_cons] at hs
    rw [mu101] at hm
    have hx : x.f1.length ≤ 1048576 := by simp only [ms101] at hm; omega
    refine Ev.step (fun k => by rw [impl_SamePath.l0]) ?_
    refine ev_pos (by simp only [List.length_append, List.length_cons]; omega) (ev_pos (by omega) (ev_pos (by simp only [List.length_append, List.length_cons]; omega) (ev_pos (by simp only [List.length_append, List.length_cons]; omega) ?_)))
    rw [ex, ey, ne_len, sSl, sS]
    have z := impl_SP_l0 a a' b b' suf suf' (pre ++ [x]) (pre' ++ [y]) (by simp [hp]) (by omega) (by simpa using hb) (by omega)
    rw [List.append_assoc, List.append_assoc, ← next_pre pre x (by omega)] at z
    refine ev_ite (fun h => ?_) (fun h => ?_)
    · rw [decide_eq_true h, Bool.true_and]
      refine Ev.step (fun k => by rw [impl_SamePath.j2]) ?_
      refine ev_ite (fun h2 => ?_) (fun h2 => ?_)
      · rw [show decide (x.f1.length = y.f1.length) = false by simpa using h2, Bool.false_and, Bool.false_and]; exact ev_const rfl
      · have h3 : x.f1.length = y.f1.length := by simpa using h2
        rw [decide_eq_true h3, Bool.true_and]
        exact impl_SP_l1 (pre.length : Int) a a' b b' _ _ x.f0 y.f0 _ z x.f1 y.f1 [] [] rfl h3 (by simp; omega)
    · rw [decide_eq_false h, Bool.false_and, Bool.false_and]
      refine Ev.step (fun k => by rw [impl_SamePath.j2]) ?_
      exact ev_pos rfl (ev_const rfl)
theorem impl_SamePath_ev (a : Bool) (b : Int) (c : List S101) (a' : Bool) (b' : Int) (c' : List S101) (hm : c.length + mu101 c ≤ 1048576) : Ev (fun k => impl_SamePath.f k a b c a' b' c') (mSamePath a b c a' b' c') := by
  simp only [impl_SamePath.f]
  unfold mSamePath
  have bad : Ev (fun k => impl_SamePath.j0 k true a b c a' b' c') false := by
    refine Ev.step (fun k => by rw [impl_SamePath.j0]) ?_
    exact ev_pos rfl (ev_const rfl)
  refine ev_ite (fun h => ?_) (fun h => ?_)
  · rw [h]; exact bad
  · rw [Bool.eq_false_iff.mpr h, Bool.not_false, Bool.true_and]
    refine ev_ite (fun h2 => ?_) (fun h2 => ?_)
    · rw [decide_eq_true h2, Bool.true_and, ne_len]
      by_cases h3 : c.length = c'.length
      · rw [decide_eq_true h3, Bool.true_and, Bool.not_true]
        refine Ev.step (fun k => by rw [impl_SamePath.j0]) ?_
        refine ev_neg (by simp) ?_
        exact impl_SP_l0 a a' b b' c c' [] [] rfl h3 (by simp; omega) (by omega)
      · rw [decide_eq_false h3, Bool.false_and, Bool.not_false]; exact bad
    · rw [decide_eq_false h2, Bool.false_and]; exact bad

theorem FnExactSamePath : laws_FnExactSamePath.Pure := by
  rintro ⟨a, b, c⟩ ⟨a', b', c'⟩ ⟨_, _, g⟩ ⟨_, _, g'⟩
  refine Ev.rounds ?_
  show Ev (fun k => laws_FnExactSamePath.f k a b c a' b' c') true
  simp only [laws_FnExactSamePath.f]
  refine sz_guard (szPath_ok a b c 1048576 g (by omega) (by omega)) (fun z hz ez => ?_)
  refine sz_guard (szPath_ok a' b' c' z g' (by omega) (by omega)) (fun z' hz' ez' => ?_)
  have hc : (cvl124 c).length + mu101 (cvl124 c) ≤ 1048576 := by rw [cvl124_length, mucv124]; omega
  have hc' : (cvl124 c').length + mu101 (cvl124 c') ≤ 1048576 := by rw [cvl124_length, mucv124]; omega
  refine ev_bind _ (toPath_ev a b c (by omega)) (ev_bind _ (toPath_ev a' b' c' (by omega)) (ev_bind _ (spec_SamePath_ev _ _ _ _ _ _ hc) ?_))
  refine ev_bind _ (toPath_ev a b c (by omega)) (ev_bind _ (toPath_ev a' b' c' (by omega)) (ev_bind _ (impl_SamePath_ev _ _ _ _ _ _ hc) ?_))
  refine ev_neg (by simp) ?_
  refine ev_bind _ (toPath_ev a b c (by omega)) (ev_bind _ (eqPath_ev a b (cvl124 c) (by omega)) (ev_pos rfl ?_))
  refine ev_bind _ (toPath_ev a' b' c' (by omega)) (ev_bind _ (eqPath_ev a' b' (cvl124 c') (by omega)) ?_)
  exact ev_pos rfl (ev_const rfl)

end Go.Proofs.Ytnccklajpmpfdaa.Pure.LFnExactSamePath
namespace Go.Proofs.Ytnccklajpmpfdaa.Pure
theorem FnExactSamePath : PFnExactSamePath.laws_FnExactSamePath.Pure := LFnExactSamePath.FnExactSamePath
end Go.Proofs.Ytnccklajpmpfdaa.Pure
