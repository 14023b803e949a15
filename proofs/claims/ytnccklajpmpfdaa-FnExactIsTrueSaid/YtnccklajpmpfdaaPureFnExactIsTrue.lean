/- For every worth, the program's IsTrue returns what the reference's IsTrue returns. -/
import Derived.Test.YtnccklajpmpfdaaPFnExactIsTruex0
import Derived.Test.YtnccklajpmpfdaaPFnExactIsTruex1
import Derived.Test.YtnccklajpmpfdaaPFnExactIsTruex2
import Derived.Test.YtnccklajpmpfdaaQFnExactIsTrue
import Derived.Test.YtnccklajpmpfdaaBase
namespace Go.Proofs.Ytnccklajpmpfdaa.Pure.LFnExactIsTrue
open Go.RowKit Go.Proofs.Ytnccklajpmpfdaa.PFnExactIsTrue Go.Proofs.YtnccklajpmpfdaaW.PrintWords Go.Proofs.YtnccklajpmpfdaaW.PrintLast Go.Proofs.YtnccklajpmpfdaaW.PrintMore Go.Proofs.Ytnccklajpmpfdaa.Base
set_option linter.unusedVariables false
set_option linter.unusedSimpArgs false

/-! #### the law's own helpers -/
def mustr : List ByteArray → Nat
  | [] => 0
  | x :: l => x.size + mustr l
theorem mustr_mem {l : List ByteArray} {x : ByteArray} (h : x ∈ l) : x.size ≤ mustr l := by
  induction l with
  | nil => cases h
  | cons y l ih =>
    simp only [mustr]
    rcases List.mem_cons.1 h with rfl | h
    · omega
    · have := ih h; omega
theorem mustr_append (l l' : List ByteArray) : mustr (l ++ l') = mustr l + mustr l' := by
  induction l with
  | nil => simp [mustr]
  | cons x l ih => simp only [List.cons_append, mustr, ih]; omega
theorem szStringS_l0 : ∀ (suf pre : List ByteArray) (left : Int) (hb : (pre ++ suf).length ≤ maxLen) (g : ∀ y ∈ suf, y.size ≤ maxLen) (h0 : 0 ≤ left) (h1 : left ≤ 1048576), SzOk (fun k => laws_szStringS.l0 k (pre ++ suf) left (pre.length : Int)) left (mustr suf)
  | [], pre, left, hb, g, h0, h1 => by
    refine sz_step (fun k => by rw [laws_szStringS.l0]) ?_
    refine sz_neg (by simp) ?_
    exact sz_ret _ h0
  | x :: suf, pre, left, hb, g, h0, h1 => by
    have gx := g x List.mem_cons_self
    have ex : rdOf ByteArray.empty (pre ++ x :: suf) (pre.length : Int) = x := by unfold rdOf; exact at_pre pre suf x _
    refine sz_step (fun k => by rw [laws_szStringS.l0]) ?_
    refine sz_pos (by simp only [List.length_append, List.length_cons]; omega) (sz_pos (by omega) ?_)
    rw [ex]
    rw [mustr]
    have e : wrap64 (left - (x.size : Int)) = left - (x.size : Int) := w64 (by have := gx; unfold maxLen at this; omega) (by omega)
    simp only [e]; clear e
    refine sz_len ?_; intro q
    generalize ec : left - (x.size : Int) = c0 at q ⊢
    have q' : c0 ≤ 1048576 := by omega
    rw [next_pre pre x (by have := hb; simp only [List.length_append, List.length_cons] at this; unfold maxLen at this; omega)]
    have z := szStringS_l0 suf (pre ++ [x]) c0 (by simpa using hb) (fun y hy => g y (List.mem_cons_of_mem _ hy)) (by assumption) (by omega)
    rw [List.append_assoc] at z
    exact z
theorem szStringS_ok (l : List ByteArray) (left : Int) (g : l.length ≤ maxLen ∧ ∀ y ∈ l, y.size ≤ maxLen) (h0 : 0 ≤ left) (h1 : left ≤ 1048576) : SzOk (fun k => laws_szStringS.f k l left) left (l.length + mustr l) := by
  simp only [laws_szStringS.f]
  have e : wrap64 (left - (l.length : Int)) = left - (l.length : Int) := w64 (by have := g.1; unfold maxLen at this; omega) (by omega)
  simp only [e]; clear e
  refine sz_len ?_; intro q
  generalize ec : left - (l.length : Int) = c0 at q ⊢
  have q' : c0 ≤ 1048576 := by omega
  exact szStringS_l0 l [] c0 (by simpa using g.1) g.2 (by assumption) (by assumption)
theorem szWorth_ok (v0 : Int) (v1 : Int) (v2 : ByteArray) (v3 : Bool) (v4 : List ByteArray) (left : Int) (g2 : v2.size ≤ maxLen) (g4 : v4.length ≤ maxLen ∧ ∀ y ∈ v4, y.size ≤ maxLen) (h0 : 0 ≤ left) (h1 : left ≤ 1048576) : SzOk (fun k => laws_szWorth.f k v0 v1 v2 v3 v4 left) left (v2.size + ((v4.length + mustr v4) + 0)) := by
  simp only [laws_szWorth.f]
  have e : wrap64 (left - (v2.size : Int)) = left - (v2.size : Int) := w64 (by have := g2; unfold maxLen at this; omega) (by omega)
  simp only [e]; clear e
  refine sz_len ?_; intro q
  generalize ec : left - (v2.size : Int) = c0 at q ⊢
  have q' : c0 ≤ 1048576 := by omega
  refine sz_call (szStringS_ok _ _ g4 (by assumption) (by omega)) ?_; intro c1 q ec
  have q' : c1 ≤ 1048576 := by omega
  exact sz_ret _ (by assumption)
theorem toStringS_l0 : ∀ (suf pre : List ByteArray) (hb : (pre ++ suf).length ≤ 1048576) (hm : mustr suf ≤ 1048576), Ev (fun k => laws_toStringS.l0 k (pre ++ suf) (pre ++ List.replicate suf.length (⟨#[]⟩ : ByteArray)) (pre.length : Int)) (pre ++ suf)
  | [], pre, hb, hm => by
    refine Ev.step (fun k => by rw [laws_toStringS.l0]) ?_
    refine ev_neg (by simp) (ev_const ?_)
    simp
  | x :: suf, pre, hb, hm => by
    have ex : rdOf ByteArray.empty (pre ++ x :: suf) (pre.length : Int) = x := by unfold rdOf; exact at_pre pre suf x _
    have hb' := hb
    simp only [List.length_append, List.length_cons] at hb'
    rw [mustr] at hm
    refine Ev.step (fun k => by rw [laws_toStringS.l0]) ?_
    refine ev_pos (by simp only [List.length_append, List.length_cons]; omega) (ev_pos (by omega) ?_)
    rw [ex]
    refine ev_pos (by simp only [List.length_append, List.length_replicate, List.length_cons]; omega) ?_
    have es : (pre ++ List.replicate (x :: suf).length (⟨#[]⟩ : ByteArray)).set ((pre.length : Int)).toNat x = (pre ++ [x]) ++ List.replicate suf.length (⟨#[]⟩ : ByteArray) := by
      rw [List.length_cons, List.replicate_succ]; exact set_pre pre _ _ x
    rw [es]
    rw [next_pre pre x (by omega)]
    have z := toStringS_l0 suf (pre ++ [x]) (by simpa using hb) (by omega)
    rw [List.append_assoc] at z
    simpa using z
theorem toStringS_ev (l : List ByteArray) (hm : (l.length + mustr l) ≤ 1048576) : Ev (fun k => laws_toStringS.f k l) l := by
  simp only [laws_toStringS.f]
  have hl : l.length ≤ 1048576 := by omega
  refine ev_pos (by omega) (ev_pos (by omega) ?_)
  have z := toStringS_l0 l [] (by simpa using hl) (by omega)
  simpa using z
theorem toWorth_ev (v0 : Int) (v1 : Int) (v2 : ByteArray) (v3 : Bool) (v4 : List ByteArray) (hm : (v2.size + ((v4.length + mustr v4) + 0)) ≤ 1048576) : Ev (fun k => laws_toWorth.f k v0 v1 v2 v3 v4) (v0, v1, v2, v3, v4) := by
  simp only [laws_toWorth.f]
  refine ev_bind _ (toStringS_ev _ (by omega)) ?_
  exact ev_const rfl
theorem eqStringS_l0 : ∀ (suf pre : List ByteArray) (hb : (pre ++ suf).length ≤ 4611686018427387904) (hm : True), Ev (fun k => laws_eqStringS.l0 k (pre ++ suf) (pre ++ suf) (pre.length : Int)) true
  | [], pre, hb, hm => by
    refine Ev.step (fun k => by rw [laws_eqStringS.l0]) ?_
    exact ev_neg (by simp) (ev_const rfl)
  | x :: suf, pre, hb, hm => by
    have ex : rdOf ByteArray.empty (pre ++ x :: suf) (pre.length : Int) = x := by unfold rdOf; exact at_pre pre suf x _
    have hb' := hb
    simp only [List.length_append, List.length_cons] at hb'
    refine Ev.step (fun k => by rw [laws_eqStringS.l0]) ?_
    refine ev_pos (by simp only [List.length_append, List.length_cons]; omega) (ev_pos (by omega) (ev_pos (by simp only [List.length_append, List.length_cons]; omega) ?_))
    rw [ex]
    refine ev_pos (by simp) ?_
    rw [next_pre pre x (by omega)]
    have z := eqStringS_l0 suf (pre ++ [x]) (by simpa using hb) trivial
    rw [List.append_assoc] at z
    exact z
theorem eqStringS_ev (l : List ByteArray) (hm : l.length ≤ 4611686018427387904) : Ev (fun k => laws_eqStringS.f k l l) true := by
  simp only [laws_eqStringS.f]
  refine ev_pos (by simp) ?_
  exact eqStringS_l0 l [] (by rw [List.nil_append]; omega) trivial
theorem eqWorth_ev (v0 : Int) (v1 : Int) (v2 : ByteArray) (v3 : Bool) (v4 : List ByteArray) (hm : (v2.size + ((v4.length + mustr v4) + 0)) ≤ 4611686018427387904) : Ev (fun k => laws_eqWorth.f k v0 v1 v2 v3 v4 v0 v1 v2 v3 v4) true := by
  simp only [laws_eqWorth.f]
  refine ev_pos (by simp) ?_
  refine ev_pos (by simp) ?_
  refine ev_pos (by simp) ?_
  refine ev_neg (by simp) ?_
  refine ev_bind _ (eqStringS_ev _ (by omega)) (ev_pos (by simp) ?_)
  exact ev_const rfl

theorem isTrue_some (a b : Int) (c : ByteArray) (d : Bool) (e : List ByteArray) : ∃ r, spec_IsTrue.f a b c d e = some r := by
  unfold spec_IsTrue.f
  repeat' split
  all_goals exact ⟨_, rfl⟩
theorem isTrue_same (a b : Int) (c : ByteArray) (d : Bool) (e : List ByteArray) : impl_IsTrue.f a b c d e = spec_IsTrue.f a b c d e := rfl
theorem FnExactIsTrue : laws_FnExactIsTrue.Pure := by
  rintro ⟨a, b, c, d, e⟩ ⟨_, _, g2, _, g4⟩
  refine Ev.rounds ?_
  show Ev (fun k => laws_FnExactIsTrue.f k a b c d e) true
  simp only [laws_FnExactIsTrue.f]
  refine sz_guard (szWorth_ok a b c d e 1048576 g2 g4 (by omega) (by omega)) (fun z hz ez => ?_)
  obtain ⟨r, hr⟩ := isTrue_some a b c d e
  refine ev_bind _ (toWorth_ev a b c d e (by omega)) (ev_let r hr ?_)
  refine ev_bind _ (toWorth_ev a b c d e (by omega)) (ev_let r (by rw [isTrue_same]; exact hr) ?_)
  refine ev_neg (by simp) ?_
  refine ev_bind _ (toWorth_ev a b c d e (by omega)) (ev_bind _ (eqWorth_ev a b c d e (by omega)) ?_)
  exact ev_pos rfl (ev_const rfl)

end Go.Proofs.Ytnccklajpmpfdaa.Pure.LFnExactIsTrue
namespace Go.Proofs.Ytnccklajpmpfdaa.Pure
theorem FnExactIsTrue : PFnExactIsTrue.laws_FnExactIsTrue.Pure := LFnExactIsTrue.FnExactIsTrue
end Go.Proofs.Ytnccklajpmpfdaa.Pure
