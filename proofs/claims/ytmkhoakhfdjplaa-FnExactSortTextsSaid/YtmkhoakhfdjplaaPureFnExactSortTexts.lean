/- For every list of texts, the program's SortTexts returns what the reference's SortTexts returns, and marks laid into the result stay. -/
import Derived.Test.YtmkhoakhfdjplaaPFnExactSortTextsx0
import Derived.Test.YtmkhoakhfdjplaaPFnExactSortTextsx1
import Derived.Test.YtmkhoakhfdjplaaPFnExactSortTextsx2
import Derived.Test.YtmkhoakhfdjplaaPFnExactSortTextsx3
import Derived.Test.YtmkhoakhfdjplaaPFnExactSortTextsx4
import Derived.Test.YtmkhoakhfdjplaaQFnExactSortTexts
import Derived.Test.YtmkhoakhfdjplaaBase
import Derived.Test.YtmkhoakhfdjplaaExt
import Derived.Sort.KeysCollected
namespace Go.Proofs.Ytmkhoakhfdjplaa.Pure.LFnExactSortTexts
open Go.RowKit Go.Proofs.Ytmkhoakhfdjplaa.PFnExactSortTexts Go.Proofs.YtmkhoakhfdjplaaW.PrintWords Go.Proofs.YtmkhoakhfdjplaaW.PrintLast Go.Proofs.YtmkhoakhfdjplaaW.PrintMore Go.Proofs.Ytmkhoakhfdjplaa.Base
set_option linter.unusedVariables false
set_option linter.unusedSimpArgs false

/-! #### the law's own helpers -/
def mustr : List ByteArray → Nat
  | [] => 0
  | x :: l => x.size + mustr l
theorem mustr_mem {l : List ByteArray} {x : ByteArray} (h : x ∈ l) : x.size ≤ mustr l := by
  induction l with
  | nil => cases h
  | cons y l ih =>
    simp only [mustr]
    rcases List.mem_cons.1 h with rfl | h
    · omega
    · have := ih h; omega
theorem mustr_append (l l' : List ByteArray) : mustr (l ++ l') = mustr l + mustr l' := by
  induction l with
  | nil => simp [mustr]
  | cons x l ih => simp only [List.cons_append, mustr, ih]; omega
theorem szStringS_l0 : ∀ (suf pre : List ByteArray) (left : Int) (hb : (pre ++ suf).length ≤ maxLen) (g : ∀ y ∈ suf, y.size ≤ maxLen) (h0 : 0 ≤ left) (h1 : left ≤ 1048576), SzOk (fun k => laws_szStringS.l0 k (pre ++ suf) left (pre.length : Int)) left (mustr suf)
  | [], pre, left, hb, g, h0, h1 => by
    refine sz_step (fun k => by rw [laws_szStringS.l0]) ?_
    refine sz_neg (by simp) ?_
    exact sz_ret _ h0
  | x :: suf, pre, left, hb, g, h0, h1 => by
    have gx := g x List.mem_cons_self
    have ex : rdOf ByteArray.empty (pre ++ x :: suf) (pre.length : Int) = x := by unfold rdOf; exact at_pre pre suf x _
    refine sz_step (fun k => by rw [laws_szStringS.l0]) ?_
    refine sz_pos (by simp only [List.length_append, List.length_cons]; omega) (sz_pos (by omega) ?_)
    rw [ex]
    rw [mustr]
    have e : wrap64 (left - (x.size : Int)) = left - (x.size : Int) := w64 (by have := gx; unfold maxLen at this; omega) (by omega)
    simp only [e]; clear e
    refine sz_len ?_; intro q
    generalize ec : left - (x.size : Int) = c0 at q ⊢
    have q' : c0 ≤ 1048576 := by omega
    rw [next_pre pre x (by have := hb; simp only [List.length_append, List.length_cons] at this; unfold maxLen at this; omega)]
    have z := szStringS_l0 suf (pre ++ [x]) c0 (by simpa using hb) (fun y hy => g y (List.mem_cons_of_mem _ hy)) (by assumption) (by omega)
    rw [List.append_assoc] at z
    exact z
theorem szStringS_ok (l : List ByteArray) (left : Int) (g : l.length ≤ maxLen ∧ ∀ y ∈ l, y.size ≤ maxLen) (h0 : 0 ≤ left) (h1 : left ≤ 1048576) : SzOk (fun k => laws_szStringS.f k l left) left (l.length + mustr l) := by
  simp only [laws_szStringS.f]
  have e : wrap64 (left - (l.length : Int)) = left - (l.length : Int) := w64 (by have := g.1; unfold maxLen at this; omega) (by omega)
  simp only [e]; clear e
  refine sz_len ?_; intro q
  generalize ec : left - (l.length : Int) = c0 at q ⊢
  have q' : c0 ≤ 1048576 := by omega
  exact szStringS_l0 l [] c0 (by simpa using g.1) g.2 (by assumption) (by assumption)
theorem toStringS_l0 : ∀ (suf pre : List ByteArray) (hb : (pre ++ suf).length ≤ 1048576) (hm : mustr suf ≤ 1048576), Ev (fun k => laws_toStringS.l0 k (pre ++ suf) (pre ++ List.replicate suf.length (⟨#[]⟩ : ByteArray)) (pre.length : Int)) (pre ++ suf)
  | [], pre, hb, hm => by
    refine Ev.step (fun k => by rw [laws_toStringS.l0]) ?_
    refine ev_neg (by simp) (ev_const ?_)
    simp
  | x :: suf, pre, hb, hm => by
    have ex : rdOf ByteArray.empty (pre ++ x :: suf) (pre.length : Int) = x := by unfold rdOf; exact at_pre pre suf x _
    have hb' := hb
    simp only [List.length_append, List.length_cons] at hb'
    rw [mustr] at hm
    refine Ev.step (fun k => by rw [laws_toStringS.l0]) ?_
    refine ev_pos (by simp only [List.length_append, List.length_cons]; omega) (ev_pos (by omega) ?_)
    rw [ex]
    refine ev_pos (by simp only [List.length_append, List.length_replicate, List.length_cons]; omega) ?_
    have es : (pre ++ List.replicate (x :: suf).length (⟨#[]⟩ : ByteArray)).set ((pre.length : Int)).toNat x = (pre ++ [x]) ++ List.replicate suf.length (⟨#[]⟩ : ByteArray) := by
      rw [List.length_cons, List.replicate_succ]; exact set_pre pre _ _ x
    rw [es]
    rw [next_pre pre x (by omega)]
    have z := toStringS_l0 suf (pre ++ [x]) (by simpa using hb) (by omega)
    rw [List.append_assoc] at z
    simpa using z
theorem toStringS_ev (l : List ByteArray) (hm : (l.length + mustr l) ≤ 1048576) : Ev (fun k => laws_toStringS.f k l) l := by
  simp only [laws_toStringS.f]
  have hl : l.length ≤ 1048576 := by omega
  refine ev_pos (by omega) (ev_pos (by omega) ?_)
  have z := toStringS_l0 l [] (by simpa using hl) (by omega)
  simpa using z
theorem eqStringS_l0 : ∀ (suf pre : List ByteArray) (hb : (pre ++ suf).length ≤ 4611686018427387904) (hm : True), Ev (fun k => laws_eqStringS.l0 k (pre ++ suf) (pre ++ suf) (pre.length : Int)) true
  | [], pre, hb, hm => by
    refine Ev.step (fun k => by rw [laws_eqStringS.l0]) ?_
    exact ev_neg (by simp) (ev_const rfl)
  | x :: suf, pre, hb, hm => by
    have ex : rdOf ByteArray.empty (pre ++ x :: suf) (pre.length : Int) = x := by unfold rdOf; exact at_pre pre suf x _
    have hb' := hb
    simp only [List.length_append, List.length_cons] at hb'
    refine Ev.step (fun k => by rw [laws_eqStringS.l0]) ?_
    refine ev_pos (by simp only [List.length_append, List.length_cons]; omega) (ev_pos (by omega) (ev_pos (by simp only [List.length_append, List.length_cons]; omega) ?_))
    rw [ex]
    refine ev_pos (by simp) ?_
    rw [next_pre pre x (by omega)]
    have z := eqStringS_l0 suf (pre ++ [x]) (by simpa using hb) trivial
    rw [List.append_assoc] at z
    exact z
theorem eqStringS_ev (l : List ByteArray) (hm : l.length ≤ 4611686018427387904) : Ev (fun k => laws_eqStringS.f k l l) true := by
  simp only [laws_eqStringS.f]
  refine ev_pos (by simp) ?_
  exact eqStringS_l0 l [] (by rw [List.nil_append]; omega) trivial

/-! #### SortTexts -/
abbrev key (y : ByteArray) : List UInt8 := y.data.toList
def Srt (l : List ByteArray) : Prop := l.Pairwise fun x y => key x ≤ key y
theorem bytesLess_lt : ∀ (x y : List UInt8), Op.bytesLess x y = decide (x < y)
  | [], [] => by simp [Op.bytesLess]
  | _ :: _, [] => by simp [Op.bytesLess]
  | [], _ :: _ => by simp [Op.bytesLess]
  | a :: x, b :: y => by
    rw [Op.bytesLess, bytesLess_lt x y]
    simp only [List.cons_lt_cons_iff]
    by_cases h1 : a < b <;> by_cases h2 : a = b <;> by_cases h3 : x < y <;> simp [h1, h2, h3]
theorem less_eq (x y : ByteArray) : Op.bytesLess x.toList y.toList = decide (key x < key y) := by rw [bytesLess_lt, toList_data, toList_data]
theorem snoc_cases {α : Type} (a : List α) : a = [] ∨ ∃ a0 p, a = a0 ++ [p] := by
  rcases List.eq_nil_or_concat a with h | ⟨a0, p, h⟩
  · exact .inl h
  · exact .inr ⟨a0, p, by rw [h, List.concat_eq_append]⟩
theorem spec_ST_l1 (l : List ByteArray) (x : ByteArray) (i : Nat) (R : List ByteArray) (hi : i < l.length) (hx : rdOf ByteArray.empty l (i : Int) = x) (hl : l.length ≤ 1048576) : ∀ (n : Nat) (a b : List ByteArray), a.length = n → (a ++ b).length ≤ 1048576 → (∀ y ∈ b, key x < key y) →
    (∀ a' b' : List ByteArray, a ++ b = a' ++ b' → (∀ y ∈ b', key x < key y) → (∀ a0 p, a' = a0 ++ [p] → ¬ key x < key p) → Ev (fun k => spec_SortTexts.l0 k l ((a' ++ [x]) ++ b') (wrap64 ((i : Int) + 1))) R) →
    Ev (fun k => spec_SortTexts.l1 k l (a ++ b) (i : Int) (a.length : Int)) R := by
  intro n
  induction n with
  | zero =>
    intro a b ha hb hy HR
    have h0 := List.eq_nil_of_length_eq_zero ha
    subst h0
    have z := HR [] b rfl hy (fun a0 p h => by simp at h)
    rw [List.nil_append] at hb ⊢
    refine Ev.step (fun k => by rw [spec_SortTexts.l1]) (ev_neg (by simp) ?_)
    refine ev_let _ rfl (ev_pos (by simp) (ev_pos (by simp) (ev_let _ rfl (ev_pos (by simp) (ev_let _ rfl ?_)))))
    refine ev_pos (by omega) (ev_pos (by omega) (ev_let _ rfl (ev_pos (by simp) (ev_let _ rfl (ev_let _ rfl (ev_pos (by simp <;> omega) ?_))))))
    rw [hx]
    simpa using z
  | succ n ih =>
    intro a b ha hb hy HR
    rcases snoc_cases a with h | ⟨a0, p, h⟩
    · subst h; simp at ha
    subst h
    have ha0 : a0.length = n := by simpa using ha
    have hb' := hb
    simp only [List.length_append, List.length_cons, List.length_nil] at hb'
    have e1 : wrap64 (((a0 ++ [p]).length : Int) - 1) = (a0.length : Int) := by
      rw [w64 (by simp <;> omega) (by simp <;> omega)]; simp
    have rd : rdOf ByteArray.empty ((a0 ++ [p]) ++ b) (a0.length : Int) = p := by
      unfold rdOf
      rw [List.append_assoc]; exact at_pre a0 b p _
    refine Ev.step (fun k => by rw [spec_SortTexts.l1]) (ev_pos (by simp <;> omega) (ev_pos (by omega) (ev_pos (by omega) ?_)))
    rw [e1, hx, rd, less_eq]
    refine ev_pos (by omega) (ev_pos (by simp <;> omega) (ev_ite (fun hc => ?_) (fun hc => ?_)))
    · have hlt : key x < key p := of_decide_eq_true hc
      have z := ih a0 (p :: b) ha0 (by simpa using hb) (fun y hyy => by
        rcases List.mem_cons.1 hyy with rfl | h
        · exact hlt
        · exact hy y h) (fun a' b' he => HR a' b' (by rw [List.append_assoc]; exact he))
      rw [List.append_assoc]
      exact z
    · have hnl : ¬ key x < key p := fun h => hc (decide_eq_true h)
      have z := HR (a0 ++ [p]) b rfl hy (fun a1 q h => by
        have h2 := List.append_inj' h (by simp)
        have h3 : p = q := by simpa using h2.2
        rw [← h3]; exact hnl)
      have et : ((a0 ++ [p]) ++ b).take (((a0 ++ [p]).length : Nat) : Int).toNat = a0 ++ [p] := by rw [Int.toNat_natCast]; exact List.take_left
      have ed : ((a0 ++ [p]) ++ b).drop (((a0 ++ [p]).length : Nat) : Int).toNat = b := by rw [Int.toNat_natCast]; exact List.drop_left
      rw [et, ed]
      refine ev_let _ rfl (ev_pos (by omega) (ev_pos (by simp <;> omega) (ev_let _ rfl (ev_pos (by simp <;> omega) (ev_let _ rfl (ev_let _ rfl (ev_pos (by simp <;> omega) ?_)))))))
      refine ev_let _ rfl (ev_let _ rfl (ev_pos (by simp <;> omega) ?_))
      rw [List.nil_append]
      exact z
theorem spec_ST_l0 (l : List ByteArray) (hl : l.length ≤ 1048576) : ∀ (d i : Nat) (out : List ByteArray), i + d = l.length → out.length = i → out.Perm (l.take i) → Srt out → ∃ r, r.Perm l ∧ Srt r ∧ Ev (fun k => spec_SortTexts.l0 k l out (i : Int)) r := by
  intro d
  induction d with
  | zero =>
    intro i out hi ho hp hs
    rw [List.take_of_length_le (by omega)] at hp
    exact ⟨out, hp, hs, Ev.step (fun k => by rw [spec_SortTexts.l0]) (ev_neg (by omega) (ev_const rfl))⟩
  | succ d ih =>
    intro i out hi ho hp hs
    have hlt : i < l.length := by omega
    obtain ⟨x, hx⟩ : ∃ x, rdOf ByteArray.empty l (i : Int) = x := ⟨_, rfl⟩
    have hxe : x = l[i] := by
      rw [← hx]; unfold rdOf
      rw [Int.toNat_natCast, List.getD_eq_getElem?_getD, List.getElem?_eq_getElem hlt]; rfl
    -- where it goes: one answer, whatever the place
    have place : ∃ a' b' : List ByteArray, out = a' ++ b' ∧ (∀ y ∈ b', key x < key y) ∧ (∀ a0 p, a' = a0 ++ [p] → ¬ key x < key p) ∧ ∀ R, Ev (fun k => spec_SortTexts.l0 k l ((a' ++ [x]) ++ b') (wrap64 ((i : Int) + 1))) R → Ev (fun k => spec_SortTexts.l1 k l out (i : Int) (out.length : Int)) R := by
      have go : ∀ (n : Nat) (a b : List ByteArray), a.length = n → (∀ y ∈ b, key x < key y) → ∃ a' b' : List ByteArray, a ++ b = a' ++ b' ∧ (∀ y ∈ b', key x < key y) ∧ (∀ a0 p, a' = a0 ++ [p] → ¬ key x < key p) := by
        intro n
        induction n with
        | zero =>
          intro a b ha hy
          have h0 := List.eq_nil_of_length_eq_zero ha
          subst h0
          exact ⟨[], b, rfl, hy, fun a0 p h => by simp at h⟩
        | succ n ihn =>
          intro a b ha hy
          rcases snoc_cases a with h | ⟨a0, p, h⟩
          · subst h; simp at ha
          subst h
          by_cases hc : key x < key p
          · obtain ⟨a', b', e, h1, h2⟩ := ihn a0 (p :: b) (by simpa using ha) (fun y hyy => by
              rcases List.mem_cons.1 hyy with rfl | h
              · exact hc
              · exact hy y h)
            exact ⟨a', b', by rw [List.append_assoc]; exact e, h1, h2⟩
          · exact ⟨a0 ++ [p], b, rfl, hy, fun a1 q h => by
              have h2 := List.append_inj' h (by simp)
              have h3 : p = q := by simpa using h2.2
              rw [← h3]; exact hc⟩
      obtain ⟨a', b', e, h1, h2⟩ := go out.length out [] rfl (fun y h => by cases h)
      rw [List.append_nil] at e
      refine ⟨a', b', e, h1, h2, fun R z => ?_⟩
      have t := spec_ST_l1 l x i R hlt hx hl out.length out [] rfl (by simp <;> omega) (fun y h => by cases h) (fun a2 b2 e2 g1 g2 => ?_)
      · rw [List.append_nil] at t; exact t
      · -- the place is one
        rw [List.append_nil] at e2
        have hlen : a2.length = a'.length := by
          have ee : a' ++ b' = a2 ++ b2 := by rw [← e, ← e2]
          rcases Nat.lt_trichotomy a2.length a'.length with h | h | h
          · exfalso
            rcases snoc_cases a' with h0 | ⟨a0, p, h0⟩
            · subst h0; simp at h
            · have hm : p ∈ b2 := by
                have g := congrArg (fun z => z[a0.length]?) ee
                subst h0
                simp only [List.length_append, List.length_cons, List.length_nil] at h
                simp only [List.append_assoc] at g
                rw [List.getElem?_append_right (Nat.le_refl _), Nat.sub_self, List.singleton_append, List.getElem?_cons_zero, List.getElem?_append_right (by omega)] at g
                exact List.mem_of_getElem? g.symm
              exact h2 a0 p h0 (g1 p hm)
          · exact h
          · exfalso
            rcases snoc_cases a2 with h0 | ⟨a0, p, h0⟩
            · subst h0; simp at h
            · have hm : p ∈ b' := by
                have g := congrArg (fun z => z[a0.length]?) ee
                subst h0
                simp only [List.length_append, List.length_cons, List.length_nil] at h
                simp only [List.append_assoc] at g
                rw [List.getElem?_append_right (by omega), List.getElem?_append_right (Nat.le_refl _), Nat.sub_self, List.singleton_append, List.getElem?_cons_zero] at g
                exact List.mem_of_getElem? g
              exact g2 a0 p h0 (h1 p hm)
        have ee : a' ++ b' = a2 ++ b2 := by rw [← e, ← e2]
        obtain ⟨q1, q2⟩ := List.append_inj ee hlen.symm
        rw [← q1, ← q2]; exact z
    obtain ⟨a', b', e, h1, h2, step⟩ := place
    have eN : wrap64 ((i : Int) + 1) = ((i + 1 : Nat) : Int) := by rw [w64 (by omega) (by omega)]; omega
    have hs' : Srt ((a' ++ [x]) ++ b') := by
      unfold Srt at hs ⊢
      rw [e, List.pairwise_append] at hs
      obtain ⟨s1, s2, s3⟩ := hs
      have hax : ∀ y ∈ a', key y ≤ key x := by
        rcases snoc_cases a' with h | ⟨a0, p, h⟩
        · subst h; intro y hy; cases hy
        · have hp1 := h2 a0 p h
          have hp2 : key p ≤ key x := hp1
          subst h
          intro y hy
          rcases List.mem_append.1 hy with hy | hy
          · exact List.le_trans ((List.pairwise_append.1 s1).2.2 y hy p (by simp)) hp2
          · rw [List.mem_singleton] at hy; subst hy; exact hp2
      rw [List.append_assoc, List.pairwise_append]
      refine ⟨s1, ?_, ?_⟩
      · rw [List.singleton_append, List.pairwise_cons]
        exact ⟨fun y hy => List.le_of_lt (h1 y hy), s2⟩
      · intro y hy z hz
        rw [List.singleton_append] at hz
        rcases List.mem_cons.1 hz with rfl | hz
        · exact hax y hy
        · exact s3 y hy z hz
    have hp' : ((a' ++ [x]) ++ b').Perm (l.take (i + 1)) := by
      rw [List.take_add_one, List.getElem?_eq_getElem hlt]
      have q1 : ((a' ++ [x]) ++ b').Perm (a' ++ b' ++ [x]) := by
        rw [List.append_assoc, List.append_assoc]
        exact List.Perm.append_left a' List.perm_append_comm
      rw [← e] at q1
      refine q1.trans ?_
      rw [hxe]
      exact hp.append_right _
    obtain ⟨r, r1, r2, r3⟩ := ih (i + 1) ((a' ++ [x]) ++ b') (by omega) (by rw [← ho, e]; simp; omega) hp' hs'
    refine ⟨r, r1, r2, Ev.step (fun k => by rw [spec_SortTexts.l0]) (ev_pos (by omega) (step r ?_))⟩
    rw [eN]; exact r3
theorem spec_SortTexts_ex (l : List ByteArray) (hl : l.length ≤ 1048576) : ∃ r, r.Perm l ∧ Srt r ∧ Ev (fun k => spec_SortTexts.f k l) r := by
  simp only [spec_SortTexts.f]
  exact spec_ST_l0 l hl l.length 0 [] (by omega) rfl (by simp) (by unfold Srt; simp)
theorem sortB_eq {l r : List ByteArray} (hp : r.Perm l) (hs : Srt r) : sortB l = r := by
  unfold sortB
  have h1 : (l.map key).mergeSort (fun x y => decide (x ≤ y)) = (r.map key).mergeSort (fun x y => decide (x ≤ y)) := mergeSort_of_perm (hp.symm.map key)
  have h2 : (r.map key).mergeSort (fun x y => decide (x ≤ y)) = r.map key := by
    refine List.mergeSort_of_pairwise ?_
    rw [List.pairwise_map]
    exact hs.imp fun h => decide_eq_true h
  show List.map _ ((l.map key).mergeSort (fun x y => decide (x ≤ y))) = r
  rw [h1, h2, List.map_map]
  conv => rhs; rw [← List.map_id r]
  exact List.map_congr_left fun x _ => rfl
theorem impl_SortTexts_eq (l : List ByteArray) (hl : l.length ≤ 1048576) : impl_SortTexts.f l = some (sortB l) := by
  unfold impl_SortTexts.f slices_Sort.f
  simp only [Option.bind_some, List.nil_append, List.length_nil, Nat.zero_add]
  rw [if_pos (by omega), if_pos (by omega)]; rfl

/-! #### markText -/
/-! the law's own marks -/
theorem markText_l0 : ∀ (n : Nat) (x : Int) (t : ByteArray) (h0 : 0 ≤ x) (hn : x ≤ n) (ht : t.size + n ≤ 1099511627776), ∃ r, Ev (fun k => laws_markText.l0 k x t) r := by
  intro n
  induction n using Nat.strongRecOn with
  | ind n ih =>
  intro x t h0 hn ht
  by_cases hx : x > 0
  · have e1 : (strOfNums [wrap64 (48 + Int.tmod x 10) % 256]).size = 1 := by rw [size_str]; rfl
    have e2 : Int.tdiv x 10 = x / 10 := Int.tdiv_eq_ediv_of_nonneg h0
    have e3 : wrap64 (Int.tdiv x 10) = x / 10 := by rw [e2, w64 (by omega) (by omega)]
    have e4 : (strOfNums [wrap64 (48 + Int.tmod x 10) % 256] ++ t).size = 1 + t.size := by rw [ByteArray.size_append, e1]
    obtain ⟨r, z⟩ := ih (x / 10).toNat (by omega) (x / 10) (strOfNums [wrap64 (48 + Int.tmod x 10) % 256] ++ t) (by omega) (by omega) (by rw [e4]; omega)
    refine ⟨r, Ev.step (fun k => by rw [laws_markText.l0]) ?_⟩
    rw [e3]
    exact ev_pos hx (ev_let _ rfl (ev_pos (by rw [e1]; omega) z))
  · refine ⟨(⟨#[109]⟩ : ByteArray) ++ t, Ev.step (fun k => by rw [laws_markText.l0]) ?_⟩
    exact ev_neg hx (ev_pos (by omega) (ev_const rfl))
theorem markText_ex (x : Int) (h : x ≤ 1000000000000) : ∃ r, Ev (fun k => laws_markText.f k x) r := by
  simp only [laws_markText.f]
  by_cases hx : x ≤ 0
  · exact ⟨_, ev_pos hx (ev_const rfl)⟩
  · obtain ⟨r, z⟩ := markText_l0 x.toNat x ⟨#[]⟩ (by omega) (by omega) (by show 0 + _ ≤ _; omega)
    exact ⟨r, ev_neg hx z⟩
noncomputable def mt (x : Int) : ByteArray := @Classical.epsilon ByteArray ⟨⟨#[]⟩⟩ (fun t => Ev (fun k => laws_markText.f k x) t)
theorem markText_ev (x : Int) (h : x ≤ 1000000000000) : Ev (fun k => laws_markText.f k x) (mt x) := Classical.epsilon_spec (markText_ex x h)

/-! #### markStrings -/
noncomputable def mkS : Int → List ByteArray → List ByteArray
  | _, [] => []
  | x, _ :: l => mt x :: mkS (x + 1) l
theorem mkS_length (x : Int) (l : List ByteArray) : (mkS x l).length = l.length := by
  induction l generalizing x with
  | nil => rfl
  | cons y l ih => simp only [mkS, List.length_cons, ih]
theorem mark_S_l0 : ∀ (suf pre : List ByteArray) (x : Int) (hb : (pre ++ suf).length ≤ 4611686018427387904) (h0 : 0 ≤ x) (hx : x + suf.length ≤ 100000000), Ev (fun k => laws_markStringS.l0 k (pre ++ suf) x (pre.length : Int)) (x + suf.length, pre ++ mkS x suf)
  | [], pre, x, hb, h0, hx => by
    refine Ev.step (fun k => by rw [laws_markStringS.l0]) ?_
    exact ev_neg (by simp) (ev_const (by simp [mkS]))
  | y :: suf, pre, x, hb, h0, hx => by
    have st : ∀ v w : ByteArray, (pre ++ v :: suf).set ((pre.length : Int)).toNat w = pre ++ w :: suf := fun v w => by rw [set_pre]; simp
    have hb' := hb
    simp only [List.length_append, List.length_cons] at hb' hx
    have w1 : wrap64 (x + 1) = x + 1 := w64 (by omega) (by omega)
    have z := mark_S_l0 suf (pre ++ [mt x]) (x + 1) (by simpa using hb) (by omega) (by omega)
    rw [List.append_assoc, List.singleton_append, List.append_assoc, List.singleton_append] at z
    refine Ev.step (fun k => by rw [laws_markStringS.l0]) ?_
    refine ev_pos (by simp only [List.length_append, List.length_cons]; omega) (ev_bind _ (markText_ev x (by omega)) (ev_pos (by omega) ?_))
    rw [st, next_pre pre y (by omega), w1]
    have e : x + ((y :: suf).length : Int) = x + 1 + (suf.length : Int) := by simp only [List.length_cons]; omega
    rw [e, show (pre ++ [y]).length = (pre ++ [mt x]).length by simp]
    exact z
theorem markStringS_ev (l : List ByteArray) (x : Int) (hb : l.length ≤ 4611686018427387904) (h0 : 0 ≤ x) (hx : x + l.length ≤ 100000000) : Ev (fun k => laws_markStringS.f k l x) (x + (l.length : Int), mkS x l) := by
  simp only [laws_markStringS.f]
  exact mark_S_l0 l [] x (by simpa using hb) h0 hx
theorem held_S_l0 : ∀ (suf pre : List ByteArray) (x : Int) (hb : (pre ++ suf).length ≤ 4611686018427387904) (h0 : 0 ≤ x) (hx : x + suf.length ≤ 100000000), Ev (fun k => laws_heldStringS.l0 k (pre ++ mkS x suf) x (pre.length : Int)) (x + suf.length)
  | [], pre, x, hb, h0, hx => by
    refine Ev.step (fun k => by rw [laws_heldStringS.l0]) ?_
    exact ev_neg (by simp [mkS]) (ev_const (by simp))
  | y :: suf, pre, x, hb, h0, hx => by
    have hl := mkS_length (x + 1) suf
    have hb' := hb
    simp only [List.length_append, List.length_cons] at hb' hx
    have rd : rdOf ByteArray.empty (pre ++ mt x :: mkS (x + 1) suf) (pre.length : Int) = mt x := by unfold rdOf; exact at_pre pre _ _ _
    have w1 : wrap64 (x + 1) = x + 1 := w64 (by omega) (by omega)
    have z := held_S_l0 suf (pre ++ [mt x]) (x + 1) (by simpa using hb) (by omega) (by omega)
    rw [List.append_assoc, List.singleton_append, ← next_pre pre _ (by omega)] at z
    refine Ev.step (fun k => by rw [laws_heldStringS.l0]) ?_
    rw [mkS]
    refine ev_pos (by simp only [List.length_append, List.length_cons]; omega) (ev_pos (by omega) (ev_bind _ (markText_ev x (by omega)) ?_))
    rw [rd, w1]
    refine ev_pos rfl ?_
    have e : x + ((y :: suf).length : Int) = x + 1 + (suf.length : Int) := by simp only [List.length_cons]; omega
    rw [e]
    exact z
theorem heldStringS_ev (l : List ByteArray) (x : Int) (hb : l.length ≤ 4611686018427387904) (h0 : 0 ≤ x) (hx : x + l.length ≤ 100000000) : Ev (fun k => laws_heldStringS.f k (mkS x l) x) (x + (l.length : Int)) := by
  simp only [laws_heldStringS.f]
  exact held_S_l0 l [] x (by simpa using hb) h0 hx

theorem FnExactSortTexts : laws_FnExactSortTexts.Pure := by
  rintro l g
  refine Ev.rounds ?_
  simp only [laws_FnExactSortTexts.f]
  refine sz_guard (szStringS_ok l 1048576 g (by omega) (by omega)) (fun z hz ez => ?_)
  have hl : l.length ≤ 1048576 := by omega
  obtain ⟨r, hp, hs, h1⟩ := spec_SortTexts_ex l hl
  have h2 : impl_SortTexts.f l = some r := by rw [impl_SortTexts_eq l hl, sortB_eq hp hs]
  have hr : r.length ≤ 1048576 := by rw [hp.length_eq]; exact hl
  have ts := toStringS_ev l (by omega)
  have er := eqStringS_ev r (by omega)
  have el := eqStringS_ev l (by omega)
  have ml := markStringS_ev l 1 (by omega) (by omega) (by omega)
  have mr := markStringS_ev r 1 (by omega) (by omega) (by omega)
  have hh := heldStringS_ev r 1 (by omega) (by omega) (by omega)
  refine ev_bind _ ts (ev_bind _ h1 (ev_bind _ ts (ev_let _ h2 (ev_bind _ er (ev_pos rfl ?_)))))
  refine ev_bind _ ts (ev_bind _ el (ev_pos rfl ?_))
  refine ev_bind _ ml (ev_neg (show ¬ (1 + (l.length : Int) < 0) by omega) (ev_bind _ er ?_))
  refine Ev.step (fun k => by rw [laws_FnExactSortTexts.j0]) (ev_neg (by simp) (ev_bind _ mr ?_))
  refine ev_bind _ hh ?_
  refine ev_neg (show ¬ (1 + (r.length : Int) < 0) by omega) (ev_pos rfl ?_)
  refine ev_bind _ ts (ev_let _ h2 (ev_bind _ er (ev_pos rfl ?_)))
  refine ev_bind _ hh ?_
  exact ev_neg (show ¬ (1 + (r.length : Int) < 0) by omega) (ev_pos rfl (ev_const rfl))

end Go.Proofs.Ytmkhoakhfdjplaa.Pure.LFnExactSortTexts
namespace Go.Proofs.Ytmkhoakhfdjplaa.Pure
theorem FnExactSortTexts : PFnExactSortTexts.laws_FnExactSortTexts.Pure := LFnExactSortTexts.FnExactSortTexts
end Go.Proofs.Ytmkhoakhfdjplaa.Pure
