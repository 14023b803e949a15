/- For all tokens, the program's JoinTokens returns what the reference's JoinTokens returns. -/
import Derived.Test.YtnccklajpmpfdaaPFnExactJoinTokensx0
import Derived.Test.YtnccklajpmpfdaaPFnExactJoinTokensx1
import Derived.Test.YtnccklajpmpfdaaPFnExactJoinTokensx2
import Derived.Test.YtnccklajpmpfdaaPFnExactJoinTokensx3
import Derived.Test.YtnccklajpmpfdaaQFnExactJoinTokens
import Derived.Test.YtnccklajpmpfdaaBase
import Derived.Lib.Join
namespace Go.Proofs.Ytnccklajpmpfdaa.Pure.LFnExactJoinTokens
open Go.RowKit Go.Proofs.Ytnccklajpmpfdaa.PFnExactJoinTokens Go.Proofs.YtnccklajpmpfdaaW.PrintWords Go.Proofs.YtnccklajpmpfdaaW.PrintLast Go.Proofs.YtnccklajpmpfdaaW.PrintMore Go.Proofs.Ytnccklajpmpfdaa.Base
set_option linter.unusedVariables false
set_option linter.unusedSimpArgs false

/-! #### the law's own helpers -/
def mustr : List ByteArray → Nat
  | [] => 0
  | x :: l => x.size + mustr l
theorem mustr_mem {l : List ByteArray} {x : ByteArray} (h : x ∈ l) : x.size ≤ mustr l := by
  induction l with
  | nil => cases h
  | cons y l ih =>
    simp only [mustr]
    rcases List.mem_cons.1 h with rfl | h
    · omega
    · have := ih h; omega
theorem mustr_append (l l' : List ByteArray) : mustr (l ++ l') = mustr l + mustr l' := by
  induction l with
  | nil => simp [mustr]
  | cons x l ih => simp only [List.cons_append, mustr, ih]; omega
def ms108 (x : S108) : Nat := (x.f1.size + 0)
def mu108 : List S108 → Nat
  | [] => 0
  | x :: l => ms108 x + mu108 l
theorem mu108_append (l l' : List S108) : mu108 (l ++ l') = mu108 l + mu108 l' := by
  induction l with
  | nil => simp [mu108]
  | cons x l ih => simp only [List.cons_append, mu108, ih]; omega
theorem mu108_mem {l : List S108} {x : S108} (h : x ∈ l) : ms108 x ≤ mu108 l := by
  induction l with
  | nil => cases h
  | cons y l ih =>
    simp only [mu108]
    rcases List.mem_cons.1 h with rfl | h
    · omega
    · have := ih h; omega
def ms110 (x : S110) : Nat := (x.f1.size + 0)
def mu110 : List S110 → Nat
  | [] => 0
  | x :: l => ms110 x + mu110 l
theorem mu110_append (l l' : List S110) : mu110 (l ++ l') = mu110 l + mu110 l' := by
  induction l with
  | nil => simp [mu110]
  | cons x l ih => simp only [List.cons_append, mu110, ih]; omega
theorem mu110_mem {l : List S110} {x : S110} (h : x ∈ l) : ms110 x ≤ mu110 l := by
  induction l with
  | nil => cases h
  | cons y l ih =>
    simp only [mu110]
    rcases List.mem_cons.1 h with rfl | h
    · omega
    · have := ih h; omega
theorem szToken_ok (v0 : Int) (v1 : ByteArray) (v2 : Int) (left : Int) (g1 : v1.size ≤ maxLen) (h0 : 0 ≤ left) (h1 : left ≤ 1048576) : SzOk (fun k => laws_szToken.f v0 v1 v2 left) left (v1.size + 0) := by
  simp only [laws_szToken.f]
  have e : wrap64 (left - (v1.size : Int)) = left - (v1.size : Int) := w64 (by have := g1; unfold maxLen at this; omega) (by omega)
  simp only [e]; clear e
  refine sz_len ?_; intro q
  generalize ec : left - (v1.size : Int) = c0 at q ⊢
  have q' : c0 ≤ 1048576 := by omega
  exact sz_ret _ (by assumption)
theorem szTokenS_l0 : ∀ (suf pre : List S108) (left : Int) (hb : (pre ++ suf).length ≤ maxLen) (g : ∀ y ∈ suf, G108 y) (h0 : 0 ≤ left) (h1 : left ≤ 1048576), SzOk (fun k => laws_szTokenS.l0 k (pre ++ suf) left (pre.length : Int)) left (mu108 suf)
  | [], pre, left, hb, g, h0, h1 => by
    refine sz_step (fun k => by rw [laws_szTokenS.l0]) ?_
    refine sz_neg (by simp) ?_
    exact sz_ret _ h0
  | x :: suf, pre, left, hb, g, h0, h1 => by
    have gx := g x List.mem_cons_self
    have ex : rd_T108 (pre ++ x :: suf) (pre.length : Int) = x := by unfold rd_T108; exact at_pre pre suf x _
    refine sz_step (fun k => by rw [laws_szTokenS.l0]) ?_
    refine sz_pos (by simp only [List.length_append, List.length_cons]; omega) (sz_pos (by omega) ?_)
    rw [ex]
    rw [mu108]
    obtain ⟨_, gx1, _⟩ := gx
    refine sz_call (szToken_ok _ _ _ left gx1 (by assumption) (by omega)) ?_; intro c0 q ec
    have q' : c0 ≤ 1048576 := by omega
    rw [next_pre pre x (by have := hb; simp only [List.length_append, List.length_cons] at this; unfold maxLen at this; omega)]
    have z := szTokenS_l0 suf (pre ++ [x]) c0 (by simpa using hb) (fun y hy => g y (List.mem_cons_of_mem _ hy)) (by assumption) (by omega)
    rw [List.append_assoc] at z
    exact z
theorem szTokenS_ok (l : List S108) (left : Int) (g : l.length ≤ maxLen ∧ ∀ y ∈ l, G108 y) (h0 : 0 ≤ left) (h1 : left ≤ 1048576) : SzOk (fun k => laws_szTokenS.f k l left) left (l.length + mu108 l) := by
  simp only [laws_szTokenS.f]
  have e : wrap64 (left - (l.length : Int)) = left - (l.length : Int) := w64 (by have := g.1; unfold maxLen at this; omega) (by omega)
  simp only [e]; clear e
  refine sz_len ?_; intro q
  generalize ec : left - (l.length : Int) = c0 at q ⊢
  have q' : c0 ≤ 1048576 := by omega
  exact szTokenS_l0 l [] c0 (by simpa using g.1) g.2 (by assumption) (by assumption)
def cv108 (x : S108) : S110 := ⟨x.f0, x.f1, x.f2⟩
def cvl108 : List S108 → List S110
  | [] => []
  | x :: l => cv108 x :: cvl108 l
theorem cvl108_length (l : List S108) : (cvl108 l).length = l.length := by
  induction l with
  | nil => rfl
  | cons x l ih => simp only [cvl108, List.length_cons, ih]
theorem cvl108_append (l l' : List S108) : cvl108 (l ++ l') = cvl108 l ++ cvl108 l' := by
  induction l with
  | nil => rfl
  | cons x l ih => simp only [List.cons_append, cvl108, ih]
theorem cvl108_map (l : List S108) : cvl108 l = l.map cv108 := by
  induction l with
  | nil => rfl
  | cons x l ih => simp only [List.map_cons, cvl108, ih]
theorem mscv108 (x : S108) : ms110 (cv108 x) = ms108 x := by
  simp only [cv108, ms110, ms108]
theorem mucv108 (l : List S108) : mu110 (cvl108 l) = mu108 l := by
  induction l with
  | nil => rfl
  | cons x l ih => simp only [cvl108, mu110, mu108, mscv108, ih]
theorem toToken_ev (v0 : Int) (v1 : ByteArray) (v2 : Int) (hm : (v1.size + 0) ≤ 1048576) : Ev (fun k => laws_toToken.f v0 v1 v2) (v0, v1, v2) := by
  simp only [laws_toToken.f]
  exact ev_const rfl
theorem toTokenS_l0 : ∀ (suf pre : List S108) (hb : (pre ++ suf).length ≤ 1048576) (hm : mu108 suf ≤ 1048576), Ev (fun k => laws_toTokenS.l0 k (pre ++ suf) ((cvl108 pre) ++ List.replicate suf.length z110) (pre.length : Int)) (cvl108 (pre ++ suf))
  | [], pre, hb, hm => by
    refine Ev.step (fun k => by rw [laws_toTokenS.l0]) ?_
    refine ev_neg (by simp) (ev_const ?_)
    simp
  | x :: suf, pre, hb, hm => by
    have ex : rd_T108 (pre ++ x :: suf) (pre.length : Int) = x := by unfold rd_T108; exact at_pre pre suf x _
    have hb' := hb
    simp only [List.length_append, List.length_cons] at hb'
    rw [mu108] at hm
    refine Ev.step (fun k => by rw [laws_toTokenS.l0]) ?_
    refine ev_pos (by simp only [List.length_append, List.length_cons]; omega) (ev_pos (by omega) ?_)
    rw [ex]
    refine ev_bind _ (toToken_ev _ _ _ (by first | (simp only [ms108] at hm; omega) | omega)) ?_
    refine ev_pos (by simp only [List.length_append, cvl108_length, List.length_replicate, List.length_cons]; omega) ?_
    have es : (cvl108 pre ++ List.replicate (x :: suf).length z110).set ((pre.length : Int)).toNat (cv108 x) = cvl108 (pre ++ [x]) ++ List.replicate suf.length z110 := by
      have h2 := set_pre (cvl108 pre) (List.replicate suf.length z110) z110 (cv108 x)
      rw [cvl108_length] at h2
      rw [List.length_cons, List.replicate_succ, h2, cvl108_append]; rfl
    rw [next_pre pre x (by omega)]
    have z := toTokenS_l0 suf (pre ++ [x]) (by simpa using hb) (by omega)
    rw [List.append_assoc] at z
    rw [← es] at z
    have e2 : (⟨(cv108 x).f0, (cv108 x).f1, (cv108 x).f2⟩ : S110) = cv108 x := by rfl
    show Ev (fun k => laws_toTokenS.l0 k (pre ++ x :: suf) ((cvl108 pre ++ List.replicate (x :: suf).length z110).set ((pre.length : Int)).toNat (⟨(cv108 x).f0, (cv108 x).f1, (cv108 x).f2⟩ : S110)) ((pre ++ [x]).length : Int)) (cvl108 (pre ++ x :: suf))
    rw [e2]
    exact z
theorem toTokenS_ev (l : List S108) (hm : (l.length + mu108 l) ≤ 1048576) : Ev (fun k => laws_toTokenS.f k l) (cvl108 l) := by
  simp only [laws_toTokenS.f]
  have hl : l.length ≤ 1048576 := by omega
  refine ev_pos (by omega) (ev_pos (by omega) ?_)
  have z := toTokenS_l0 l [] (by simpa using hl) (by omega)
  simpa [cvl108] using z
theorem eqToken_ev (v0 : Int) (v1 : ByteArray) (v2 : Int) (hm : (v1.size + 0) ≤ 4611686018427387904) : Ev (fun k => laws_eqToken.f v0 v1 v2 v0 v1 v2) true := by
  simp only [laws_eqToken.f]
  refine ev_pos (by simp) ?_
  refine ev_pos (by simp) ?_
  refine ev_pos (by simp) ?_
  exact ev_const rfl
theorem eqTokenS_l0 : ∀ (suf pre : List S110) (hb : (pre ++ suf).length ≤ 4611686018427387904) (hm : mu110 suf ≤ 4611686018427387904), Ev (fun k => laws_eqTokenS.l0 k (pre ++ suf) (pre ++ suf) (pre.length : Int)) true
  | [], pre, hb, hm => by
    refine Ev.step (fun k => by rw [laws_eqTokenS.l0]) ?_
    exact ev_neg (by simp) (ev_const rfl)
  | x :: suf, pre, hb, hm => by
    have ex : rd_T110 (pre ++ x :: suf) (pre.length : Int) = x := by unfold rd_T110; exact at_pre pre suf x _
    have hb' := hb
    simp only [List.length_append, List.length_cons] at hb'
    rw [mu110] at hm
    refine Ev.step (fun k => by rw [laws_eqTokenS.l0]) ?_
    refine ev_pos (by simp only [List.length_append, List.length_cons]; omega) (ev_pos (by omega) (ev_pos (by simp only [List.length_append, List.length_cons]; omega) ?_))
    rw [ex]
    refine ev_bind _ (eqToken_ev _ _ _ (by first | (simp only [ms110] at hm; omega) | omega)) (ev_pos (by simp) ?_)
    rw [next_pre pre x (by omega)]
    have z := eqTokenS_l0 suf (pre ++ [x]) (by simpa using hb) (by omega)
    rw [List.append_assoc] at z
    exact z
theorem eqTokenS_ev (l : List S110) (hm : (l.length + mu110 l) ≤ 4611686018427387904) : Ev (fun k => laws_eqTokenS.f k l l) true := by
  simp only [laws_eqTokenS.f]
  refine ev_pos (by simp) ?_
  exact eqTokenS_l0 l [] (by rw [List.nil_append]; omega) (by omega)

/-! #### mQuote -/
def quoteB (c : Int) : List Int := if c = 34 ∨ c = 92 then [92, c] else [c]
def quoteL (l : List Int) : List Int := l.flatMap quoteB
def mQuote (s : ByteArray) : ByteArray := strOfNums (34 :: quoteL (bts s) ++ [34])
theorem quoteL_cons (c : Int) (l : List Int) : quoteL (c :: l) = quoteB c ++ quoteL l := by simp [quoteL]
theorem quoteB_len (c : Int) : (quoteB c).length ≤ 2 := by unfold quoteB; split <;> simp
theorem quoteL_len (l : List Int) : (quoteL l).length ≤ 2 * l.length := by
  induction l with
  | nil => simp [quoteL]
  | cons c l ih =>
    rw [quoteL_cons, List.length_append, List.length_cons]
    have := quoteB_len c
    omega

/-! #### spec_QuoteText -/
theorem spec_QuoteText_l0 (s : ByteArray) (hs : s.size ≤ 35184372088832) : ∀ (n i : Nat) (acc : List Int), i + n = s.size → acc.length ≤ 2 * i + 1 → Ev (fun k => spec_QuoteText.l0 k s acc i) (strOfNums (acc ++ quoteL ((bts s).drop i) ++ [34])) := by
  intro n
  induction n with
  | zero =>
    intro i acc hi ha
    refine Ev.step (fun k => by rw [spec_QuoteText.l0]) ?_
    refine ev_neg (by omega) (ev_pos (by omega) (ev_const ?_))
    rw [List.drop_eq_nil_of_le (by rw [bts_length]; omega)]
    simp [quoteL]
  | succ n ih =>
    intro i acc hi ha
    have e2 : wrap64 ((i : Int) + 1) = ((i + 1 : Nat) : Int) := by rw [w64 (by omega) (by omega)]; omega
    refine Ev.step (fun k => by rw [spec_QuoteText.l0]) ?_
    refine ev_pos (by omega) (ev_pos (by omega) ?_)
    rw [e2, drop_cons (z := 0) (by rw [bts_length]; omega), quoteL_cons, ← Int.toNat_natCast i, ← bt_eq, Int.toNat_natCast]
    refine ev_ite (fun h => ?_) (fun h => ev_ite (fun h2 => ?_) (fun h2 => ?_))
    · refine ev_pos (by omega) (ev_let _ rfl (ev_pos (by simp; omega) ?_))
      have := ih (i + 1) (acc ++ [92] ++ [bt s i]) (by omega) (by simp; omega)
      rw [quoteB, if_pos (.inl h)]
      simpa using this
    · refine ev_pos (by omega) (ev_let _ rfl (ev_pos (by simp; omega) ?_))
      have := ih (i + 1) (acc ++ [92] ++ [bt s i]) (by omega) (by simp; omega)
      rw [quoteB, if_pos (.inr h2)]
      simpa using this
    · refine ev_pos (by omega) ?_
      have := ih (i + 1) (acc ++ [bt s i]) (by omega) (by simp; omega)
      rw [quoteB, if_neg (by omega)]
      simpa using this
theorem spec_QuoteText_ev (s : ByteArray) (hs : s.size ≤ 35184372088832) : Ev (fun k => spec_QuoteText.f k s) (mQuote s) := by
  have := spec_QuoteText_l0 s hs s.size 0 [34] (by omega) (by simp)
  show Ev (fun k => spec_QuoteText.l0 k s [34] 0) _
  unfold mQuote
  simpa using this

/-! #### impl_QuoteText -/
theorem impl_QuoteText_l0 (s : ByteArray) (hs : s.size ≤ 35184372088832) : ∀ (n i : Nat) (acc : List Int), i + n = s.size → acc.length ≤ 2 * i + 1 → Ev (fun k => impl_QuoteText.l0 k s acc i) (strOfNums (acc ++ quoteL ((bts s).drop i) ++ [34])) := by
  intro n
  induction n with
  | zero =>
    intro i acc hi ha
    refine Ev.step (fun k => by rw [impl_QuoteText.l0]) ?_
    refine ev_neg (by omega) (ev_pos (by omega) (ev_const ?_))
    rw [List.drop_eq_nil_of_le (by rw [bts_length]; omega)]
    simp [quoteL]
  | succ n ih =>
    intro i acc hi ha
    have e2 : wrap64 ((i : Int) + 1) = ((i + 1 : Nat) : Int) := by rw [w64 (by omega) (by omega)]; omega
    refine Ev.step (fun k => by rw [impl_QuoteText.l0]) ?_
    refine ev_pos (by omega) (ev_pos (by omega) ?_)
    rw [e2, drop_cons (z := 0) (by rw [bts_length]; omega), quoteL_cons, ← Int.toNat_natCast i, ← bt_eq, Int.toNat_natCast]
    refine ev_ite (fun h => ?_) (fun h => ev_ite (fun h2 => ?_) (fun h2 => ?_))
    · refine ev_pos (by omega) (ev_let _ rfl (ev_pos (by simp; omega) ?_))
      have := ih (i + 1) (acc ++ [92] ++ [bt s i]) (by omega) (by simp; omega)
      rw [quoteB, if_pos (.inl h)]
      simpa using this
    · refine ev_pos (by omega) (ev_let _ rfl (ev_pos (by simp; omega) ?_))
      have := ih (i + 1) (acc ++ [92] ++ [bt s i]) (by omega) (by simp; omega)
      rw [quoteB, if_pos (.inr h2)]
      simpa using this
    · refine ev_pos (by omega) ?_
      have := ih (i + 1) (acc ++ [bt s i]) (by omega) (by simp; omega)
      rw [quoteB, if_neg (by omega)]
      simpa using this
theorem impl_QuoteText_ev (s : ByteArray) (hs : s.size ≤ 35184372088832) : Ev (fun k => impl_QuoteText.f k s) (mQuote s) := by
  have := impl_QuoteText_l0 s hs s.size 0 [34] (by omega) (by simp)
  show Ev (fun k => impl_QuoteText.l0 k s [34] 0) _
  unfold mQuote
  simpa using this

/-! #### QuoteText -/


/-! #### TokenText -/
def mTokenText (a : Int) (b : ByteArray) : ByteArray := if a = 3 then mQuote b else b
theorem spec_TokenText_ev (a : Int) (b : ByteArray) (c : Int) (hb : b.size ≤ 35184372088832) : Ev (fun k => spec_TokenText.f k a b c) (mTokenText a b) := by
  simp only [spec_TokenText.f]
  unfold mTokenText
  refine ev_ite (fun h => ?_) (fun h => ?_)
  · rw [if_pos h]; exact ev_bind _ (spec_QuoteText_ev b hb) (ev_const rfl)
  · rw [if_neg h]; exact ev_const rfl
theorem impl_TokenText_ev (a : Int) (b : ByteArray) (c : Int) (hb : b.size ≤ 35184372088832) : Ev (fun k => impl_TokenText.f k a b c) (mTokenText a b) := by
  simp only [impl_TokenText.f]
  unfold mTokenText
  refine ev_ite (fun h => ?_) (fun h => ?_)
  · rw [if_pos h]; exact ev_bind _ (impl_QuoteText_ev b hb) (ev_const rfl)
  · rw [if_neg h]; exact ev_const rfl

/-! #### JoinTokens -/
abbrev TK := S110
def tkt (x : TK) : ByteArray := mTokenText x.f0 x.f1
theorem tkt_size (x : TK) : (tkt x).size ≤ 2 * x.f1.size + 2 := by
  unfold tkt mTokenText
  split
  · unfold mQuote
    rw [size_str]
    have := quoteL_len (bts x.f1)
    rw [bts_length] at this
    simp only [List.length_cons, List.length_append, List.length_nil]
    omega
  · omega
def spc : ByteArray := ⟨#[32]⟩
def jl : List TK → Bool → ByteArray → ByteArray
  | [], _, acc => acc
  | x :: l, true, acc => jl l true ((acc ++ spc) ++ tkt x)
  | x :: l, false, acc => jl l true (acc ++ tkt x)
def cost : List TK → Nat
  | [] => 0
  | x :: l => (tkt x).size + 1 + cost l
theorem cost_le (l : List TK) : cost l ≤ 3 * l.length + 2 * mu110 l := by
  induction l with
  | nil => simp [cost]
  | cons x l ih => simp only [cost, mu110, List.length_cons, ms110]; have := tkt_size x; omega
theorem size_app (a b : ByteArray) : (a ++ b).size = a.size + b.size := ByteArray.size_append
theorem spc_size : spc.size = 1 := rfl
theorem dat_app (a b : ByteArray) : (a ++ b).data.toList = a.data.toList ++ b.data.toList := by rw [ByteArray.data_append, Array.toList_append]
theorem jl_true (l : List TK) (acc : ByteArray) : (jl l true acc).data.toList = acc.data.toList ++ Lib.joinTail [32] (l.map fun x => (tkt x).data.toList) := by
  induction l generalizing acc with
  | nil => simp [jl, Lib.joinTail]
  | cons x l ih =>
    rw [jl, ih, dat_app, dat_app]
    simp only [Lib.joinTail, List.map_cons, List.flatten_cons, List.append_assoc]
    rfl
theorem jl_join (l : List TK) : (jl l false ⟨#[]⟩).data.toList = Lib.join (l.map fun x => (tkt x).data.toList) [32] := by
  cases l with
  | nil => rfl
  | cons x l => rw [jl, jl_true, List.map_cons, Lib.join_cons, dat_app]; rfl
theorem jl_size (l : List TK) (b : Bool) (acc : ByteArray) : (jl l b acc).size ≤ acc.size + cost l := by
  induction l generalizing acc b with
  | nil => cases b <;> simp [jl, cost]
  | cons x l ih =>
    cases b
    · rw [jl]; have := ih true (acc ++ tkt x); rw [size_app] at this; simp only [cost]; omega
    · rw [jl]; have := ih true ((acc ++ spc) ++ tkt x); rw [size_app, size_app, spc_size] at this; simp only [cost]; omega
theorem spec_Join_l0 : ∀ (suf pre : List TK) (acc : ByteArray) (hb : (pre ++ suf).length ≤ 1048576) (hm : mu110 suf ≤ 1048576) (ha : acc.size + cost suf ≤ 1000000000000), Ev (fun k => spec_JoinTokens.l0 k (pre ++ suf) acc (pre.length : Int)) (jl suf (!pre.isEmpty) acc)
  | [], pre, acc, hb, hm, ha => by
    refine Ev.step (fun k => by rw [spec_JoinTokens.l0]) ?_
    exact ev_neg (by simp) (ev_const (by cases pre <;> rfl))
  | x :: suf, pre, acc, hb, hm, ha => by
    have ex : rd_T110 (pre ++ x :: suf) (pre.length : Int) = x := by unfold rd_T110; exact at_pre pre suf x _
    have hb' := hb
    simp only [List.length_append, List.length_cons] at hb'
    rw [mu110] at hm
    simp only [ms110] at hm
    simp only [cost] at ha
    have ht : Ev (fun k => spec_TokenText.f k x.f0 x.f1 x.f2) (tkt x) := spec_TokenText_ev x.f0 x.f1 x.f2 (by omega)
    refine Ev.step (fun k => by rw [spec_JoinTokens.l0]) ?_
    refine ev_pos (by simp only [List.length_append, List.length_cons]; omega) ?_
    rw [ex, next_pre pre x (by omega)]
    refine ev_ite (fun h => ?_) (fun h => ?_)
    · refine ev_pos (by omega) (ev_pos (by omega) (ev_bind _ ht ?_))
      refine ev_pos (by show (acc ++ spc).size + _ ≤ _; rw [size_app, spc_size]; omega) ?_
      have z := spec_Join_l0 suf (pre ++ [x]) ((acc ++ spc) ++ tkt x) (by simpa using hb) (by omega) (by rw [size_app, size_app, spc_size]; omega)
      rw [List.append_assoc] at z
      have e : (!pre.isEmpty) = true := by cases pre with | nil => simp at h | cons _ _ => rfl
      rw [e, jl]
      have e' : (!(pre ++ [x]).isEmpty) = true := by cases pre <;> rfl
      rw [e'] at z
      exact z
    · refine ev_pos (by omega) (ev_bind _ ht ?_)
      refine ev_pos (by omega) ?_
      have z := spec_Join_l0 suf (pre ++ [x]) (acc ++ tkt x) (by simpa using hb) (by omega) (by rw [size_app]; omega)
      rw [List.append_assoc] at z
      have e : (!pre.isEmpty) = false := by cases pre with | nil => rfl | cons _ _ => simp at h
      rw [e, jl]
      have e' : (!(pre ++ [x]).isEmpty) = true := by cases pre <;> rfl
      rw [e'] at z
      exact z
theorem spec_JoinTokens_ev (l : List TK) (hb : l.length ≤ 1048576) (hm : mu110 l ≤ 1048576) : Ev (fun k => spec_JoinTokens.f k l) (jl l false ⟨#[]⟩) := by
  simp only [spec_JoinTokens.f]
  have h := cost_le l
  have hs : (⟨#[]⟩ : ByteArray).size = 0 := rfl
  exact spec_Join_l0 l [] ⟨#[]⟩ (by simpa using hb) hm (by omega)
theorem impl_Join_l0 : ∀ (suf pre : List TK) (hb : (pre ++ suf).length ≤ 1048576) (hm : mu110 suf ≤ 1048576) (ha : cost (pre ++ suf) ≤ 1000000000), Ev (fun k => impl_JoinTokens.l0 k (pre.map tkt) (pre ++ suf) ((pre ++ suf).length : Int) (pre.length : Int)) (jl (pre ++ suf) false ⟨#[]⟩)
  | [], pre, hb, hm, ha => by
    refine Ev.step (fun k => by rw [impl_JoinTokens.l0]) ?_
    refine ev_neg (by simp) ?_
    have e : strings_Join.f (pre.map tkt) spc = some (jl (pre ++ []) false ⟨#[]⟩) := by
      rw [List.append_nil] at ha hb ⊢
      have h := jl_join pre
      have h2 := jl_size pre false ⟨#[]⟩
      have hs : (⟨#[]⟩ : ByteArray).size = 0 := rfl
      have e1 : (pre.map tkt).map (·.data.toList) = pre.map fun x => (tkt x).data.toList := by rw [List.map_map]; rfl
      have e2 : spc.data.toList = [32] := rfl
      have h3 := congrArg List.length h
      rw [szd] at h3
      unfold strings_Join.f
      rw [e1, e2, ← h, if_pos (by rw [List.length_map]; omega), if_pos (by rw [szd]; omega)]
    exact ev_let _ e (ev_const rfl)
  | x :: suf, pre, hb, hm, ha => by
    have ex : rd_T110 (pre ++ x :: suf) (pre.length : Int) = x := by unfold rd_T110; exact at_pre pre suf x _
    have hb' := hb
    simp only [List.length_append, List.length_cons] at hb'
    rw [mu110] at hm
    simp only [ms110] at hm
    have ht : Ev (fun k => impl_TokenText.f k x.f0 x.f1 x.f2) (tkt x) := impl_TokenText_ev x.f0 x.f1 x.f2 (by omega)
    refine Ev.step (fun k => by rw [impl_JoinTokens.l0]) ?_
    refine ev_pos (by simp only [List.length_append, List.length_cons]; omega) (ev_pos (by omega) (ev_pos (by simp only [List.length_append, List.length_cons]; omega) ?_))
    rw [ex, next_pre pre x (by omega)]
    refine ev_bind _ ht (ev_pos (by rw [List.length_map]; omega) ?_)
    have z := impl_Join_l0 suf (pre ++ [x]) (by simpa using hb) (by omega) (by simpa using ha)
    rw [List.append_assoc, List.map_append] at z
    exact z
theorem impl_JoinTokens_ev (l : List TK) (hb : l.length ≤ 1048576) (hm : mu110 l ≤ 1048576) : Ev (fun k => impl_JoinTokens.f k l) (jl l false ⟨#[]⟩) := by
  simp only [impl_JoinTokens.f]
  have h := cost_le l
  exact impl_Join_l0 l [] (by simpa using hb) hm (by rw [List.nil_append]; omega)

theorem FnExactJoinTokens : laws_FnExactJoinTokens.Pure := by
  rintro l g
  refine Ev.rounds ?_
  simp only [laws_FnExactJoinTokens.f]
  refine sz_guard (szTokenS_ok l 1048576 g (by omega) (by omega)) (fun z hz ez => ?_)
  have hc : (cvl108 l).length ≤ 1048576 := by rw [cvl108_length]; omega
  have hm : mu110 (cvl108 l) ≤ 1048576 := by rw [mucv108]; omega
  refine ev_bind _ (toTokenS_ev l (by omega)) (ev_bind _ (spec_JoinTokens_ev _ hc hm) ?_)
  refine ev_bind _ (toTokenS_ev l (by omega)) (ev_bind _ (impl_JoinTokens_ev _ hc hm) ?_)
  refine ev_pos rfl ?_
  refine ev_bind _ (toTokenS_ev l (by omega)) (ev_bind _ (eqTokenS_ev _ (by omega)) ?_)
  exact ev_pos rfl (ev_const rfl)

end Go.Proofs.Ytnccklajpmpfdaa.Pure.LFnExactJoinTokens
namespace Go.Proofs.Ytnccklajpmpfdaa.Pure
theorem FnExactJoinTokens : PFnExactJoinTokens.laws_FnExactJoinTokens.Pure := LFnExactJoinTokens.FnExactJoinTokens
end Go.Proofs.Ytnccklajpmpfdaa.Pure
