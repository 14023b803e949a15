/- For every whole number, the program's FormatInt returns what the reference's FormatInt returns. -/
import Derived.Test.YtnccklajpmpfdaaDoorPFnExactFormatIntx0
import Derived.Test.YtnccklajpmpfdaaDoorPFnExactFormatIntx1
import Derived.Test.YtnccklajpmpfdaaDoorQFnExactFormatInt
import Derived.Test.YtnccklajpmpfdaaDoorBase
import Derived.Test.YtnccklajpmpfdaaDoorExt
namespace Go.Proofs.YtnccklajpmpfdaaDoor.Pure.LFnExactFormatInt
open Go.RowKit Go.Proofs.YtnccklajpmpfdaaDoor.PFnExactFormatInt Go.Proofs.YtnccklajpmpfdaaDoorW.PrintWords Go.Proofs.YtnccklajpmpfdaaDoorW.PrintLast Go.Proofs.YtnccklajpmpfdaaDoorW.PrintMore Go.Proofs.YtnccklajpmpfdaaDoor.Base
set_option linter.unusedVariables false
set_option linter.unusedSimpArgs false

/-! #### mItoa -/
/-! decimal numerals -/
def itoaS (n : Int) : ByteArray := ⟨(Lib.itoa n).toArray⟩
def digs (u : Nat) : List UInt8 := if u = 0 then [] else Lib.decDigits u
theorem digs_step {u : Nat} (h : u ≠ 0) : digs u = digs (u / 10) ++ [UInt8.ofNat (48 + u % 10)] := by
  unfold digs
  rw [if_neg h]
  by_cases h2 : u < 10
  · rw [if_pos (show u / 10 = 0 by omega), Lib.decDigits_one h2, Nat.mod_eq_of_lt h2]; rfl
  · rw [if_neg (show ¬ u / 10 = 0 by omega), Lib.decDigits, dif_neg h2]
theorem impl_FormatInt_eq (n : Int) (h0 : -9223372036854775808 ≤ n) (h1 : n ≤ 9223372036854775807) : impl_FormatInt.f n = some (itoaS n) := by
  unfold impl_FormatInt.f strconv_Itoa.f
  rw [if_pos h0, if_pos h1]; rfl

/-! #### spec_FormatInt -/
def finS (n : Int) (l : List UInt8) : ByteArray := ⟨((if n < 0 then [45] else []) ++ l).toArray⟩
theorem data_app (a b : ByteArray) : (a ++ b).data.toList = a.data.toList ++ b.data.toList := by rw [ByteArray.data_append]; simp
theorem spec_FormatInt_l0 (n : Int) : ∀ (d : Nat) (x : Int) (s : ByteArray), x.natAbs < 10 ^ d → x.natAbs ≤ 9223372036854775808 → s.size + d ≤ 100 → Ev (fun k => spec_FormatInt.l0 k n s x) (finS n (digs x.natAbs ++ s.data.toList)) := by
  have done : ∀ (s : ByteArray), s.size ≤ 100 → Ev (fun k => spec_FormatInt.l0 k n s 0) (finS n (digs (0 : Int).natAbs ++ s.data.toList)) := by
    intro s hs
    refine Ev.step (fun k => by rw [spec_FormatInt.l0]) (ev_pos rfl ?_)
    refine ev_ite (fun h => ev_pos (by omega) (ev_const ?_)) (fun h => ev_const ?_)
    · refine congrArg some (bytes_ext ?_)
      rw [data_app]; simp [finS, h, digs]
    · refine congrArg some (bytes_ext ?_)
      simp [finS, h, digs]
  intro d
  induction d with
  | zero =>
    intro x s hx hb hs
    have : x = 0 := by simp at hx; omega
    subst this
    exact done s (by omega)
  | succ d ih =>
    intro x s hx hb hs
    by_cases h0 : x = 0
    · subst h0; exact done s (by omega)
    have hc : ∀ c : Int, c = ((48 + x.natAbs % 10 : Nat) : Int) → (strOfNums [c] ++ s).data.toList = UInt8.ofNat (48 + x.natAbs % 10) :: s.data.toList ∧ (strOfNums [c]).size = 1 ∧ (strOfNums [c] ++ s).size = s.size + 1 := by
      intro c hc
      subst hc
      have e1 : (strOfNums [((48 + x.natAbs % 10 : Nat) : Int)]).size = 1 := by rw [size_str]; rfl
      refine ⟨?_, e1, by rw [ByteArray.size_append, e1]; omega⟩
      rw [data_app]
      show [UInt8.ofNat (((48 + x.natAbs % 10 : Nat) : Int)).toNat] ++ _ = _
      rw [Int.toNat_natCast]; rfl
    have hd : (Int.tdiv x 10).natAbs = x.natAbs / 10 := by rw [Int.natAbs_tdiv]; rfl
    have hp : x.natAbs / 10 < 10 ^ d := by rw [Nat.pow_succ] at hx; omega
    have next : ∀ c : Int, c = ((48 + x.natAbs % 10 : Nat) : Int) → wrap64 (Int.tdiv x 10) = Int.tdiv x 10 → Ev (fun k => (some ([c] : List Int)).bind fun y => (if (strOfNums y).size + s.size ≤ 9223372036854775807 then spec_FormatInt.l0 k n (strOfNums y ++ s) (wrap64 (Int.tdiv x 10)) else none)) (finS n (digs x.natAbs ++ s.data.toList)) := by
      intro c hc' hw
      obtain ⟨h1, h2, h3⟩ := hc c hc'
      refine ev_let _ rfl (ev_pos (by rw [h2]; omega) ?_)
      rw [hw]
      have z := ih (Int.tdiv x 10) (strOfNums [c] ++ s) (by rw [hd]; exact hp) (by rw [hd]; omega) (by rw [h3]; omega)
      rw [hd, h1] at z
      rw [digs_step (show x.natAbs ≠ 0 by omega), List.append_assoc]
      exact z
    refine Ev.step (fun k => by rw [spec_FormatInt.l0]) (ev_neg h0 ?_)
    have q1 : ∀ m : Nat, Int.tmod (m : Int) 10 = ((m % 10 : Nat) : Int) := fun _ => rfl
    have q2 : ∀ m : Nat, Int.tdiv (m : Int) 10 = ((m / 10 : Nat) : Int) := fun _ => rfl
    rcases Int.natAbs_eq x with hx' | hx'
    · have e1 : Int.tmod x 10 = ((x.natAbs % 10 : Nat) : Int) := by conv => lhs; rw [hx', q1]
      have e2 : Int.tdiv x 10 = ((x.natAbs / 10 : Nat) : Int) := by conv => lhs; rw [hx', q2]
      rw [e1]
      refine ev_neg (by omega) (next _ ?_ (by rw [e2]; exact w64 (by omega) (by omega)))
      rw [w64 (by omega) (by omega)]; omega
    · have e1 : Int.tmod x 10 = -((x.natAbs % 10 : Nat) : Int) := by conv => lhs; rw [hx', Int.neg_tmod, q1]
      have e2 : Int.tdiv x 10 = -((x.natAbs / 10 : Nat) : Int) := by conv => lhs; rw [hx', Int.neg_tdiv, q2]
      rw [e1]
      by_cases h1 : x.natAbs % 10 = 0
      · rw [h1]
        refine ev_neg (by omega) (next _ ?_ (by rw [e2]; exact w64 (by omega) (by omega)))
        rw [h1, w64 (by omega) (by omega)]; omega
      · refine ev_pos (by omega) (next _ ?_ (by rw [e2]; exact w64 (by omega) (by omega)))
        rw [Int.neg_neg, w64 (x := ((x.natAbs % 10 : Nat) : Int)) (by omega) (by omega), w64 (by omega) (by omega)]; omega
theorem finS_eq {n : Int} (h : n ≠ 0) : finS n (digs n.natAbs ++ (⟨#[]⟩ : ByteArray).data.toList) = itoaS n := by
  unfold finS itoaS Lib.itoa digs
  rw [if_neg (show ¬ n.natAbs = 0 by omega)]
  by_cases h1 : n < 0
  · simp [h1]
  · simp [h1, show n.natAbs = n.toNat by omega]
theorem itoaS_zero : itoaS 0 = ⟨#[48]⟩ := by
  unfold itoaS Lib.itoa
  rw [if_neg (by decide), show (0 : Int).toNat = 0 from rfl, Lib.decDigits_one (by decide)]; rfl
theorem spec_FormatInt_ev (n : Int) (h0 : -9223372036854775808 ≤ n) (h1 : n ≤ 9223372036854775807) : Ev (fun k => spec_FormatInt.f k n) (itoaS n) := by
  simp only [spec_FormatInt.f]
  by_cases h : n = 0
  · subst h
    exact ev_pos rfl (ev_const (by rw [itoaS_zero]))
  · refine ev_neg h ?_
    rw [← finS_eq h]
    exact spec_FormatInt_l0 n 19 n ⟨#[]⟩ (by have e : (10 : Nat) ^ 19 = 10000000000000000000 := by decide
                                             omega) (by omega) (by show 0 + 19 ≤ 100; omega)

theorem wf_i64 {n : Int} (h : (Lit.int .i64 n).wf = true) : -9223372036854775808 ≤ n ∧ n ≤ 9223372036854775807 := by
  simpa [Lit.wf, IntKind.min, IntKind.max, IntKind.signed, IntKind.bits] using h
theorem FnExactFormatInt : laws_FnExactFormatInt.Pure := by
  intro n hn
  have h := wf_i64 hn
  refine Ev.rounds ?_
  simp only [laws_FnExactFormatInt.f]
  refine ev_bind _ (spec_FormatInt_ev n h.1 h.2) (ev_let _ (impl_FormatInt_eq n h.1 h.2) ?_)
  exact ev_pos rfl (ev_const rfl)

end Go.Proofs.YtnccklajpmpfdaaDoor.Pure.LFnExactFormatInt
namespace Go.Proofs.YtnccklajpmpfdaaDoor.Pure
theorem FnExactFormatInt : PFnExactFormatInt.laws_FnExactFormatInt.Pure := LFnExactFormatInt.FnExactFormatInt
end Go.Proofs.YtnccklajpmpfdaaDoor.Pure
