/- Contracts of functions of Go's library, in the form of the printed contracts. -/
import Derived.Test.YtnccklajpmpfdaaDoorShelf
import Derived.Test.YtnccklajpmpfdaaDoorWMore
namespace Go.Proofs.YtnccklajpmpfdaaDoor
open Go.RowKit Go.Proofs.YtnccklajpmpfdaaDoorW.PrintWords Go.Proofs.YtnccklajpmpfdaaDoorW.PrintLast Go.Proofs.YtnccklajpmpfdaaDoorW.PrintMore
/-- The library's table of powers of ten lies in memory. -/
def TB (w : World) : Prop := Lib.TabIs Tryd.prog w "internal/strconv.uint64pow10" .u64 Lib.pow10Tab
theorem TB_below {w w' : World} (h : TB w) (hb : Below w.heap.size w w') : TB w' := by
  unfold TB Lib.TabIs World.var? at h ⊢
  have hg : Tryd.prog.globalNamed "internal/strconv.uint64pow10" = some 0 := by kernel_rfl
  rw [hg] at h ⊢
  simp only [Option.bind_some] at h ⊢
  have hlt : 0 < w.heap.size := by
    rcases Nat.lt_or_ge 0 w.heap.size with h' | h'
    · exact h'
    · rw [Array.getElem?_eq_none h'] at h; cases h
  rw [hb.block _ hlt]
  exact h
theorem TB_of_laid {W : World} (h : laidMet Tryd.prog [("internal/strconv.uint64pow10", Lib.tabData .u64 Lib.pow10Tab)] W) : TB W :=
  Lib.tabIs_of_head (g := 0) (t := 34) (e := 27) (n := 20) (by kernel_rfl) (by kernel_rfl) (by kernel_rfl) (by kernel_rfl) (by kernel_rfl) (by kernel_rfl) h
def strconv_Itoa.f (a0 : Int) : Option ByteArray := if -9223372036854775808 ≤ a0 then (if a0 ≤ 9223372036854775807 then some ⟨(Lib.itoa a0).toArray⟩ else none) else none
theorem strconv_Itoa.calls (a0 : Int) (r : ByteArray) (w : World) (hT : TB w) (h : strconv_Itoa.f a0 = some r) :
    Calls Tryd.prog 6 #[.int .i64 a0] w fun e w' => e = .returned (.string r) ∧ Below w.heap.size w w' := by
  unfold strconv_Itoa.f at h
  split at h
  · rename_i h0
    split at h
    · rename_i h1
      obtain rfl := Option.some.inj h
      refine (Tryd.strconv_Itoa a0 h0 h1 w hT).mono ?_
      rintro e w' ⟨rfl, k, os, rfl⟩
      exact ⟨rfl, rfl, rfl, rfl, by simp [Sort.grow, World.drewN], fun i hi => by simp [Sort.grow, World.drewN, Array.getElem?_append, hi]⟩
    · cases h
  · cases h
end Go.Proofs.YtnccklajpmpfdaaDoor
