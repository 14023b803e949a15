/- Contracts of functions of Go's library, in the form of the printed contracts. -/
import Derived.Test.YtnccklajpmpfdaaShelf
import Derived.Test.YtnccklajpmpfdaaWMore
namespace Go.Proofs.Ytnccklajpmpfdaa
open Go.RowKit Go.Proofs.YtnccklajpmpfdaaW.PrintWords Go.Proofs.YtnccklajpmpfdaaW.PrintLast Go.Proofs.YtnccklajpmpfdaaW.PrintMore
def strings_IndexByte.f (a0 : ByteArray) (a1 : Int) : Option Int := some (Lib.indexByte a0.data.toList a1.toNat.toUInt8)
theorem strings_IndexByte.calls (a0 : ByteArray) (a1 : Int) (r : Int) (w : World) (h : strings_IndexByte.f a0 a1 = some r) :
    Calls Try.prog 85 #[.string a0, .int .u8 a1] w fun e w' => e = .returned (.int .i64 r) ∧ Drawn0 w w' := by
  obtain rfl := Option.some.inj h
  refine (Try.strings_IndexByte a0 a1 w).mono ?_
  rintro e w' ⟨rfl, rfl⟩
  exact ⟨rfl, Drawn0.refl _⟩

theorem addr_form {w : World} {ad : Addr} {v : Value} (h : w.cell? ad = some v) : ad = ⟨ad.block, ad.off, none⟩ := by
  unfold World.cell? at h
  split at h
  · split at h
    · cases h
    · rename_i hs
      cases ad with
      | mk b o s =>
        cases s with
        | none => rfl
        | some x => simp at hs
  · cases h
theorem add_off (b o j : Nat) : (⟨b, o, none⟩ : Addr).add j = ⟨b, o + j, none⟩ := by
  unfold Addr.add
  split
  · rename_i h
    subst h
    rfl
  · rfl
def strings_Join.f (l0 : List ByteArray) (a1 : ByteArray) : Option ByteArray :=
  if l0.length ≤ 140737488355328 then (if (Lib.join (l0.map (·.data.toList)) a1.data.toList).length ≤ 140737488355328 then some ⟨(Lib.join (l0.map (·.data.toList)) a1.data.toList).toArray⟩ else none) else none
theorem strings_Join.calls (A0 : Option Addr) (c0 : Nat) (l0 : List ByteArray) (a1 : ByteArray) (r : ByteArray) (w : World) (hr0 : Kd.C Kd.string w A0 l0.length l0) (hc0 : l0.length ≤ c0) (h : strings_Join.f l0 a1 = some r) :
    Calls Try.prog 76 #[.slice A0 l0.length c0, .string a1] w fun e w' => e = .returned (.string r) ∧ Below w.heap.size w w' := by
  unfold strings_Join.f at h
  split at h
  · rename_i hN
    split at h
    · rename_i hL
      obtain rfl := Option.some.inj h
      rcases Nat.eq_zero_or_pos l0.length with h0 | h0
      · obtain rfl := List.eq_nil_of_length_eq_zero h0
        refine (Try.strings_Join_none A0 c0 a1 w).mono ?_
        rintro e w' ⟨rfl, rfl⟩
        exact ⟨rfl, Below.refl _ _⟩
      · obtain ⟨ad, rfl, hcell⟩ := hr0.2.2 h0
        have get : ∀ (j : Nat) (x : ByteArray), l0[j]? = some x → w.cell? (ad.add j) = some (.string x) := by
          intro j x hx
          obtain ⟨c, _, hc, hcc⟩ := hcell j x hx
          have hc' : c = [.string x] := hc
          subst hc'
          have := hcc 0 _ rfl
          rw [show j * Kd.string.sz + 0 = j from by simp [Kd.string, Kd.scalar]] at this
          exact this
        have g0 := get 0 _ (List.getElem?_eq_getElem h0)
        have e0 : ad.add 0 = ad := by unfold Addr.add; rw [if_pos rfl]
        rw [e0] at g0
        have hf := addr_form g0
        have hb := World.block_lt_of_cell? w ad g0
        rw [hf] at get ⊢
        refine (Try.strings_Join ad.block ad.off c0 l0 a1 w (fun j x hx => ?_) hb hN hc0 hL).mono ?_
        · have := get j x hx
          rwa [add_off] at this
        · rintro e w' ⟨rfl, hb2⟩
          exact ⟨rfl, hb2⟩
    · cases h
  · cases h
end Go.Proofs.Ytnccklajpmpfdaa
