/- Contracts of functions of Go's library, in the form of the printed contracts. -/
import Derived.Test.YtmkhoakhfdjplaaShelf
import Derived.Test.YtmkhoakhfdjplaaWMore
import Derived.Sort.OwnSorted
namespace Go.Proofs.Ytmkhoakhfdjplaa
open Go.RowKit Go.Proofs.YtmkhoakhfdjplaaW.PrintWords Go.Proofs.YtmkhoakhfdjplaaW.PrintLast Go.Proofs.YtmkhoakhfdjplaaW.PrintMore
def sortB (l : List ByteArray) : List ByteArray := ((l.map (·.data.toList)).mergeSort fun x y => decide (x ≤ y)).map fun c => ⟨c.toArray⟩
def slices_Sort.f (l0 : List ByteArray) : Option (List ByteArray) := if l0.length < 4611686018427387904 then some (sortB l0) else none
theorem sortB_length (l : List ByteArray) : (sortB l).length = l.length := by simp [sortB]
theorem encs_str (l : List ByteArray) : encs Value.string l = (l.map (·.data.toList)).map encStr := by
  unfold encs
  rw [List.map_map]
  exact List.map_congr_left fun x _ => rfl
theorem encs_back (l : List (List UInt8)) : encs Value.string (l.map fun c => (⟨c.toArray⟩ : ByteArray)) = l.map encStr := by
  unfold encs
  rw [List.map_map]
  exact List.map_congr_left fun x _ => rfl
theorem slices_Sort.calls (P0_ : Nat → Prop) (u9000_ : Value) (l0 : List ByteArray) (r : List ByteArray) (w0 w : World) (hB : Below w0.heap.size w0 w) (ho0 : Kd.R Kd.string 9 w w0.heap.size P0_ u9000_ l0) (h : slices_Sort.f l0 = some r) :
    Calls Try.prog 78 #[u9000_] w fun e w' => e = .returned (.tuple #[]) ∧ Kd.R Kd.string 9 w' w0.heap.size (fun k_ => (P0_ k_ ∨ w.heap.size ≤ k_)) u9000_ r ∧ Below w0.heap.size w0 w' ∧ Kept w w' (fun k_ => P0_ k_) := by
  unfold slices_Sort.f at h
  split at h
  case isFalse => cases h
  rename_i hsz
  obtain rfl := Option.some.inj h
  have hown := Kd.own_of_R ho0
  have hlen : (sortB l0).length = l0.length := sortB_length l0
  rcases hown.2 with ⟨rfl, h0⟩ | ⟨g, cap, cur, rfl, hbase, hb, h1, h2, h3, h4⟩
  · have hz : l0 = [] := List.eq_nil_of_length_eq_zero (by first | exact h0 | simpa using h0)
    subst hz
    refine (Try.slices_Sort_string_none none 0 w).mono ?_
    rintro e w' ⟨rfl, rfl⟩
    have e0 : sortB [] = [] := List.eq_nil_of_length_eq_zero (sortB_length [])
    rw [e0]
    exact ⟨rfl, Kd.R_mono ho0 (fun k hk => .inl hk), hB, Kept.refl _ _⟩
  · have hs : (l0.map (·.data.toList)).length = l0.length := List.length_map ..
    rw [Nat.mul_one] at h4
    rw [encs_str] at h4
    have hc := Try.slices_Sort_string g 0 cap (l0.map (·.data.toList)) w (holds_of_block hb (by rw [hs]; exact h4)) (Array.getElem?_eq_some_iff.1 hb).1 (by rw [hs]; exact hsz)
    rw [hs] at hc
    refine hc.mono ?_
    rintro e w' ⟨rfl, n, os, rfl⟩
    have hg := grownBy_sorted (w := w) (g := g) (n := n) (os := os) ((l0.map (·.data.toList)).mergeSort fun x y => decide (x ≤ y)).toArray
    have ho := ownsRow_sorted (w := w) (base := w0.heap.size) (g := g) (cap := cap) (n := n) (e := 9) (os := os) (cur := cur) (ss := l0.map (·.data.toList)) (ts := (l0.map (·.data.toList)).mergeSort fun x y => decide (x ≤ y)) (by simp) hbase hb (by rw [hs]; exact h1) h2 h3
    rw [hs] at ho
    refine ⟨rfl, ?_, hB.grown hg hB.size (fun k hk => by cases hk; exact hbase), Kept.of_grown (S := fun k_ => P0_ k_) hg (Kept.refl _ _) (fun k_ e_ => .inl (ho0.1 k_ (by rw [← e_]; rfl)))⟩
    refine Kd.R_of_own ?_ (fun k hk => .inl (ho0.1 k hk))
    rw [hlen]
    show World.ownsRow _ _ _ _ _ _ (encs Value.string (sortB l0))
    unfold sortB
    rw [encs_back]
    exact ho

def strings_IndexByte.f (a0 : ByteArray) (a1 : Int) : Option Int := some (Lib.indexByte a0.data.toList a1.toNat.toUInt8)
theorem strings_IndexByte.calls (a0 : ByteArray) (a1 : Int) (r : Int) (w : World) (h : strings_IndexByte.f a0 a1 = some r) :
    Calls Try.prog 90 #[.string a0, .int .u8 a1] w fun e w' => e = .returned (.int .i64 r) ∧ Drawn0 w w' := by
  obtain rfl := Option.some.inj h
  refine (Try.strings_IndexByte a0 a1 w).mono ?_
  rintro e w' ⟨rfl, rfl⟩
  exact ⟨rfl, Drawn0.refl _⟩

theorem addr_form {w : World} {ad : Addr} {v : Value} (h : w.cell? ad = some v) : ad = ⟨ad.block, ad.off, none⟩ := by
  unfold World.cell? at h
  split at h
  · split at h
    · cases h
    · rename_i hs
      cases ad with
      | mk b o s =>
        cases s with
        | none => rfl
        | some x => simp at hs
  · cases h
theorem add_off (b o j : Nat) : (⟨b, o, none⟩ : Addr).add j = ⟨b, o + j, none⟩ := by
  unfold Addr.add
  split
  · rename_i h
    subst h
    rfl
  · rfl
def strings_Join.f (l0 : List ByteArray) (a1 : ByteArray) : Option ByteArray :=
  if l0.length ≤ 140737488355328 then (if (Lib.join (l0.map (·.data.toList)) a1.data.toList).length ≤ 140737488355328 then some ⟨(Lib.join (l0.map (·.data.toList)) a1.data.toList).toArray⟩ else none) else none
theorem strings_Join.calls (A0 : Option Addr) (c0 : Nat) (l0 : List ByteArray) (a1 : ByteArray) (r : ByteArray) (w : World) (hr0 : Kd.C Kd.string w A0 l0.length l0) (hc0 : l0.length ≤ c0) (h : strings_Join.f l0 a1 = some r) :
    Calls Try.prog 62 #[.slice A0 l0.length c0, .string a1] w fun e w' => e = .returned (.string r) ∧ Below w.heap.size w w' := by
  unfold strings_Join.f at h
  split at h
  · rename_i hN
    split at h
    · rename_i hL
      obtain rfl := Option.some.inj h
      rcases Nat.eq_zero_or_pos l0.length with h0 | h0
      · obtain rfl := List.eq_nil_of_length_eq_zero h0
        refine (Try.strings_Join_none A0 c0 a1 w).mono ?_
        rintro e w' ⟨rfl, rfl⟩
        exact ⟨rfl, Below.refl _ _⟩
      · obtain ⟨ad, rfl, hcell⟩ := hr0.2.2 h0
        have get : ∀ (j : Nat) (x : ByteArray), l0[j]? = some x → w.cell? (ad.add j) = some (.string x) := by
          intro j x hx
          obtain ⟨c, _, hc, hcc⟩ := hcell j x hx
          have hc' : c = [.string x] := hc
          subst hc'
          have := hcc 0 _ rfl
          rw [show j * Kd.string.sz + 0 = j from by simp [Kd.string, Kd.scalar]] at this
          exact this
        have g0 := get 0 _ (List.getElem?_eq_getElem h0)
        have e0 : ad.add 0 = ad := by unfold Addr.add; rw [if_pos rfl]
        rw [e0] at g0
        have hf := addr_form g0
        have hb := World.block_lt_of_cell? w ad g0
        rw [hf] at get ⊢
        refine (Try.strings_Join ad.block ad.off c0 l0 a1 w (fun j x hx => ?_) hb hN hc0 hL).mono ?_
        · have := get j x hx
          rwa [add_off] at this
        · rintro e w' ⟨rfl, hb2⟩
          exact ⟨rfl, hb2⟩
    · cases h
  · cases h
end Go.Proofs.Ytmkhoakhfdjplaa
