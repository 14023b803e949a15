/- Contracts of functions of Go's library, in the form of the printed contracts. -/
import Derived.Test.YtnccklajpmpfdaaShelf
import Derived.Test.YtnccklajpmpfdaaWMore
namespace Go.Proofs.Ytnccklajpmpfdaa
open Go.RowKit Go.Proofs.YtnccklajpmpfdaaW.PrintWords Go.Proofs.YtnccklajpmpfdaaW.PrintLast Go.Proofs.YtnccklajpmpfdaaW.PrintMore
--#want
/-! Marks into rows whose inner rows may be shared: the cells change, each for one of its kind; no row's shape does. -/
set_option linter.unusedVariables false
set_option linter.unusedSimpArgs false
inductive LikeV : Value → Value → Prop
  | same (u : Value) : LikeV u u
  | str (s t : ByteArray) : LikeV (.string s) (.string t)
  | int (k : IntKind) (a b : Int) : LikeV (.int k a) (.int k b)
  | bool (a b : Bool) : LikeV (.bool a) (.bool b)
theorem LikeV.trans {a b c : Value} (h : LikeV a b) (g : LikeV b c) : LikeV a c := by
  cases h <;> cases g <;> constructor
theorem LikeV.sl {A : Option Addr} {n c : Nat} {u : Value} (h : LikeV (.slice A n c) u) : u = .slice A n c := by cases h; rfl
theorem LikeV.st {s : ByteArray} {u : Value} (h : LikeV (.string s) u) : ∃ t, u = .string t := by cases h <;> exact ⟨_, rfl⟩
theorem LikeV.it {k : IntKind} {a : Int} {u : Value} (h : LikeV (.int k a) u) : ∃ b, u = .int k b := by cases h <;> exact ⟨_, rfl⟩
theorem LikeV.bl {a : Bool} {u : Value} (h : LikeV (.bool a) u) : ∃ b, u = .bool b := by cases h <;> exact ⟨_, rfl⟩
def LikeA (c c' : Array Value) : Prop := c'.size = c.size ∧ ∀ (j : Nat) (u : Value), c[j]? = some u → ∃ u', c'[j]? = some u' ∧ LikeV u u'
/-- What marks leave: no block goes; a block that P doesn't name is as it was; every block's cells are like what they were. -/
structure LK (w w' : World) (P : Nat → Prop) : Prop where
  size : w.heap.size ≤ w'.heap.size
  far : ∀ i, i < w.heap.size → ¬ P i → w'.heap[i]? = w.heap[i]?
  near : ∀ (i : Nat) (cells : Array Value) (q : TypeId) (f : Nat × Nat), w.heap[i]? = some (.cells cells q f) → ∃ cells', w'.heap[i]? = some (.cells cells' q f) ∧ LikeA cells cells'
theorem LikeA.refl (c : Array Value) : LikeA c c := ⟨rfl, fun _ u h => ⟨u, h, .same u⟩⟩
theorem LikeA.trans {a b c : Array Value} (h : LikeA a b) (g : LikeA b c) : LikeA a c := by
  refine ⟨g.1.trans h.1, fun j u hu => ?_⟩
  obtain ⟨v, hv, l1⟩ := h.2 j u hu
  obtain ⟨x, hx, l2⟩ := g.2 j v hv
  exact ⟨x, hx, l1.trans l2⟩
theorem lk_blk {w : World} {i : Nat} {o : Obj} (h : w.heap[i]? = some o) : i < w.heap.size := (Array.getElem?_eq_some_iff.1 h).1
theorem LK.below {w w' : World} (P : Nat → Prop) (h : Below w.heap.size w w') : LK w w' P :=
  ⟨h.size, fun i hi _ => h.block i hi, fun i cells q f hc => ⟨cells, (h.block i (lk_blk hc)).trans hc, .refl _⟩⟩
theorem LK.refl (w : World) (P : Nat → Prop) : LK w w P := LK.below P (Below.refl _ _)
theorem LK.trans {a b c : World} {P : Nat → Prop} (h : LK a b P) (g : LK b c P) : LK a c P := by
  refine ⟨Nat.le_trans h.size g.size, fun i hi hp => (g.far i (Nat.lt_of_lt_of_le hi h.size) hp).trans (h.far i hi hp), fun i cells q f hc => ?_⟩
  obtain ⟨c1, h1, l1⟩ := h.near i cells q f hc
  obtain ⟨c2, h2, l2⟩ := g.near i c1 q f h1
  exact ⟨c2, h2, l1.trans l2⟩
theorem LK.mono {a b : World} {P Q : Nat → Prop} (h : LK a b P) (hPQ : ∀ k, P k → Q k) : LK a b Q := ⟨h.size, fun i hi hq => h.far i hi (fun hp => hq (hPQ i hp)), h.near⟩
theorem LK.set {a b : World} {P : Nat → Prop} (h : LK a b P) {p : Addr} {u v : Value} (hc : b.cell? p = some u) (hl : LikeV u v) (hp : P p.block) : LK a (b.setCell p v) P := by
  refine h.trans ⟨by simp [World.setCell], fun i _ hi => Below.heap_setCell b p v i (fun e => hi (e ▸ hp)), fun i cells q f hb => ?_⟩
  by_cases hi : i = p.block
  · subst hi
    have hs : p.spot.isSome = false := by
      unfold World.cell? at hc
      rw [hb] at hc
      cases hsp : p.spot.isSome with
      | false => rfl
      | true => simp [hsp] at hc
    have hu : cells[p.off]? = some u := by
      unfold World.cell? at hc
      rw [hb] at hc
      simpa [hs] using hc
    refine ⟨cells.setIfInBounds p.off v, ?_, by simp, fun j x hx => ?_⟩
    · simp only [World.setCell, Array.getElem?_modify, if_true, hb, Option.map_some, hs, Bool.false_eq_true, if_false]
    · by_cases hj : p.off = j
      · subst hj
        have hlt := (Array.getElem?_eq_some_iff.1 hu).1
        rw [hu] at hx
        injection hx with hx
        subst hx
        exact ⟨v, by rw [Array.getElem?_setIfInBounds]; simp [hlt], hl⟩
      · exact ⟨x, by rw [Array.getElem?_setIfInBounds, if_neg hj]; exact hx, .same x⟩
  · exact ⟨cells, (Below.heap_setCell b p v i hi).trans hb, .refl _⟩
theorem LK.cell {a b : World} {P : Nat → Prop} (h : LK a b P) {p : Addr} {u : Value} (hc : a.cell? p = some u) : ∃ u', b.cell? p = some u' ∧ LikeV u u' := by
  unfold World.cell? at hc ⊢
  cases hb : a.heap[p.block]? with
  | none => rw [hb] at hc; cases hc
  | some o =>
    rw [hb] at hc
    cases o with
    | cells c q f =>
      obtain ⟨c', h1, h2⟩ := h.near _ _ _ _ hb
      rw [h1]
      simp only at hc ⊢
      split at hc
      · cases hc
      · rename_i hs
        rw [if_neg hs]
        exact h2.2 _ _ hc
    | _ => cases hc
theorem LK.frozen {a b : World} {P : Nat → Prop} (h : LK a b P) {p : Addr} {u : Value} (hc : a.cell? p = some u) (hf : a.frozen? p = false) : b.frozen? p = false := by
  unfold World.cell? at hc
  unfold World.frozen? at hf ⊢
  cases hb : a.heap[p.block]? with
  | none => rw [hb] at hc; cases hc
  | some o =>
    rw [hb] at hc
    cases o with
    | cells c q f =>
      obtain ⟨c', h1, h2⟩ := h.near _ _ _ _ hb
      rw [h1]; rw [hb] at hf; exact hf
    | _ => cases hc
theorem LK.slice {a b : World} {P : Nat → Prop} (h : LK a b P) {p : Addr} {A : Option Addr} {n c : Nat} (hc : a.cell? p = some (.slice A n c)) : b.cell? p = some (.slice A n c) := by
  obtain ⟨u, hu, hl⟩ := h.cell hc
  rw [hu, hl.sl]
theorem LK.kept {a b : World} {P : Nat → Prop} (h : LK a b P) : Kept a b P := ⟨h.size, fun i hi hp => h.far i hi hp⟩
/-- What is of types. -/
def TyIn (w : World) (ts : List Nat) (k : Nat) : Prop := ∃ q, q ∈ ts ∧ ∃ cells, w.heap[k]? = some (.cells cells q (0, 0))
theorem R_keptTy {α : Type} {d : Kd α} {e : Nat} {w w1 : World} {base : Nat} {ok P : Nat → Prop} {v : Value} {xs : List α} {ts : List Nat} (h : d.R e w base ok v xs) (hk : Kept w w1 (fun k => P k ∧ TyIn w ts k)) (hd : ∀ q, q ∈ e :: d.E → q ∉ ts) : d.R e w1 base ok v xs := by
  refine Kd.R_mono (Kd.R_move (Kd.R_bound h) (fun k hb => hk.2 k hb.2.2.1 ?_)) (fun _ hk => hk.1)
  rintro ⟨_, q, hq, cells, hc⟩
  obtain ⟨_, _, _, q', hq', cells', hc'⟩ := hb
  rw [hc] at hc'
  injection hc' with hc'
  injection hc' with _ hc'
  exact hd q' hq' (hc' ▸ hq)
end Go.Proofs.Ytnccklajpmpfdaa
