/- What an argument reads as: out of a reading by the model's own words ('DataW.trod') come the kinds of the printed contracts. No program in sight. -/
import Derived.Test.YtnccklajpmpfdaaWMore
import Derived.ChangeReads
import Derived.WideShapes
import Derived.ChangeArms
namespace Go.Proofs.Ytnccklajpmpfdaa.Opn
open Go.RowKit Go.Proofs.YtnccklajpmpfdaaW.PrintWords

theorem mapM_cons_some {α β : Type} {f : α → Option β} {a : α} {l : List α} {ys : List β} (h : (a :: l).mapM f = some ys) : ∃ b bs, f a = some b ∧ l.mapM f = some bs ∧ ys = b :: bs := by
  rw [List.mapM_cons] at h
  simp only [Option.bind_eq_bind, Option.bind_eq_some_iff, Option.pure_def, Option.some.injEq] at h
  obtain ⟨b, hb, bs, hbs, e⟩ := h
  exact ⟨b, bs, hb, hbs, e.symm⟩
theorem mapM_get {α β : Type} {f : α → Option β} : ∀ {l : List α} {ys : List β}, l.mapM f = some ys → ys.length = l.length ∧ ∀ (i : Nat) (x : α), l[i]? = some x → ∃ y, ys[i]? = some y ∧ f x = some y
  | [], ys, h => by
    simp only [List.mapM_nil, Option.pure_def, Option.some.injEq] at h
    subst h
    exact ⟨rfl, fun i x hx => by simp at hx⟩
  | a :: l, ys, h => by
    obtain ⟨b, bs, hb, hbs, rfl⟩ := mapM_cons_some h
    obtain ⟨h1, h2⟩ := mapM_get hbs
    refine ⟨by simp [h1], fun i x hx => ?_⟩
    cases i with
    | zero =>
      simp only [List.getElem?_cons_zero, Option.some.injEq] at hx
      subst hx
      exact ⟨b, rfl, hb⟩
    | succ i =>
      simp only [List.getElem?_cons_succ] at hx ⊢
      exact h2 i x hx
/-- Out of a list of witnesses, one by one. -/
theorem choose_list {α β : Type} {R : α → β → Prop} : ∀ (ys : List β), (∀ y ∈ ys, ∃ x, R x y) → ∃ xs : List α, xs.length = ys.length ∧ ∀ (i : Nat) (x : α), xs[i]? = some x → ∃ y, ys[i]? = some y ∧ R x y
  | [], _ => ⟨[], rfl, fun i x hx => by simp at hx⟩
  | y :: ys, h => by
    obtain ⟨x, hx⟩ := h y List.mem_cons_self
    obtain ⟨xs, h1, h2⟩ := choose_list ys (fun z hz => h z (List.mem_cons_of_mem _ hz))
    refine ⟨x :: xs, by simp [h1], fun i z hz => ?_⟩
    cases i with
    | zero =>
      simp only [List.getElem?_cons_zero, Option.some.injEq] at hz
      subst hz
      exact ⟨y, rfl, hx⟩
    | succ i =>
      simp only [List.getElem?_cons_succ] at hz ⊢
      exact h2 i z hz

section
variable {H : Type} {enc : TypeId × Value → H} {P : Program} {W : World} {N : Nat} {t e : TypeId}
/-- What reads as data of type t in at most N steps is of kind d, and good. -/
def Opens (enc : TypeId × Value → H) (P : Program) (W : World) (N : Nat) (t : TypeId) {α : Type} (d : Kd α) (good : α → Prop) : Prop :=
  ∀ fuel cs x, fuel ≤ N → DataW.trod enc P W 0 (fun _ => true) true fuel t cs = some x → ∃ a, d.K W a cs ∧ good a
theorem Opens.le {α : Type} {d : Kd α} {good : α → Prop} {N' : Nat} (h : Opens enc P W N' t d good) (hN : N ≤ N') : Opens enc P W N t d good := fun fuel cs x hf => h fuel cs x (Nat.le_trans hf hN)
theorem opens_int {k : IntKind} (ht : P.underlying t = some (.int k)) : Opens enc P W N t (Kd.int k) (fun n => (Lit.int k n).wf = true) := by
  intro fuel cs x _ h
  obtain ⟨n, rfl, _, hw⟩ := DataW.trod_int ht h
  exact ⟨n, rfl, hw⟩
theorem opens_bool (ht : P.underlying t = some .bool) : Opens enc P W N t Kd.bool (fun _ => True) := by
  intro fuel cs x _ h
  obtain ⟨b, rfl, _⟩ := DataW.trod_bool ht h
  exact ⟨b, rfl, trivial⟩
theorem opens_string (ht : P.underlying t = some .string) : Opens enc P W N t Kd.string (fun s => s.size ≤ maxLen) := by
  intro fuel cs x _ h
  obtain ⟨s, rfl, _, hs⟩ := DataW.trod_string ht h
  exact ⟨s, rfl, hs⟩
theorem cells_get {a : Addr} {n : Nat} {cs : List Value} (h : W.cells? 0 a n = some cs) : cs.length = n ∧ ∀ (i : Nat) (u : Value), cs[i]? = some u → W.cell? (a.add i) = some u := by
  unfold World.cells? at h
  rw [if_pos (Nat.zero_le _)] at h
  obtain ⟨h1, h2⟩ := mapM_get h
  rw [List.length_range] at h1
  refine ⟨h1, fun i u hu => ?_⟩
  have hi : i < n := by
    have := (List.getElem?_eq_some_iff.1 hu).1
    omega
  obtain ⟨y, hy, hc⟩ := h2 i i (by simp [hi])
  rw [hu, Option.some.injEq] at hy
  subst hy
  exact hc
theorem opens_slice {α : Type} {d : Kd α} {good : α → Prop} (ht : P.underlying t = some (.slice e)) (hs : P.cellsOf e = d.sz) (h : Opens enc P W N e d good) : Opens enc P W N t (Kd.slice e d) (fun l => l.length ≤ maxLen ∧ ∀ x ∈ l, good x) := by
  intro fuel cs x hf hx
  rcases DataW.trod_slice ht hx with ⟨rfl, _⟩ | ⟨a, len, cap, elems, rest, n, rfl, rfl, _, _, hl, hc, he, hel, _⟩
  · exact ⟨[], ⟨none, 0, rfl, Nat.zero_le _, rfl, Nat.zero_le _, fun h0 => absurd h0 (by simp)⟩, Nat.zero_le _, fun x hx => by cases hx⟩
  · have hc' := hc
    simp only [maxLen] at hc'
    have each : ∀ i ∈ List.range len, ∃ y : α, (∃ c : List Value, c.length = d.sz ∧ d.K W y c ∧ ∀ j u, c[j]? = some u → W.cell? (a.add (i * d.sz + j)) = some u) ∧ good y := by
      intro i hi
      have hi : i < len := List.mem_range.1 hi
      have h1 := hel i hi
      rw [List.getElem?_eq_getElem (by omega), Option.bind_eq_some_iff] at h1
      obtain ⟨c, hc1, hc2⟩ := h1
      obtain ⟨hcl, hcc⟩ := cells_get hc1
      obtain ⟨y, hy, hg⟩ := h n c _ (by omega) hc2
      refine ⟨y, ⟨c, by rw [hcl, hs], hy, fun j u hu => ?_⟩, hg⟩
      have := hcc j u hu
      rw [hs] at this
      rwa [Addr.add_add] at this
    obtain ⟨xs, hl2, hxs⟩ := choose_list (R := fun y i => (∃ c : List Value, c.length = d.sz ∧ d.K W y c ∧ ∀ j u, c[j]? = some u → W.cell? (a.add (i * d.sz + j)) = some u) ∧ good y) (List.range len) each
    rw [List.length_range] at hl2
    have get : ∀ (i : Nat) (x : α), xs[i]? = some x → (∃ c : List Value, c.length = d.sz ∧ d.K W x c ∧ ∀ j u, c[j]? = some u → W.cell? (a.add (i * d.sz + j)) = some u) ∧ good x := by
      intro i x hx
      obtain ⟨y, hy, hr⟩ := hxs i x hx
      have hi : i < len := by
        have := (List.getElem?_eq_some_iff.1 hx).1
        omega
      rw [List.getElem?_range hi, Option.some.injEq] at hy
      subst hy
      exact hr
    refine ⟨xs, ⟨some a, cap, by rw [hl2], by omega, rfl, by omega, fun _ => ⟨a, rfl, fun j p hp => (get j p hp).1⟩⟩, Nat.le_trans (by omega) hc, fun x hx => ?_⟩
    obtain ⟨i, hi⟩ := List.mem_iff_getElem?.1 hx
    exact (get i x hi).2
/-- The same for fields of a struct, from a place on. -/
def OpensF (enc : TypeId × Value → H) (P : Program) (W : World) (N : Nat) (fs : List Field) (off : Nat) {α : Type} (d : Kd α) (good : α → Prop) : Prop :=
  ∀ fuel (cs : List Value), fuel ≤ N → cs.length = off + d.sz → (∀ f ∈ fs, ∃ y, DataW.trod enc P W 0 (fun _ => true) true fuel f.type ((cs.drop f.offset).take (P.cellsOf f.type)) = some y) → ∃ a, d.K W a (cs.drop off) ∧ good a
theorem opensF_one {α : Type} {d : Kd α} {good : α → Prop} {f : Field} {off : Nat} (ho : f.offset = off) (hs : P.cellsOf f.type = d.sz) (h : Opens enc P W N f.type d good) : OpensF enc P W N [f] off d good := by
  intro fuel cs hf hl hy
  obtain ⟨y, hy⟩ := hy f List.mem_cons_self
  obtain ⟨a, ha, hg⟩ := h fuel _ y hf hy
  rw [ho, hs, List.take_of_length_le (by rw [List.length_drop]; omega)] at ha
  exact ⟨a, ha, hg⟩
theorem opensF_cons {α β : Type} {d1 : Kd α} {d2 : Kd β} {g1 : α → Prop} {g2 : β → Prop} {f : Field} {fs : List Field} {off : Nat} (ho : f.offset = off) (hs : P.cellsOf f.type = d1.sz) (h : Opens enc P W N f.type d1 g1) (hr : OpensF enc P W N fs (off + d1.sz) d2 g2) :
    OpensF enc P W N (f :: fs) off (Kd.pair d1 d2) (fun p => g1 p.1 ∧ g2 p.2) := by
  intro fuel cs hf hl hy
  obtain ⟨y, hy1⟩ := hy f List.mem_cons_self
  obtain ⟨a, ha, hg⟩ := h fuel _ y hf hy1
  have hl' : cs.length = off + (d1.sz + d2.sz) := hl
  obtain ⟨b, hb, hg2⟩ := hr fuel cs hf (by omega) (fun f' hf' => hy f' (List.mem_cons_of_mem _ hf'))
  refine ⟨(a, b), ⟨(cs.drop off).take d1.sz, cs.drop (off + d1.sz), ?_, by rw [ho, hs] at ha; exact ha, hb⟩, hg, hg2⟩
  rw [← List.drop_drop]
  exact (List.take_append_drop _ _).symm
theorem opens_struct {α β : Type} {d : Kd α} {good : α → Prop} {fs : Array Field} {f : β → α} {good' : β → Prop} (ht : P.underlying t = some (.struct fs)) (hs : P.cellsOf t = d.sz) (g : α → β) (hg : ∀ a, f (g a) = a) (h : OpensF enc P W N fs.toList 0 d good) (hgood : ∀ a, good a → good' (g a)) :
    Opens enc P W (N + 1) t (Kd.iso d f) good' := by
  intro fuel cs x hf hx
  obtain ⟨xs, n, rfl, _, hl, hn, hi⟩ := DataW.trod_struct ht hx
  obtain ⟨a, ha, hga⟩ := h n cs (by omega) (by omega) (fun f' hf' => by
    obtain ⟨i, hi'⟩ := List.mem_iff_getElem?.1 hf'
    rw [Array.getElem?_toList] at hi'
    have := hi i f' hi'
    have hlt : i < xs.length := by
      have := (Array.getElem?_eq_some_iff.1 hi').1
      omega
    exact ⟨xs[i], by rw [this, List.getElem?_eq_getElem hlt]⟩)
  refine ⟨g a, ?_, hgood a hga⟩
  show d.K W (f (g a)) cs
  rw [hg]
  simpa using ha
theorem opens_fix {α : Type} {F : Kd α → Kd α} {sz : Nat} {E : List Nat} {hs : ∀ n, (Kd.upto F sz E n).sz = sz} {hE : ∀ n q, q ∈ (Kd.upto F sz E n).E → q ∈ E} {good : α → Prop}
    (h : ∀ (N : Nat) (d : Kd α), d.sz = sz → Opens enc P W N t d good → Opens enc P W (N + 1) t (F d) good) : Opens enc P W N t (Kd.fix F sz E hs hE) good := by
  have all : ∀ N, Opens enc P W N t (Kd.upto F sz E N) good := by
    intro N
    induction N with
    | zero =>
      intro fuel cs x hf hx
      obtain rfl : fuel = 0 := by omega
      simp [DataW.trod] at hx
    | succ N ih => exact h N _ (hs N) ih
  intro fuel cs x hf hx
  obtain ⟨a, ha, hg⟩ := all N fuel cs x hf hx
  exact ⟨a, ⟨N, ha⟩, hg⟩
/-- An argument. -/
theorem opens_arg {α : Type} {d : Kd α} {good : α → Prop} (h : ∀ N, Opens enc P W N t d good) {v : Value} {dt : DataW H} {ps : List MemPlace} (hr : DataW.Trod enc P W 0 (fun _ => true) true t v dt ps) : ∃ a, d.K W a v.cells.toList ∧ good a := by
  obtain ⟨fuel, hf⟩ := hr
  exact h fuel fuel _ _ (Nat.le_refl _) hf
end
end Go.Proofs.Ytnccklajpmpfdaa.Opn
