/- Plain lemmas, with no program in sight: the bytes of a string as whole numbers; rounds of a loop. -/
import Derived.Test.YtnccklajpmpfdaaWMore
namespace Go.Proofs.Ytnccklajpmpfdaa.Base
open Go.RowKit Go.Proofs.YtnccklajpmpfdaaW.PrintWords

theorem w64 {x : Int} (h : -9223372036854775808 ≤ x) (h' : x ≤ 9223372036854775807) : wrap64 x = x := by unfold wrap64; omega

/-! ### bytes -/
def bts (s : ByteArray) : List Int := s.data.toList.map fun c => (c.toNat : Int)
theorem szd (s : ByteArray) : s.data.toList.length = s.size := by rw [Array.length_toList]; rfl
theorem bts_length (s : ByteArray) : (bts s).length = s.size := by rw [bts, List.length_map, szd]
theorem bts_byte {s : ByteArray} {x : Int} (h : x ∈ bts s) : 0 ≤ x ∧ x ≤ 255 := by
  unfold bts at h
  obtain ⟨c, _, rfl⟩ := List.mem_map.1 h
  have := c.toNat_lt
  omega
theorem bt_eq (s : ByteArray) (i : Int) : bt s i = (bts s).getD i.toNat 0 := by
  unfold bt bts
  split
  · rename_i h
    rw [List.getD_eq_getElem?_getD, List.getElem?_map, List.getElem?_eq_getElem (by rw [szd]; exact h)]
    rfl
  · rename_i h
    rw [List.getD_eq_getElem?_getD, List.getElem?_eq_none (by rw [List.length_map, szd]; omega)]
    rfl
theorem bytes_ext {a b : ByteArray} (h : a.data.toList = b.data.toList) : a = b := by
  cases a; cases b; simp at h; rw [h]
theorem bts_inj {a b : ByteArray} (h : bts a = bts b) : a = b := by
  apply bytes_ext
  unfold bts at h
  have h2 := congrArg (List.map fun (x : Int) => UInt8.ofNat x.toNat) h
  rw [List.map_map, List.map_map] at h2
  have e : ((fun (x : Int) => UInt8.ofNat x.toNat) ∘ fun (c : UInt8) => (c.toNat : Int)) = id := by
    funext c
    simp
  rw [e] at h2
  simpa using h2
theorem bts_str {xs : List Int} (h : ∀ x ∈ xs, 0 ≤ x ∧ x ≤ 255) : bts (strOfNums xs) = xs := by
  unfold bts strOfNums
  simp only [List.map_map]
  conv => rhs; rw [← List.map_id xs]
  refine List.map_congr_left fun x hx => ?_
  have := h x hx
  simp only [Function.comp_apply, UInt8.toNat_ofNat', id_eq]
  omega
theorem str_bts (s : ByteArray) : strOfNums (bts s) = s := bts_inj (bts_str fun _ hx => bts_byte hx)
theorem bts_nil : bts ⟨#[]⟩ = [] := rfl
theorem bts_eq_nil {s : ByteArray} : bts s = [] ↔ s.size = 0 := by rw [← List.length_eq_zero_iff, bts_length]
theorem toList_data (s : ByteArray) : s.toList = s.data.toList := by
  have go : ∀ (n i : Nat) (r : List UInt8), s.size - i = n → ByteArray.toList.loop s i r = r.reverse ++ s.data.toList.drop i := by
    intro n
    induction n with
    | zero =>
      intro i r h
      unfold ByteArray.toList.loop
      rw [if_neg (by omega), List.drop_eq_nil_of_le (by rw [szd]; omega), List.append_nil]
    | succ n ih =>
      intro i r h
      unfold ByteArray.toList.loop
      rw [if_pos (by omega), ih _ _ (by omega)]
      have hl : i < s.data.toList.length := by rw [szd]; omega
      have hl' : i < s.data.size := by rw [Array.length_toList] at hl; exact hl
      rw [List.drop_eq_getElem_cons hl, List.reverse_cons, List.append_assoc, List.singleton_append]
      congr 2
      show s.data[i]! = _
      rw [Array.getElem_toList, getElem!_pos s.data i hl']
  have := go s.size 0 [] (by omega)
  rw [List.reverse_nil, List.nil_append, List.drop_zero] at this
  exact this
theorem toList_nil {s : ByteArray} : s.toList = ([] : List UInt8) ↔ s.size = 0 := by
  rw [toList_data, ← List.length_eq_zero_iff, szd]
theorem toList_eq {a b : ByteArray} : a.toList = b.toList ↔ a = b := by
  rw [toList_data, toList_data]
  exact ⟨bytes_ext, fun h => by rw [h]⟩
theorem bts_extract (s : ByteArray) (i j : Nat) : bts (s.extract i j) = ((bts s).take j).drop i := by
  unfold bts
  rw [ByteArray.data_extract, Array.toList_extract, List.extract_eq_take_drop, List.map_take, List.map_drop, List.drop_take]
theorem size_str (xs : List Int) : (strOfNums xs).size = xs.length := by rw [← szd]; simp [strOfNums]

theorem getD_at {α : Type} {xs ys : List α} {x z : α} : (xs ++ x :: ys).getD xs.length z = x := by simp
theorem drop_cons {α : Type} {xs : List α} {i : Nat} {z : α} (h : i < xs.length) : xs.drop i = xs.getD i z :: xs.drop (i + 1) := by
  rw [List.drop_eq_getElem_cons h, List.getD_eq_getElem?_getD, List.getElem?_eq_getElem h]; rfl

/-! ### rounds -/
theorem ev_const {α : Type} {o : Option α} {r : α} (h : o = some r) : Ev (fun _ => o) r := ⟨0, fun _ _ => h⟩
theorem ev_ite {α : Type} {c : Prop} [Decidable c] {g f : Nat → Option α} {r : α} (h : c → Ev g r) (h' : ¬ c → Ev f r) : Ev (fun k => if c then g k else f k) r := by
  by_cases hc : c
  · simp only [if_pos hc]; exact h hc
  · simp only [if_neg hc]; exact h' hc
theorem ev_pos {α : Type} {c : Prop} [Decidable c] {g f : Nat → Option α} {r : α} (hc : c) (h : Ev g r) : Ev (fun k => if c then g k else f k) r := by
  simp only [if_pos hc]; exact h
theorem ev_neg {α : Type} {c : Prop} [Decidable c] {g f : Nat → Option α} {r : α} (hc : ¬ c) (h : Ev f r) : Ev (fun k => if c then g k else f k) r := by
  simp only [if_neg hc]; exact h
theorem ev_bind {α β : Type} {g : Nat → Option α} {f : Nat → α → Option β} (a : α) {r : β} (h : Ev g a) (k : Ev (fun n => f n a) r) : Ev (fun n => (g n).bind (f n)) r := Ev.bind h k
/-- A bind whose first part has no rounds. -/
theorem ev_let {α β : Type} {o : Option α} {f : Nat → α → Option β} (a : α) {r : β} (h : o = some a) (k : Ev (fun n => f n a) r) : Ev (fun n => o.bind (f n)) r := by
  subst h
  simpa only [Option.bind_some] using k
end Go.Proofs.Ytnccklajpmpfdaa.Base
namespace Go.Proofs.Ytnccklajpmpfdaa.Base
open Go.RowKit Go.Proofs.YtnccklajpmpfdaaW.PrintWords
/-! ### what an argument's size leaves of a number -/
/-- From some number of rounds on g answers: below 0, or what is left of 'left' behind m. -/
def SzOk (g : Nat → Option Int) (left : Int) (m : Nat) : Prop := ∃ r, Ev g r ∧ (r < 0 ∨ ((m : Int) ≤ left ∧ r = left - m))
theorem sz_ret (left : Int) (h : 0 ≤ left) : SzOk (fun _ => some left) left 0 := ⟨left, ev_const rfl, .inr ⟨by omega, by omega⟩⟩
theorem sz_len {g : Nat → Option Int} {left : Int} {n m : Nat} (h : 0 ≤ left - (n : Int) → SzOk g (left - n) m) : SzOk (fun k => if left - (n : Int) < 0 then some (-1) else g k) left (n + m) := by
  by_cases hc : left - (n : Int) < 0
  · exact ⟨-1, ev_pos hc (ev_const rfl), .inl (by omega)⟩
  · obtain ⟨r, h1, h2⟩ := h (by omega)
    refine ⟨r, ev_neg hc h1, ?_⟩
    rcases h2 with h2 | ⟨h2, h3⟩
    · exact .inl h2
    · exact .inr ⟨by omega, by omega⟩
theorem sz_call {g : Nat → Option Int} {f : Nat → Int → Option Int} {left : Int} {n m : Nat} (hg : SzOk g left n) (h : ∀ c, 0 ≤ c → c = left - (n : Int) → SzOk (fun k => f k c) c m) : SzOk (fun k => (g k).bind fun t => if t < 0 then some (-1) else f k t) left (n + m) := by
  obtain ⟨r, h1, h2⟩ := hg
  by_cases hc : r < 0
  · exact ⟨-1, ev_bind r h1 (ev_pos hc (ev_const rfl)), .inl (by omega)⟩
  · rcases h2 with h2 | ⟨h2, h3⟩
    · omega
    · obtain ⟨r', h4, h5⟩ := h r (by omega) h3
      refine ⟨r', ev_bind r h1 (ev_neg hc h4), ?_⟩
      rcases h5 with h5 | ⟨h5, h6⟩
      · exact .inl h5
      · exact .inr ⟨by omega, by omega⟩
theorem sz_step {g f : Nat → Option Int} {left : Int} {m : Nat} (h : ∀ k, g (k + 1) = f k) (hf : SzOk f left m) : SzOk g left m := by
  obtain ⟨r, h1, h2⟩ := hf
  exact ⟨r, Ev.step h h1, h2⟩
theorem sz_pos {c : Prop} [Decidable c] {g f : Nat → Option Int} {left : Int} {m : Nat} (hc : c) (h : SzOk g left m) : SzOk (fun k => if c then g k else f k) left m := by
  simp only [if_pos hc]; exact h
theorem sz_neg {c : Prop} [Decidable c] {g f : Nat → Option Int} {left : Int} {m : Nat} (hc : ¬ c) (h : SzOk f left m) : SzOk (fun k => if c then g k else f k) left m := by
  simp only [if_neg hc]; exact h
/-- The law's own look at it: it answers true where the argument is too large. -/
theorem sz_guard {g : Nat → Option Int} {f : Nat → Int → Option Bool} {left : Int} {n : Nat} (hg : SzOk g left n) (h : ∀ c, 0 ≤ c → c = left - (n : Int) → Ev (fun k => f k c) true) : Ev (fun k => (g k).bind fun t => if t < 0 then some true else f k t) true := by
  obtain ⟨r, h1, h2⟩ := hg
  by_cases hc : r < 0
  · exact ev_bind r h1 (ev_pos hc (ev_const rfl))
  · rcases h2 with h2 | ⟨h2, h3⟩
    · omega
    · exact ev_bind r h1 (ev_neg hc (h r (by omega) h3))
theorem at_pre {α : Type} (pre suf : List α) (x z : α) : (pre ++ x :: suf).getD ((pre.length : Int)).toNat z = x := by simp
theorem set_pre {α : Type} (pre suf : List α) (x y : α) : (pre ++ x :: suf).set ((pre.length : Int)).toNat y = (pre ++ [y]) ++ suf := by simp
theorem next_pre {α : Type} (pre : List α) (x : α) (h : (pre.length : Int) < 9223372036854775807) : wrap64 ((pre.length : Int) + 1) = ((pre ++ [x]).length : Int) := by
  rw [w64 (by omega) (by omega)]; simp
end Go.Proofs.Ytnccklajpmpfdaa.Base
