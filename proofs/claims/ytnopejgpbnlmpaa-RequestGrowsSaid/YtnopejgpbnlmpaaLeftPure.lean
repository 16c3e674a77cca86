/- RequestLeft's plain law: what is left, what may be taken. -/
import Derived.Test.YtnopejgpbnlmpaaAwake
set_option linter.unusedVariables false
set_option linter.unusedSimpArgs false
namespace Go.Proofs.Ytnopejgpbnlmpaa.Req
open Go Go.X Go.RowKit

theorem mem_leftsTo {xs : List R} {n : Nat} {i : Int} : i ∈ leftsTo xs n ↔ 0 ≤ i ∧ i < n ∧ (xs.getD i.toNat R.zero).gone = false := by
  unfold leftsTo
  rw [List.mem_map]
  constructor
  · rintro ⟨j, hj, rfl⟩
    rw [List.mem_filter, List.mem_range] at hj
    refine ⟨by omega, by omega, ?_⟩
    simpa using hj.2
  · rintro ⟨h0, h1, h2⟩
    refine ⟨i.toNat, ?_, by omega⟩
    rw [List.mem_filter, List.mem_range]
    exact ⟨by omega, by simpa using h2⟩
theorem mem_lefts {xs : List R} {i : Int} : i ∈ lefts xs ↔ inR xs i = true ∧ (rAt xs i).gone = false := by
  unfold lefts rAt
  rw [mem_leftsTo]
  simp [inR, and_assoc]
/-- All were complete when they were added. -/
def Whole (xs : List R) : Prop := ∀ r ∈ xs, r.done = true
theorem okAt_left (xs : List R) (l : List Int) (n : Nat) : okAt xs l n = (decide (l.getD n 0 ∈ lefts xs) && !decide (l.getD n 0 ∈ l.take n)) := by
  unfold okAt
  congr 1
  rw [Bool.eq_iff_iff]
  simp [mem_lefts]
theorem mayOf_left (xs : List R) (l : List Int) : mayOf xs l = allOf (lefts xs) l := by
  unfold mayOf mayTo allOf allTo
  rw [Bool.and_comm]
  congr 1
  congr 1
  funext j
  exact okAt_left xs l j
theorem rAt_mem {xs : List R} {i : Int} (h : inR xs i = true) : rAt xs i ∈ xs := by
  have h' : 0 ≤ i ∧ i < xs.length := by simpa [inR] using h
  exact List.mem_of_getElem? (rAt_get h'.1 h'.2)
theorem places_all {g : Int → Bool} {xs : List Int} (h : ∀ x ∈ xs, g x = true) : (places g xs).length = xs.length := by
  unfold places placesTo
  rw [List.length_map]
  have : (List.range xs.length).filter (fun j => g (xs.getD j 0)) = List.range xs.length := by
    rw [List.filter_eq_self]
    intro j hj
    rw [List.mem_range] at hj
    apply h
    rw [List.getD_eq_getElem?_getD, List.getElem?_eq_getElem hj]
    exact List.getElem_mem hj
  rw [this, List.length_range]
theorem may_mem {xs : List R} {l : List Int} (h : mayOf xs l = true) : ∀ x ∈ l, x ∈ lefts xs := by
  intro x hx
  obtain ⟨n, hn, rfl⟩ := List.mem_iff_getElem.1 hx
  have h1 := mayTo_le (n := n + 1) (m := l.length - (n + 1)) (by rw [show n + 1 + (l.length - (n + 1)) = l.length by omega]; exact h)
  rw [mayTo_succ, Bool.and_eq_true, okAt_left, Bool.and_eq_true] at h1
  have h2 := h1.2.1
  rw [List.getD_eq_getElem?_getD, List.getElem?_eq_getElem hn] at h2
  simpa using h2
theorem take_left {xs : List R} (hw : Whole xs) (l : List Int) : takeOk xs l = (decide (0 < xs.length) && allOf (lefts xs) l) := by
  unfold takeOk
  rw [← mayOf_left]
  cases h : mayOf xs l with
  | false => simp
  | true =>
    have hm := may_mem h
    have hp : (places (gT xs) l).length = l.length := places_all fun x hx => by
      have := mem_lefts.1 (hm x hx)
      unfold gT
      rw [this.1, this.2, hw _ (rAt_mem this.1)]
      rfl
    rw [hp]
    have hl : 0 < xs.length := by
      have h1 : lenOk l = true := by
        unfold mayOf mayTo at h
        exact (Bool.and_eq_true _ _ ▸ h).1
      have : 0 < l.length := by simp [lenOk] at h1; omega
      have hx := hm (l[0]) (List.getElem_mem this)
      have := (mem_lefts.1 hx).1
      simp [inR] at this
      omega
    simp [hl]
theorem rAt_gone {xs : List R} {i j : Int} (h0 : 0 ≤ i) (h1 : i < xs.length) (hj : 0 ≤ j) : rAt (goneAt xs i) j = if j = i then goneR (rAt xs i) else rAt xs j := by
  unfold goneAt
  by_cases h : j = i
  · subst h
    rw [if_pos rfl]
    unfold rAt
    rw [List.getD_eq_getElem?_getD, List.getElem?_set_self (by omega)]
    rfl
  · rw [if_neg h]
    unfold rAt
    rw [List.getD_eq_getElem?_getD, List.getElem?_set_ne (by omega), ← List.getD_eq_getElem?_getD]
theorem lefts_goneAt {xs : List R} {i : Int} (h0 : 0 ≤ i) (h1 : i < xs.length) : lefts (goneAt xs i) = (lefts xs).filter fun j => !decide (j = i) := by
  unfold lefts leftsTo
  rw [goneAt_len, List.filter_map, List.filter_filter]
  congr 1
  apply List.filter_congr
  intro j hj
  have := rAt_gone (j := (j : Int)) h0 h1 (by omega)
  unfold rAt at this
  simp only [Int.toNat_natCast] at this
  rw [this]
  simp only [Function.comp]
  by_cases h : (j : Int) = i
  · rw [if_pos h]; simp [h, goneR]
  · rw [if_neg h]; simp [h]
theorem lefts_goneTo {xs : List R} (l : List Int) (hin : ∀ x ∈ l, inR xs x = true) : lefts (l.foldl goneAt xs) = (lefts xs).filter fun j => !decide (j ∈ l) := by
  induction l generalizing xs with
  | nil => rw [List.foldl_nil, List.filter_eq_self.2 (by simp)]
  | cons a l ih =>
    have ha : 0 ≤ a ∧ a < xs.length := by simpa [inR] using hin a List.mem_cons_self
    rw [List.foldl_cons, ih (fun x hx => by
      have := hin x (List.mem_cons_of_mem _ hx)
      unfold inR at *
      rw [goneAt_len]
      exact this), lefts_goneAt ha.1 ha.2, List.filter_filter]
    apply List.filter_congr
    intro j _
    simp only [List.mem_cons]
    by_cases h1 : j = a <;> by_cases h2 : j ∈ l <;> simp [h1, h2]
theorem whole_gone {xs : List R} (l : List Int) (hin : ∀ x ∈ l, inR xs x = true) (hw : Whole xs) : Whole (l.foldl goneAt xs) := by
  induction l generalizing xs with
  | nil => exact hw
  | cons a l ih =>
    rw [List.foldl_cons]
    refine ih (fun x hx => by
      have := hin x (List.mem_cons_of_mem _ hx)
      unfold inR at *
      rw [goneAt_len]
      exact this) ?_
    intro r hr
    unfold goneAt at hr
    rcases List.mem_or_eq_of_mem_set hr with h | h
    · exact hw r h
    · rw [h]
      exact hw (rAt xs a) (rAt_mem (hin a List.mem_cons_self))
theorem lefts_add (xs : List R) (a : Bool) (h : xs.length ≠ 256) : lefts (addOf xs a true) = lefts xs ++ [(xs.length : Int)] := by
  unfold addOf
  rw [if_neg h]
  unfold lefts
  rw [List.length_append, List.length_singleton, leftsTo_succ (r := ⟨a, true, false, 0, 0, 0⟩) (by simp)]
  simp only [Bool.false_eq_true, if_false]
  congr 1
  unfold leftsTo
  congr 1
  apply List.filter_congr
  intro j hj
  rw [List.mem_range] at hj
  rw [List.getD_eq_getElem?_getD, List.getElem?_append_left hj, ← List.getD_eq_getElem?_getD]
theorem whole_add {xs : List R} (hw : Whole xs) (a : Bool) : Whole (addOf xs a true) := by
  unfold addOf
  split
  · exact hw
  · intro r hr
    rcases List.mem_append.1 hr with h | h
    · exact hw r h
    · simp at h; rw [h]
theorem may_one (xs : List R) (k : Int) : mayOf xs [k] = decide (k ∈ lefts xs) := by
  rw [mayOf_left]
  simp [allOf, allTo, lenOk]
theorem may_two (xs : List R) (k : Int) : mayOf xs [k, k] = false := by
  rw [mayOf_left]
  simp [allOf, allTo, lenOk, List.range_succ]
end Go.Proofs.Ytnopejgpbnlmpaa.Req
