/- RequestGrows's plain law: complete ones stay so till they are taken. -/
import Derived.Test.YtnopejgpbnlmpaaAwake
set_option linter.unusedVariables false
set_option linter.unusedSimpArgs false
namespace Go.Proofs.Ytnopejgpbnlmpaa.Req
open Go Go.X Go.RowKit

theorem mem_places {g : Int → Bool} {xs : List Int} {n : Int} : n ∈ places g xs ↔ 0 ≤ n ∧ n < xs.length ∧ g (xs.getD n.toNat 0) = true := by
  unfold places placesTo
  rw [List.mem_map]
  constructor
  · rintro ⟨j, hj, rfl⟩
    rw [List.mem_filter, List.mem_range] at hj
    exact ⟨by omega, by omega, by simpa using hj.2⟩
  · rintro ⟨h0, h1, h2⟩
    refine ⟨n.toNat, ?_, by omega⟩
    rw [List.mem_filter, List.mem_range]
    exact ⟨by omega, h2⟩
theorem places_sub {g g' : Int → Bool} {xs : List Int} (h : ∀ x ∈ xs, g x = true → g' x = true) : ((places g xs).filter fun i => !decide (i ∈ places g' xs)) = [] := by
  rw [List.filter_eq_nil_iff]
  intro n hn
  obtain ⟨h0, h1, h2⟩ := mem_places.1 hn
  have : n ∈ places g' xs := mem_places.2 ⟨h0, h1, h _ (by
    have hlt : n.toNat < xs.length := by omega
    rw [List.getD_eq_getElem?_getD, List.getElem?_eq_getElem hlt]
    exact List.getElem_mem hlt) h2⟩
  simp [this]
theorem places_up (g : Int → Bool) (xs : List Int) : (places g xs).Pairwise (· < ·) := by
  unfold places placesTo
  rw [List.pairwise_map]
  refine List.Pairwise.imp (R := fun a b : Nat => a < b) (fun h => by omega) (List.Pairwise.filter _ List.pairwise_lt_range)
theorem places_nil (xs : List Int) : places (gT []) xs = [] := by
  unfold places placesTo
  rw [List.filter_eq_nil_iff.2]
  · rfl
  · intro j hj
    simp [gT, inR]
    omega
theorem gT_add {xs : List R} {x : Int} (a b : Bool) (h : gT xs x = true) : gT (addOf xs a b) x = true := by
  unfold addOf
  split
  · exact h
  · have hx : 0 ≤ x ∧ x < xs.length := by
      simp only [gT, inR, Bool.and_eq_true, decide_eq_true_eq] at h
      exact h.1.1
    have e : rAt (xs ++ [⟨a, b, false, 0, 0, 0⟩]) x = rAt xs x := by
      unfold rAt
      rw [List.getD_eq_getElem?_getD, List.getElem?_append_left (by omega), ← List.getD_eq_getElem?_getD]
    unfold gT inR at *
    rw [e]
    simp only [Bool.and_eq_true, decide_eq_true_eq] at h ⊢
    exact ⟨⟨⟨h.1.1.1, by simp; omega⟩, h.1.2⟩, h.2⟩
theorem gT_comp {xs : List R} {x : Int} (i a p t : Int) (h : gT xs x = true) : gT (compTab xs i a p t) x = true := by
  unfold compTab
  split
  · have hx : 0 ≤ x ∧ x < xs.length := by
      simp only [gT, inR, Bool.and_eq_true, decide_eq_true_eq] at h
      exact h.1.1
    rename_i hc
    have hin : 0 ≤ i ∧ i < xs.length := by
      unfold compRes at hc
      split at hc
      · rename_i hi; simpa [inR] using hi
      · cases hc
    unfold gT inR at *
    simp only [Bool.and_eq_true, decide_eq_true_eq, List.length_set] at h ⊢
    by_cases e : x = i
    · subst e
      have e : rAt (xs.set x.toNat (compR (rAt xs x) a p t)) x = compR (rAt xs x) a p t := by
        unfold rAt
        rw [List.getD_eq_getElem?_getD, List.getElem?_set_self (by omega)]
        rfl
      rw [e]
      exact ⟨⟨h.1.1, rfl⟩, h.2⟩
    · have e : rAt (xs.set i.toNat (compR (rAt xs i) a p t)) x = rAt xs x := by
        unfold rAt
        rw [List.getD_eq_getElem?_getD, List.getElem?_set_ne (by omega), ← List.getD_eq_getElem?_getD]
      rw [e]
      exact h
  · exact h
theorem rAt_gone_ne {xs : List R} {i j : Int} (h0 : 0 ≤ i) (hj : 0 ≤ j) (h : j ≠ i) : rAt (goneAt xs i) j = rAt xs j := by
  unfold goneAt rAt
  rw [List.getD_eq_getElem?_getD, List.getElem?_set_ne (by omega), ← List.getD_eq_getElem?_getD]
theorem gT_gone {xs : List R} {x : Int} (l : List Int) (hl : ∀ y ∈ l, 0 ≤ y) (hx : x ∉ l) (h : gT xs x = true) : gT (l.foldl goneAt xs) x = true := by
  induction l generalizing xs with
  | nil => exact h
  | cons a l ih =>
    rw [List.foldl_cons]
    refine ih (fun y hy => hl y (List.mem_cons_of_mem _ hy)) (fun q => hx (List.mem_cons_of_mem _ q)) ?_
    have h' := h
    simp only [gT, inR, Bool.and_eq_true, decide_eq_true_eq] at h'
    unfold gT inR at *
    rw [goneAt_len, rAt_gone_ne (hl a List.mem_cons_self) h'.1.1.1 (fun q => hx (q ▸ List.mem_cons_self))]
    exact h
theorem take_range {xs : List R} {l : List Int} (h : takeOk xs l = true) : ∀ y ∈ l, 0 ≤ y := by
  intro y hy
  unfold takeOk at h
  rw [Bool.and_eq_true] at h
  obtain ⟨n, hn, rfl⟩ := List.mem_iff_getElem.1 hy
  have h1 := mayTo_le (n := n + 1) (m := l.length - (n + 1)) (by rw [show n + 1 + (l.length - (n + 1)) = l.length by omega]; exact h.1)
  rw [mayTo_succ, Bool.and_eq_true] at h1
  have h2 := h1.2
  unfold okAt at h2
  rw [List.getD_eq_getElem?_getD, List.getElem?_eq_getElem hn] at h2
  simp only [inR, Bool.and_eq_true, decide_eq_true_eq, Option.getD_some] at h2
  exact h2.1.1.1
end Go.Proofs.Ytnopejgpbnlmpaa.Req
