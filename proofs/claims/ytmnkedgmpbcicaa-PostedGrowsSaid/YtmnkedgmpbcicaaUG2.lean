/- Several texts of this repo, one behind the other, without what is not used here. -/
import Derived.Maps.RangeRun
import Derived.Shelf.Sort.Plain
import Derived.Test.YtmnkedgmpbcicaaProg
import Derived.Shelf.Slices.In.SortNone
import Derived.Sort.OwnSortedInts
import Derived.Test.YtmnkedgmpbcicaaUG1
set_option linter.unusedVariables false
set_option linter.unusedSimpArgs false
set_option maxRecDepth 4000
namespace Go.X
open Go Go.RowKit
theorem bl_irr : ∀ a : List UInt8, Op.bytesLess a a = false
  | [] => rfl
  | a :: x => by simp [Op.bytesLess, bl_irr x]
theorem bl_tri : ∀ {a b : List UInt8}, Op.bytesLess a b = false → Op.bytesLess b a = false → a = b
  | [], [], _, _ => rfl
  | [], _ :: _, h, _ => by simp [Op.bytesLess] at h
  | _ :: _, [], _, h => by simp [Op.bytesLess] at h
  | a :: x, b :: y, h, k => by
    simp only [Op.bytesLess, Bool.or_eq_false_iff, decide_eq_false_iff_not, Bool.and_eq_false_iff] at h k
    have e : a = b := by
      apply UInt8.le_antisymm
      · exact UInt8.not_lt.1 k.1
      · exact UInt8.not_lt.1 h.1
    subst e
    simp at h k
    rw [bl_tri h k]
theorem bl_tr : ∀ {a b c : List UInt8}, Op.bytesLess a b = true → Op.bytesLess b c = true → Op.bytesLess a c = true
  | _, [], _, h, _ => by cases ‹List UInt8› <;> simp [Op.bytesLess] at h
  | _, _ :: _, [], _, h => by simp [Op.bytesLess] at h
  | [], _ :: _, _ :: _, _, _ => by simp [Op.bytesLess]
  | a :: x, b :: y, c :: z, h, k => by
    simp only [Op.bytesLess, Bool.or_eq_true, decide_eq_true_eq, Bool.and_eq_true, beq_iff_eq] at h k ⊢
    rcases h with h | ⟨rfl, h⟩ <;> rcases k with k | ⟨rfl, k⟩
    · exact .inl (UInt8.lt_trans h k)
    · exact .inl h
    · exact .inl k
    · exact .inr ⟨rfl, bl_tr h k⟩
def ltC (a b : Ch) : Bool := Op.bytesLess a.1 b.1 || (decide (a.1 = b.1) && (decide (a.2.1 < b.2.1) || (decide (a.2.1 = b.2.1) && decide (a.2.2 < b.2.2))))
theorem ltC_iff {a b : Ch} : ltC a b = true ↔ Op.bytesLess a.1 b.1 = true ∨ a.1 = b.1 ∧ (a.2.1 < b.2.1 ∨ a.2.1 = b.2.1 ∧ a.2.2 < b.2.2) := by simp [ltC]
theorem ltC_irr (a : Ch) : ltC a a = false := by
  cases h : ltC a a with
  | false => rfl
  | true =>
    rcases ltC_iff.1 h with q | ⟨_, q | ⟨_, q⟩⟩
    · rw [bl_irr] at q; cases q
    · omega
    · omega
theorem ltC_tr {a b c : Ch} (h : ltC a b = true) (k : ltC b c = true) : ltC a c = true := by
  rw [ltC_iff] at h k ⊢
  rcases h with h | ⟨h1, h2⟩ <;> rcases k with k | ⟨k1, k2⟩
  · exact .inl (bl_tr h k)
  · rw [← k1]; exact .inl h
  · rw [h1]; exact .inl k
  · refine .inr ⟨h1.trans k1, ?_⟩
    omega
theorem ltC_tri {a b : Ch} (h : ltC a b = false) (k : ltC b a = false) : a = b := by
  obtain ⟨a1, a2, a3⟩ := a; obtain ⟨b1, b2, b3⟩ := b
  have h' : ¬ _ := fun q => by rw [ltC_iff.2 q] at h; cases h
  have k' : ¬ _ := fun q => by rw [ltC_iff.2 q] at k; cases k
  dsimp only at h' k'
  have e : a1 = b1 := bl_tri (by cases q : Op.bytesLess a1 b1 with | false => rfl | true => exact absurd (.inl q) h') (by cases q : Op.bytesLess b1 a1 with | false => rfl | true => exact absurd (.inl q) k')
  subst e
  have h2 : ¬ (a2 < b2 ∨ a2 = b2 ∧ a3 < b3) := fun q => h' (.inr ⟨rfl, q⟩)
  have k2 : ¬ (b2 < a2 ∨ b2 = a2 ∧ b3 < a3) := fun q => k' (.inr ⟨rfl, q⟩)
  have e2 : a2 = b2 := by omega
  have e3 : a3 = b3 := by omega
  rw [e2, e3]
def ltM (a b : Ms) : Bool := ltC a.ch b.ch
theorem ltC_asym {a b : Ch} (h : ltC a b = true) : ltC b a = false := by
  cases k : ltC b a with
  | false => rfl
  | true => have := ltC_tr h k; rw [ltC_irr] at this; cases this
theorem ltM_wo : WO ltM := by
  refine ⟨fun a => ltC_irr _, fun a b h => ltC_asym h, fun a b c h k => ?_⟩
  unfold ltM at *
  cases q : ltC c.ch a.ch with
  | false => rfl
  | true =>
    cases r : ltC a.ch b.ch with
    | true => have := ltC_tr q r; rw [k] at this; cases this
    | false => rw [ltC_tri r h] at q; rw [k] at q; cases q
end Go.X
namespace Go.Proofs.Ytmnkedgmpbcicaa.Que
open Go Go.X Go.RowKit Go.Proofs.Ytmnkedgmpbcicaa.XF Go.Proofs.Ytmnkedgmpbcicaa.XK
theorem toL (a : List UInt8) : (⟨a.toArray⟩ : ByteArray).toList = a := by simp
def ints (l : List Int) : List Value := l.map (Value.int .i64)
theorem ints_get {l : List Int} {i : Nat} {x : Int} (h : l[i]? = some x) : (ints l)[i]? = some (.int .i64 x) := by unfold ints; simp [h]
theorem vIs : Try.prog.underlying 107 = some (.slice 3) := by kernel_rfl
end Go.Proofs.Ytmnkedgmpbcicaa.Que
set_option linter.unusedVariables false
set_option linter.unusedSimpArgs false
set_option maxRecDepth 4000
namespace Go.X
open Go Go.RowKit
def dv (g cap n : Nat) : Value := .slice (some ⟨g, 0, none⟩) n cap
end Go.X
namespace Go.Proofs.Ytmnkedgmpbcicaa.Que
open Go Go.X Go.RowKit Go.Proofs.Ytmnkedgmpbcicaa.XF Go.Proofs.Ytmnkedgmpbcicaa.XK
def Dat (w : World) (g cap : Nat) (l : List Ms) : Prop := w.ownsRow 0 tMs 8 (dv g cap l.length) l.length (l.flatMap Ms.enc)
section
variable {w : World} {g cap : Nat} {l : List Ms}
theorem Dat.mod {S : Nat → Prop} {w' : World} (h : Dat w g cap l) (hm : Mod S w w') (hS : ¬ S g) : Dat w' g cap l := owns_mod h hm fun k z y => by
  have : k = g := by unfold dv at z; exact (Option.some.inj z).symm
  subst this; exact hS y
theorem Dat.calm {w' : World} (h : Dat w g cap l) (hm : Mod none_ w w') : Dat w' g cap l := h.mod hm id
theorem Dat.lt (h : Dat w g cap l) : g < w.heap.size := by
  obtain ⟨c, hc⟩ := owns_blk h (g := g) rfl
  exact X.blk_lt hc
end
end Go.Proofs.Ytmnkedgmpbcicaa.Que
set_option linter.unusedVariables false
set_option linter.unusedSimpArgs false
set_option maxRecDepth 4000
namespace Go.Proofs.Ytmnkedgmpbcicaa.Que
open Go Go.X Go.RowKit Go.Proofs.Ytmnkedgmpbcicaa.XF Go.Proofs.Ytmnkedgmpbcicaa.XK
theorem Qsub {P : Program} {C : World → Prop} {K : Value → Prop} {t : TypeId} {x y : Operand} {k : IntKind} {a b : Int} (hk : K (.int k (k.wrap (a - b)))) : QK P C (do pure (Next.value (← (do eqGuard .sub t x y (.int k a) (.int k b); binOp .sub t (.int k a) (.int k b))))) K := QB_of (fun _ => rfl) (fun w => by simp [go_sem]) hk
section
variable {w : World} {g cap : Nat} {K : Exit → Sl → World → Prop} {ρ : Sl}
end
end Go.Proofs.Ytmnkedgmpbcicaa.Que
set_option linter.unusedVariables false
set_option linter.unusedSimpArgs false
set_option maxRecDepth 4000
namespace Go.Proofs.Ytmnkedgmpbcicaa.Que
open Go Go.X Go.RowKit Go.Proofs.Ytmnkedgmpbcicaa.XF Go.Proofs.Ytmnkedgmpbcicaa.XK
section
variable {w : World} {g cap : Nat} {K : Exit → Sl → World → Prop} {ρ : Sl}
end
end Go.Proofs.Ytmnkedgmpbcicaa.Que
set_option linter.unusedVariables false
set_option linter.unusedSimpArgs false
set_option maxRecDepth 4000
namespace Go.X
end Go.X
namespace Go.Proofs.Ytmnkedgmpbcicaa.Que
open Go Go.X Go.RowKit Go.Proofs.Ytmnkedgmpbcicaa.XF Go.Proofs.Ytmnkedgmpbcicaa.XK
section
variable {w : World} {g cap : Nat} {K : Exit → Sl → World → Prop} {ρ : Sl}
end
end Go.Proofs.Ytmnkedgmpbcicaa.Que
set_option linter.unusedVariables false
set_option linter.unusedSimpArgs false
set_option maxRecDepth 4000
namespace Go.X
end Go.X
namespace Go.Proofs.Ytmnkedgmpbcicaa.Que
open Go Go.X Go.RowKit Go.Proofs.Ytmnkedgmpbcicaa.XF Go.Proofs.Ytmnkedgmpbcicaa.XK
theorem conv_k {w : World} {K : Value → World → Prop} {src dst : TypeId} {q k : IntKind} {n : Int} (hs : (Try.prog.underlying src).isSome = true) (hd : Try.prog.underlying dst = some (.int k)) : VK Try.prog (convert src dst (.int q n)) w K = K (.int k (k.wrap n)) w := by
  have ek : Try.prog.intKind dst = k := by simp [Program.intKind, hd]
  have := run_convert_int (P := Try.prog) w src dst q n hs (by rw [ek]; exact hd)
  rw [ek] at this
  exact VK_eq_of this
structure SG (ρ ρ' : Sl) : Prop where
  e0 : ρ' 0 = ρ 0
  e1 : ρ' 1 = ρ 1
  e2 : ρ' 2 = ρ 2
  e3 : ρ' 3 = ρ 3
  e4 : ρ' 4 = ρ 4
theorem SG.trans {a b c : Sl} (h : SG a b) (k : SG b c) : SG a c := ⟨k.e0.trans h.e0, k.e1.trans h.e1, k.e2.trans h.e2, k.e3.trans h.e3, k.e4.trans h.e4⟩
section
variable {w : World} {g cap n : Nat} {K : Exit → Sl → World → Prop} {ρ : Sl} {P X Y R : List Ms} {x y : Ms}
end
end Go.Proofs.Ytmnkedgmpbcicaa.Que
set_option linter.unusedVariables false
set_option linter.unusedSimpArgs false
set_option maxRecDepth 4000
namespace Go.Proofs.Ytmnkedgmpbcicaa.Que
open Go Go.X Go.RowKit Go.Proofs.Ytmnkedgmpbcicaa.XF Go.Proofs.Ytmnkedgmpbcicaa.XK
section
variable {w : World} {g cap n : Nat} {K : Exit → Sl → World → Prop} {ρ : Sl} {P X Y R : List Ms} {x y : Ms}
end
end Go.Proofs.Ytmnkedgmpbcicaa.Que
set_option linter.unusedVariables false
set_option linter.unusedSimpArgs false
set_option maxRecDepth 4000
namespace Go.Proofs.Ytmnkedgmpbcicaa.Que
open Go Go.X Go.RowKit Go.Proofs.Ytmnkedgmpbcicaa.XF Go.Proofs.Ytmnkedgmpbcicaa.XK
section
variable {w : World} {g cap n N : Nat} {K : Exit → Sl → World → Prop} {ρ : Sl} {P X Y R : List Ms}
end
end Go.Proofs.Ytmnkedgmpbcicaa.Que
set_option linter.unusedVariables false
set_option linter.unusedSimpArgs false
set_option maxRecDepth 4000
namespace Go.Proofs.Ytmnkedgmpbcicaa.Que
open Go Go.X Go.RowKit Go.Proofs.Ytmnkedgmpbcicaa.XF Go.Proofs.Ytmnkedgmpbcicaa.XK
section
variable {w : World} {g cap n N : Nat} {ρ : Sl} {P X Y R : List Ms}
end
end Go.Proofs.Ytmnkedgmpbcicaa.Que
set_option linter.unusedVariables false
set_option linter.unusedSimpArgs false
set_option maxRecDepth 4000
namespace Go.Proofs.Ytmnkedgmpbcicaa.Que
open Go Go.X Go.RowKit Go.Proofs.Ytmnkedgmpbcicaa.XF Go.Proofs.Ytmnkedgmpbcicaa.XK
def Fq (l l' : List Ms) : Prop := ∀ x, l'.filter (eqv ltM x) = l.filter (eqv ltM x)
theorem Fq.len {l l' : List Ms} (h : Fq l l') : l'.length = l.length := Stab.len ltM_wo h
section
variable {w : World} {g cap n : Nat} {l : List Ms}
structure Bl (bs : Nat) (Bs : List (List Ms)) (C : List Ms) : Prop where
  so : ∀ B ∈ Bs, SortedL ltM B ∧ B.length = bs
  last : SortedL ltM C
theorem Bl.len {bs : Nat} {Bs : List (List Ms)} (h : ∀ B ∈ Bs, SortedL ltM B ∧ B.length = bs) : Bs.flatten.length = Bs.length * bs := by
  induction Bs with
  | nil => simp
  | cons B Bs ih =>
    rw [List.flatten_cons, List.length_append, ih fun x hx => h x (List.mem_cons_of_mem _ hx), (h B List.mem_cons_self).2, List.length_cons, Nat.succ_mul]
    omega
end
end Go.Proofs.Ytmnkedgmpbcicaa.Que
set_option linter.unusedVariables false
set_option linter.unusedSimpArgs false
namespace Go.X
open Go Go.RowKit
section
variable {κ : Type} [DecidableEq κ] {P : Program} {enc : κ → Value}
def IterAt (w : World) (r bm since : Nat) (seen : List Nat) (c : Nat) : Prop := w.heap[r]? = some (.mapIter (some bm) since seen.toArray c)
omit [DecidableEq κ] in
theorem IterAt.mod {S : Nat → Prop} {w w' : World} {r bm since c : Nat} {seen : List Nat} (h : IterAt w r bm since seen c) (hm : Mod S w w') (hS : ¬ S r) : IterAt w' r bm since seen c := hm.blk h hS
omit [DecidableEq κ] in
theorem range_k {w : World} {t k e : TypeId} (ht : P.underlying t = some (.map k e)) {b : Nat} {l : List (Ent κ)} {c : Nat} (h : IsMap enc w b l c) {K : Value → World → Prop}
    (hk : ∀ w', IterAt w' w.heap.size b c [] c → Mod none_ w w' → w'.heap.size = w.heap.size + 1 → K (.pointer (some ⟨w.heap.size, 0, none⟩)) w') : VK P (Instr.range t (.map (some b))) w K :=
  VK_of (run_range_map w t k e b _ c ht h) (new_k w _ hk)
omit [DecidableEq κ] in
theorem next_k {w : World} {r b since c : Nat} {seen : List Nat} {l : List (Ent κ)} {ty : TypeId} (h : IsMap enc w b l c) (hr : IterAt w r b since seen c) (hb : ∀ e ∈ l, e.b < since) (hsc : since ≤ c) {K : Value → World → Prop}
    (h0 : (∀ e ∈ l, e.b ∈ seen) → K (.tuple #[.bool false]) w)
    (h1 : ∀ e ∈ l, e.b ∉ seen → ∀ w', IterAt w' r b since (seen ++ [e.b]) c → Mod (fun i => i = r) w w' → w'.heap.size = w.heap.size → K (.tuple #[.bool true, enc e.k, e.v]) w') : VK P (Instr.next (.pointer (some ⟨r, 0, none⟩)) false ty) w K := by
  rcases run_next_at (P := P) w ty r b since c seen.toArray (l.map (Ent.enc enc)).toArray c hr h (fun x hx => by
      simp only [List.mem_map] at hx
      obtain ⟨e, he, rfl⟩ := hx
      exact hb e he) hsc with ⟨hz, hrun⟩ | ⟨e', he', w1, hw1, hrun⟩
  · refine VK_of hrun (h0 fun e he => ?_)
    have hl : leftOf (l.map (Ent.enc enc)).toArray seen.toArray = #[] := Array.eq_empty_of_size_eq_zero hz
    unfold leftOf at hl
    rw [Array.filter_eq_empty_iff] at hl
    have := hl (e.enc enc) (by simp; exact ⟨e, he, rfl⟩)
    simpa [Ent.enc] using this
  · obtain ⟨hm, hs⟩ := mem_left he'
    simp only [List.mem_map] at hm
    obtain ⟨e, he, rfl⟩ := hm
    have hns : e.b ∉ seen := by simpa [Ent.enc] using hs
    have hb1 : w1.heap = w.heap := by rcases hw1 with rfl | rfl <;> rfl
    have hm1 : Mod none_ w w1 := by
      rcases hw1 with rfl | rfl
      · exact Mod.refl _ _
      · exact (Mod.refl _ w).drawn _
    have hlt : r < w1.heap.size := by rw [hb1]; exact X.blk_lt hr
    refine VK_of hrun (h1 e he hns _ ?_ ((hm1.mono fun _ _ z => z.elim).trans ((Mod.refl _ w1).set _ fun _ => rfl)) (by show (w1.heap.setIfInBounds _ _).size = _; simp [hb1]))
    show (setB w1 r (.mapIter (some b) since (seen.toArray.push e.b) c)).heap[r]? = _
    rw [setB_new _ _ _ hlt, List.push_toArray]
omit [DecidableEq κ] in
theorem entry_k {w : World} {r b since c : Nat} {seen : List Nat} {l : List (Ent κ)} {e : Ent κ} (h : IsMap enc w b l c) (hr : IterAt w r b since (seen ++ [e.b]) c) (he : e ∈ l) (hn : ∀ (i j : Nat) (x y : Ent κ), l[i]? = some x → l[j]? = some y → x.b = y.b → i = j) {K : Value → World → Prop}
    (hk : K (.tuple #[enc e.k, e.v]) w) : VK P (Instr.entry (.pointer (some ⟨r, 0, none⟩))) w K := by
  have hnd : (((l.map (Ent.enc enc)).toArray.toList).map (·.born)).Nodup := by
    simp only [List.map_map, List.Nodup]
    rw [List.pairwise_map, List.pairwise_iff_getElem]
    intro i j hi hj hij q
    have := hn i j _ _ (List.getElem?_eq_getElem hi) (List.getElem?_eq_getElem hj) q
    omega
  have hr' : w.heap[r]? = some (.mapIter (some b) since (seen.toArray.push (e.enc enc).born) c) := by
    have := hr
    unfold IterAt at this
    rw [List.push_toArray]
    exact this
  exact VK_of (run_entry_at (P := P) w r b since seen.toArray _ c (e.enc enc) hr' h (by simp; exact ⟨e, he, rfl⟩) hnd) hk
def togo (l : List (Ent κ)) (seen : List Nat) : Nat := (l.filter fun e => decide (e.b ∉ seen)).length
theorem filt_lt {α : Type} {p q : α → Bool} {e : α} (hpq : ∀ x, q x = true → p x = true) (hp : p e = true) (hq : q e = false) : ∀ {l : List α}, e ∈ l → (l.filter q).length < (l.filter p).length
  | a :: l, he => by
    have le : ∀ l : List α, (l.filter q).length ≤ (l.filter p).length := fun l => by
      induction l with
      | nil => exact Nat.le_refl _
      | cons a l ih =>
        by_cases c : q a = true
        · simp [c, hpq a c, ih]
        · by_cases d : p a = true <;> simp [c, d] <;> omega
    rcases List.mem_cons.1 he with rfl | he
    · simp only [List.filter_cons, hp, hq, if_true, Bool.false_eq_true, if_false, List.length_cons]
      have := le l; omega
    · have ih := filt_lt hpq hp hq he
      by_cases c : q a = true
      · simp [c, hpq a c, ih]
      · by_cases d : p a = true <;> simp [c, d] <;> omega
omit [DecidableEq κ] in
theorem togo_lt {l : List (Ent κ)} {seen : List Nat} {e : Ent κ} (he : e ∈ l) (hn : e.b ∉ seen) : togo l (seen ++ [e.b]) < togo l seen := by
  unfold togo
  exact filt_lt (fun x hx => by simp at hx ⊢; exact hx.1) (by simpa using hn) (by simp) he
end
end Go.X
set_option linter.unusedVariables false
set_option linter.unusedSimpArgs false
set_option maxRecDepth 4000
namespace Go.X
open Go Go.RowKit
def nt (m : Ms) : Bool := !m.taken
theorem fl_take {α : Type} {enc : α → List Value} {k : Nat} (hk : ∀ a, (enc a).length = k) : ∀ (xs : List α) (n : Nat), (xs.flatMap enc).take (n * k) = (xs.take n).flatMap enc
  | [], n => by simp
  | x :: xs, 0 => by simp
  | x :: xs, n + 1 => by
    rw [List.take_succ_cons, List.flatMap_cons, List.flatMap_cons, ← fl_take hk xs n]
    rw [show (n + 1) * k = (enc x).length + n * k by rw [hk, Nat.succ_mul]; omega, List.take_length_add_append]
end Go.X
namespace Go.Proofs.Ytmnkedgmpbcicaa.Que
open Go Go.X Go.RowKit Go.Proofs.Ytmnkedgmpbcicaa.XF Go.Proofs.Ytmnkedgmpbcicaa.XK
theorem owns_bd {w2 : World} {B : Nat} {e : TypeId} {s : Nat} {v : Value} {n : Nat} {xs : List Value} (ho : w2.ownsRow B e s v n xs) : ∀ g, sb v g → B ≤ g ∧ g < w2.heap.size := fun g z => by
  rcases ho.2 with ⟨y, _⟩ | ⟨g', cap', cur', rfl, hb', hg', _⟩
  · unfold sb at z; rw [y] at z; cases z
  · cases z; exact ⟨hb', X.blk_lt hg'⟩
theorem app1 {w : World} {v : Value} {xs : List Ms} {m : Ms} {B : Nat} {K : Value → Value → World → Prop} (ho : w.ownsRow B tMs 8 v xs.length (xs.flatMap Ms.enc)) (hB : B ≤ w.heap.size) (hl : xs.length ≤ 2000000)
    (hk : ∀ x v' w', w'.ownsRow B tMs 8 v' (xs ++ [m]).length ((xs ++ [m]).flatMap Ms.enc) → Mod (fun b => B ≤ b) w w' → K x v' w') :
    VK Try.prog (Instr.buildSlice tMsS 1 [(0, .agg m.enc.toArray)].toArray) w fun x w => IK Try.prog .append #[tMsS, tMsS] tMsS [false, false] [v, x] w (K x) := by
  refine bs_k (cs := m.enc.toArray) (by kernel_rfl) fun w1 hb1 hm1 hz1 => ?_
  refine ap_any eMsS (owns_mod ho hm1 fun _ _ => id) (reads_blk (size := 8) (n := 1) hb1 rfl) (fun u hu => Ms.enc_mem [m] u (by simpa using hu)) (by unfold maxLen; omega) (by omega) (by omega) fun v' w2 ho2 hm2 hv2 => ?_
  refine hk _ v' w2 ?_ ((hm1.mono fun _ _ z => z.elim).trans (hm2.mono fun b _ z => (owns_bd (owns_mod ho hm1 fun _ _ => id) b z.symm).1))
  rw [List.length_append, List.flatMap_append]
  simpa using ho2
section
variable {w : World} {p : Nat} {l : List Ms} {V : QV}
abbrev RowP (w0 : World) (xs : List Ms) : Value → World → Prop := fun v w' => w'.ownsRow w0.heap.size tMs 8 v xs.length (xs.flatMap Ms.enc) ∧ Mod none_ w0 w'
end
end Go.Proofs.Ytmnkedgmpbcicaa.Que
set_option linter.unusedVariables false
set_option linter.unusedSimpArgs false
set_option maxRecDepth 4000
namespace Go.Proofs.Ytmnkedgmpbcicaa.Que
open Go Go.X Go.RowKit Go.Proofs.Ytmnkedgmpbcicaa.XF Go.Proofs.Ytmnkedgmpbcicaa.XK
section
variable {w : World} {p : Nat} {l : List Ms} {V : QV}
end
end Go.Proofs.Ytmnkedgmpbcicaa.Que
set_option linter.unusedVariables false
set_option linter.unusedSimpArgs false
set_option maxRecDepth 4000
namespace Go.X
open Go Go.RowKit
end Go.X
namespace Go.Proofs.Ytmnkedgmpbcicaa.Que
open Go Go.X Go.RowKit Go.Proofs.Ytmnkedgmpbcicaa.XF Go.Proofs.Ytmnkedgmpbcicaa.XK
structure CpR (w' : World) (B rb : Nat) (l : List Ms) (vs E : List (Ent Ch)) : Prop where
  map : IsMap encC w' rb E E.length
  keys : E.map (·.k) = vs.map (·.k)
  born : ∀ (i : Nat) (e : Ent Ch), E[i]? = some e → e.b = i
  rows : ∀ e ∈ E, w'.ownsRow B tMs 8 e.v (rowOf l e.k).length ((rowOf l e.k).flatMap Ms.enc)
  dist : ∀ (i j : Nat) (a b : Ent Ch), E[i]? = some a → E[j]? = some b → i ≠ j → ∀ g, sb a.v g → ¬ sb b.v g
section
variable {w : World} {p : Nat} {l : List Ms} {V : QV}
theorem CpR.mod {S : Nat → Prop} {w1 w2 : World} {B rb : Nat} {vs E : List (Ent Ch)} (h : CpR w1 B rb l vs E) (hm : Mod S w1 w2) (h1 : ¬ S rb) (h2 : ∀ e ∈ E, ∀ g, sb e.v g → ¬ S g) : CpR w2 B rb l vs E :=
  ⟨h.map.mod hm h1, h.keys, h.born, fun e he => owns_mod (h.rows e he) hm fun g z => h2 e he g z, h.dist⟩
theorem CpR.snoc {w1 w2 : World} {B rb : Nat} {vs E : List (Ent Ch)} {e : Ent Ch} {v : Value} (h : CpR w1 B rb l vs E) (hn : ∀ x ∈ vs, x.k ≠ e.k) (ho : w1.ownsRow B tMs 8 v (rowOf l e.k).length ((rowOf l e.k).flatMap Ms.enc)) (hv : ∀ g, sb v g → g ≠ rb ∧ ∀ x ∈ E, ¬ sb x.v g) (hE : ∀ x ∈ E, ¬ sb x.v rb)
    (hm : Mod (fun b => b = rb) w1 w2) (hmap : IsMap encC w2 rb (putE e.k v E.length E) (clkE e.k E.length E)) : CpR w2 B rb l (vs ++ [e]) (E ++ [⟨e.k, v, E.length⟩]) := by
  have hf : findE e.k E 0 = none := by
    refine findE_none.2 fun x hx q => ?_
    have : x.k ∈ vs.map (·.k) := by rw [← h.keys]; exact List.mem_map_of_mem hx
    obtain ⟨y, hy, hk⟩ := List.mem_map.1 this
    exact hn y hy (hk.trans q)
  unfold putE clkE at hmap
  rw [hf] at hmap
  refine ⟨by rw [List.length_append]; exact hmap, by rw [List.map_append, List.map_append, h.keys]; rfl, fun i x hx => ?_, fun x hx => ?_, fun i j a b hi hj hij g ha hb => ?_⟩
  · rcases app_get hx with z | ⟨z, rfl⟩
    · exact h.born i x z
    · exact z.symm
  · rcases List.mem_append.1 hx with z | z
    · exact owns_mod (h.rows x z) hm fun g q y => hE x z (y ▸ q)
    · rw [List.mem_singleton.1 z]
      exact owns_mod ho hm fun g q y => (hv g q).1 y
  · rcases app_get hi with z | ⟨z, rfl⟩ <;> rcases app_get hj with y | ⟨y, rfl⟩
    · exact h.dist i j a b z y hij g ha hb
    · exact (hv g hb).2 a (List.mem_of_getElem? z) ha
    · exact (hv g ha).2 b (List.mem_of_getElem? y) hb
    · omega
structure CpA (w' : World) (ab : Nat) (vs E : List (Ent (Int × Int))) : Prop where
  map : IsMap encSt w' ab E E.length
  kv : E.map (fun e => (e.k, e.v)) = vs.map (fun e => (e.k, e.v))
  born : ∀ (i : Nat) (e : Ent (Int × Int)), E[i]? = some e → e.b = i
theorem CpA.snoc {w2 : World} {ab : Nat} {vs E : List (Ent (Int × Int))} {e : Ent (Int × Int)} (hb : ∀ (i : Nat) (e : Ent (Int × Int)), E[i]? = some e → e.b = i) (hkv : E.map (fun e => (e.k, e.v)) = vs.map (fun e => (e.k, e.v))) (hn : ∀ x ∈ vs, x.k ≠ e.k)
    (hmap : IsMap encSt w2 ab (putE e.k e.v E.length E) (clkE e.k E.length E)) : CpA w2 ab (vs ++ [e]) (E ++ [⟨e.k, e.v, E.length⟩]) := by
  have hf : findE e.k E 0 = none := by
    refine findE_none.2 fun x hx q => ?_
    have : (x.k, x.v) ∈ vs.map (fun e => (e.k, e.v)) := by rw [← hkv]; exact List.mem_map_of_mem (f := fun e : Ent (Int × Int) => (e.k, e.v)) hx
    obtain ⟨y, hy, hk⟩ := List.mem_map.1 this
    have hk' : y.k = x.k := congrArg Prod.fst hk
    exact hn y hy (hk'.trans q)
  unfold putE clkE at hmap
  rw [hf] at hmap
  refine ⟨by rw [List.length_append]; exact hmap, by rw [List.map_append, List.map_append, hkv]; rfl, fun i x hx => ?_⟩
  rcases app_get hx with z | ⟨z, rfl⟩
  · exact hb i x z
  · exact z.symm
end
end Go.Proofs.Ytmnkedgmpbcicaa.Que
set_option linter.unusedVariables false
set_option linter.unusedSimpArgs false
set_option maxRecDepth 4000
namespace Go.Proofs.Ytmnkedgmpbcicaa.Que
open Go Go.X Go.RowKit Go.Proofs.Ytmnkedgmpbcicaa.XF Go.Proofs.Ytmnkedgmpbcicaa.XK
section
variable {w : World} {p : Nat} {l : List Ms} {V : QV}
theorem mem_of_born {κ : Type} {L vs : List (Ent κ)} (hb : ∀ (i j : Nat) (a b : Ent κ), L[i]? = some a → L[j]? = some b → a.b = b.b → i = j) (hs : ∀ e ∈ vs, e ∈ L) (hall : ∀ e ∈ L, e.b ∈ vs.map (·.b)) : ∀ e ∈ L, e ∈ vs := by
  intro e he
  obtain ⟨x, hx, hxb⟩ := List.mem_map.1 (hall e he)
  obtain ⟨i, hi, hi'⟩ := List.mem_iff_getElem.1 he
  obtain ⟨j, hj, hj'⟩ := List.mem_iff_getElem.1 (hs x hx)
  have := hb i j _ _ (List.getElem?_eq_getElem hi) (List.getElem?_eq_getElem hj) (by rw [hi', hj', hxb])
  subst this
  rw [hi'] at hj'
  rw [hj']; exact hx
theorem key_ne {κ : Type} {L vs : List (Ent κ)} {e : Ent κ} (hk : ∀ (i j : Nat) (a b : Ent κ), L[i]? = some a → L[j]? = some b → a.k = b.k → i = j) (hs : ∀ e ∈ vs, e ∈ L) (he : e ∈ L) (hne : e.b ∉ vs.map (·.b)) : ∀ x ∈ vs, x.k ≠ e.k := by
  intro x hx q
  obtain ⟨i, hi, hi'⟩ := List.mem_iff_getElem.1 (hs x hx)
  obtain ⟨j, hj, hj'⟩ := List.mem_iff_getElem.1 he
  have := hk i j _ _ (List.getElem?_eq_getElem hi) (List.getElem?_eq_getElem hj) (by rw [hi', hj']; exact q)
  subst this
  rw [hi'] at hj'
  subst hj'
  exact hne (List.mem_map_of_mem hx)
end
end Go.Proofs.Ytmnkedgmpbcicaa.Que
set_option linter.unusedVariables false
set_option linter.unusedSimpArgs false
set_option maxRecDepth 4000
namespace Go.Proofs.Ytmnkedgmpbcicaa.Que
open Go Go.X Go.RowKit Go.Proofs.Ytmnkedgmpbcicaa.XF Go.Proofs.Ytmnkedgmpbcicaa.XK
section
variable {w : World} {p : Nat} {l : List Ms} {V : QV}
end
end Go.Proofs.Ytmnkedgmpbcicaa.Que
set_option linter.unusedVariables false
set_option linter.unusedSimpArgs false
set_option maxRecDepth 4000
namespace Go.X
open Go Go.RowKit
structure DAt (w : World) (p : Nat) (l : List Ms) (v : Value) : Prop where
  blk : w.heap[p]? = some (.cells #[v] 97 (0, 0))
  own : w.ownsRow 0 39 8 v l.length (l.flatMap Ms.enc)
def DF (p : Nat) (v : Value) (b : Nat) : Prop := b = p ∨ sb v b
structure DFr (p : Nat) (w : World) (v : Value) (w' : World) (v' : Value) : Prop where
  mod : Mod (DF p v) w w'
  f : ∀ b, DF p v' b → DF p v b ∨ w.heap.size ≤ b
theorem DFr.refl (p : Nat) (w : World) (v : Value) : DFr p w v w v := ⟨Mod.refl _ _, fun _ h => .inl h⟩
theorem DFr.calm {p : Nat} {w w' : World} {v : Value} (h : Mod none_ w w') : DFr p w v w' v := ⟨h.mono fun _ _ q => q.elim, fun _ q => .inl q⟩
theorem DFr.trans {p : Nat} {w w1 w2 : World} {V V1 V2 : Value} (h : DFr p w V w1 V1) (k : DFr p w1 V1 w2 V2) : DFr p w V w2 V2 := by
  have hs := h.mod.size
  refine ⟨h.mod.then k.mod fun i hi q => ?_, fun b q => ?_⟩
  · rcases h.f i q with z | z
    · exact z
    · omega
  · rcases k.f b q with z | z
    · exact h.f b z
    · exact .inr (by omega)
theorem DAt.mod {w w' : World} {p : Nat} {l : List Ms} {v : Value} {S : Nat → Prop} (h : DAt w p l v) (hm : Mod S w w') (hS : ∀ b, DF p v b → ¬ S b) : DAt w' p l v :=
  ⟨hm.blk h.blk (hS _ (.inl rfl)), owns_mod h.own hm fun k q => hS k (.inr q)⟩
theorem DAt.calm {w w' : World} {p : Nat} {l : List Ms} {v : Value} (h : DAt w p l v) (hm : Mod none_ w w') : DAt w' p l v := h.mod hm fun _ _ q => q
theorem DAt.old {w : World} {p : Nat} {l : List Ms} {v : Value} (h : DAt w p l v) : ∀ b, DF p v b → b < w.heap.size := by
  intro b hb
  rcases hb with rfl | hb
  · exact X.blk_lt h.blk
  · obtain ⟨c, hc⟩ := owns_blk h.own hb
    exact X.blk_lt hc
theorem DAt.ne {w : World} {p : Nat} {l : List Ms} {v : Value} (h : DAt w p l v) {b : Nat} (hb : sb v b) : b ≠ p := by
  obtain ⟨c, hc⟩ := owns_blk h.own hb
  intro q
  subst q; have := h.blk; rw [hc] at this; cases this
end Go.X
namespace Go.Proofs.Ytmnkedgmpbcicaa.Que
open Go Go.X Go.RowKit Go.Proofs.Ytmnkedgmpbcicaa.XF Go.Proofs.Ytmnkedgmpbcicaa.XK
section
variable {w : World} {p : Nat} {l : List Ms} {V : Value}
theorem ixF {w : World} {s : Value} {l : List Ms} {i : Nat} {n : Int} {e : Ms} {t : TypeId} {k : Nat} {u : Value} {K : Value → Value → Value → World → Prop} (h : MsRow w s l) (hi : l[i]? = some e) (hn : n = (i : Int)) (hf : fieldOff Try.prog tMs k = some k) (hu : ∀ {a : Addr} {K : Value → World → Prop}, w.cell? a = some u → K u w → VK Try.prog (Instr.loadAt t (.pointer (some a))) w K) (he : e.enc[k]? = some u) (hk : ∀ x y, K x y u w) :
    VK Try.prog (Instr.indexAt tMsS s (.int .i64 n)) w fun x w => VK Try.prog (Instr.fieldAt tMs x k) w fun y w => VK Try.prog (Instr.loadAt t y) w (K x y) := by
  refine ixMsA h hi hn fun a ha => ?_
  rw [fo hf]
  exact hu (ha k u he) (hk _ _)
end
end Go.Proofs.Ytmnkedgmpbcicaa.Que
set_option linter.unusedVariables false
set_option linter.unusedSimpArgs false
set_option maxRecDepth 4000
namespace Go.Proofs.Ytmnkedgmpbcicaa.Que
open Go Go.X Go.RowKit Go.Proofs.Ytmnkedgmpbcicaa.XF Go.Proofs.Ytmnkedgmpbcicaa.XK
section
variable {w : World} {p : Nat} {l : List Ms} {V : Value}
end
end Go.Proofs.Ytmnkedgmpbcicaa.Que
set_option linter.unusedVariables false
set_option linter.unusedSimpArgs false
set_option maxRecDepth 4000
namespace Go.X
open Go Go.RowKit
end Go.X
namespace Go.Proofs.Ytmnkedgmpbcicaa.Que
open Go Go.X Go.RowKit Go.Proofs.Ytmnkedgmpbcicaa.XF Go.Proofs.Ytmnkedgmpbcicaa.XK
section
variable {w : World} {p : Nat} {l : List Ms} {V : Value}
end
end Go.Proofs.Ytmnkedgmpbcicaa.Que
set_option linter.unusedVariables false
set_option linter.unusedSimpArgs false
set_option maxRecDepth 4000
namespace Go.X
end Go.X
namespace Go.Proofs.Ytmnkedgmpbcicaa.Que
open Go Go.X Go.RowKit Go.Proofs.Ytmnkedgmpbcicaa.XF Go.Proofs.Ytmnkedgmpbcicaa.XK
section
variable {w : World} {p : Nat} {l : List Ms} {V : Value}
end
end Go.Proofs.Ytmnkedgmpbcicaa.Que
set_option linter.unusedVariables false
set_option linter.unusedSimpArgs false
set_option maxRecDepth 4000
namespace Go.Proofs.Ytmnkedgmpbcicaa.Que
open Go Go.X Go.RowKit Go.Proofs.Ytmnkedgmpbcicaa.XF Go.Proofs.Ytmnkedgmpbcicaa.XK
theorem gMs : Try.prog.eqGuardType Try.prog.depth tMs = false := by kernel_rfl
theorem is2' (w : World) : (isAgg 2).run Try.prog w = .ok false w := by unfold isAgg; rw [Sem.run_bind, run_underlying Try.underlying2 w]; rfl
theorem is4' (w : World) : (isAgg 4).run Try.prog w = .ok false w := by unfold isAgg; rw [Sem.run_bind, run_underlying Try.underlying4 w]; rfl
theorem eqMs (a b : Ms) (w : World) : (Op.equalIn 10000 39 (.agg a.enc.toArray) (.agg b.enc.toArray)).run Try.prog w = .ok (decide (a = b)) w := by
  show (Op.equalIn (9999 + 1) 39 (.agg a.enc.toArray) (.agg b.enc.toArray)).run Try.prog w = _
  rw [run_equalIn_struct w 9999 39 _ _ (by simp [Program.fieldsOf, Try.underlying39]) (by kernel_rfl)]
  obtain ⟨a1, a2, a3, a4, a5, a6, a7, a8⟩ := a; obtain ⟨b1, b2, b3, b4, b5, b6, b7, b8⟩ := b
  have e1 : ∀ l : List UInt8, (⟨l.toArray⟩ : ByteArray).toList = l := fun l => by simp
  simp [Program.fieldsOf, Try.underlying39, Op.eqFields, part, is3, is9, is2', is4', Sem.run_bind, Ms.enc, strV, run_equalIn_int w 9998 3 .i64 .i64 _ _ Try.underlying3, run_equalIn_int w 9998 2 .i64 .i64 _ _ Try.underlying2, run_equalIn_string w 9998 9 _ _ Try.underlying9, run_equalIn_bool w 9998 4 _ _ Try.underlying4, e1]
  by_cases h1 : a1 = b1 <;> by_cases h2 : a2 = b2 <;> by_cases h3 : a3 = b3 <;> by_cases h4 : a4 = b4 <;> by_cases h5 : a5 = b5 <;> by_cases h6 : a6 = b6 <;> by_cases h7 : a7 = b7 <;> by_cases h8 : a8 = b8 <;> simp [h1, h2, h3, h4, h5, h6, h7, h8, e1]
theorem rMsE (a b : Ms) (w : World) : (binOp .eql tMs (.agg a.enc.toArray) (.agg b.enc.toArray)).run Try.prog w = .ok (.bool (decide (a = b))) w := by
  rw [run_eql_struct, eqMs a b w]; rfl
theorem BK_MsE {w : World} {K : Value → World → Prop} {x y : Operand} (a b : Ms) : BK Try.prog .eql tMs x y (.agg a.enc.toArray) (.agg b.enc.toArray) w K = K (.bool (decide (a = b))) w := BK_of (run_eqGuard_agg w .eql _ x y _ _ gMs) (rMsE a b w)
end Go.Proofs.Ytmnkedgmpbcicaa.Que
set_option linter.unusedVariables false
set_option linter.unusedSimpArgs false
set_option maxRecDepth 4000
namespace Go.X
open Go Go.RowKit
end Go.X
namespace Go.Proofs.Ytmnkedgmpbcicaa.Que
open Go Go.X Go.RowKit Go.Proofs.Ytmnkedgmpbcicaa.XF Go.Proofs.Ytmnkedgmpbcicaa.XK
theorem BK_eqlL (t : TypeId) (x y : Operand) (a b : List UInt8) {P : Program} {w : World} {K : Value → World → Prop} : BK P .eql t x y (strV a) (strV b) w K = K (.bool (decide (a = b))) w := by
  unfold strV
  rw [BK_eqlS, toL, toL]
  congr 2
  by_cases h : a = b <;> simp [h]
section
variable {w : World} {p : Nat} {l : List Ms} {V : Value}
end
end Go.Proofs.Ytmnkedgmpbcicaa.Que
set_option linter.unusedVariables false
set_option linter.unusedSimpArgs false
set_option maxRecDepth 4000
namespace Go.X
open Go Go.RowKit
end Go.X
namespace Go.Proofs.Ytmnkedgmpbcicaa.Que
open Go Go.X Go.RowKit Go.Proofs.Ytmnkedgmpbcicaa.XF Go.Proofs.Ytmnkedgmpbcicaa.XK
section
variable {w : World} {p : Nat} {l : List Ms} {V : Value}
end
end Go.Proofs.Ytmnkedgmpbcicaa.Que
set_option maxRecDepth 20000
namespace Go.Proofs
open Go.Shelf
def Try.lays189_ren : Go.Shelf.Ren := ⟨fun | 189 => 79 | 125 => 87 | 257 => 86 | 128 => 99 | 129 => 100 | 294 => 90 | 295 => 91 | 296 => 92 | 297 => 93 | 298 => 94 | 299 => 95 | 216 => 96 | 300 => 97 | 301 => 98 | 328 => 102 | 329 => 103 | 330 => 104 | 331 => 105 | 332 => 106 | 215 => 85 | 343 => 107 | n => n, fun | 28 => 107 | 3 => 3 | 46 => 129 | 0 => 0 | 51 => 141 | 53 => 85 | 4 => 4 | 183 => 133 | 182 => 132 | 131 => 138 | 5 => 5 | 9 => 9 | 218 => 143 | 222 => 147 | 228 => 149 | 229 => 150 | n => n, fun | n => n⟩
theorem Try.lays189 : Go.Proofs.Lays.n189 Try.prog Try.lays189_ren := {
  mixed := by kernel_rfl
  f125 := Try.func87.trans (congrArg some (by kernel_rfl))
  f128 := Try.func99.trans (congrArg some (by kernel_rfl))
  f129 := Try.func100.trans (congrArg some (by kernel_rfl))
  f189 := Try.func79.trans (congrArg some (by kernel_rfl))
  f215 := Try.func85.trans (congrArg some (by kernel_rfl))
  f216 := Try.func96.trans (congrArg some (by kernel_rfl))
  f257 := Try.func86.trans (congrArg some (by kernel_rfl))
  f294 := Try.func90.trans (congrArg some (by kernel_rfl))
  f295 := Try.func91.trans (congrArg some (by kernel_rfl))
  f296 := Try.func92.trans (congrArg some (by kernel_rfl))
  f297 := Try.func93.trans (congrArg some (by kernel_rfl))
  f298 := Try.func94.trans (congrArg some (by kernel_rfl))
  f299 := Try.func95.trans (congrArg some (by kernel_rfl))
  f300 := Try.func97.trans (congrArg some (by kernel_rfl))
  f301 := Try.func98.trans (congrArg some (by kernel_rfl))
  f328 := Try.func102.trans (congrArg some (by kernel_rfl))
  f329 := Try.func103.trans (congrArg some (by kernel_rfl))
  f330 := Try.func104.trans (congrArg some (by kernel_rfl))
  f331 := Try.func105.trans (congrArg some (by kernel_rfl))
  f332 := Try.func106.trans (congrArg some (by kernel_rfl))
  f343 := Try.func107.trans (congrArg some (by kernel_rfl))
  t0 := Try.underlying0
  a0 := Try.isAgg0
  z0 := Try.sizeOf0
  v0 := Try.zeroValue0
  t3 := Try.underlying3
  a3 := Try.isAgg3
  z3 := Try.sizeOf3
  v3 := Try.zeroValue3
  t4 := Try.underlying4
  a4 := Try.isAgg4
  z4 := Try.sizeOf4
  v4 := Try.zeroValue4
  t5 := Try.underlying5
  a5 := Try.isAgg5
  z5 := Try.sizeOf5
  v5 := Try.zeroValue5
  t9 := Try.underlying9
  a9 := Try.isAgg9
  z9 := Try.sizeOf9
  v9 := Try.zeroValue9
  t28 := Try.underlying107
  a28 := Try.isAgg107
  z28 := Try.sizeOf107
  v28 := Try.zeroValue107
  t46 := Try.underlying129
  a46 := Try.isAgg129
  z46 := Try.sizeOf129
  v46 := Try.zeroValue129
  t51 := Try.underlying141
  a51 := Try.isAgg141
  z51 := Try.sizeOf141
  v51 := Try.zeroValue141
  t53 := Try.underlying85
  a53 := Try.isAgg85
  z53 := Try.sizeOf85
  v53 := Try.zeroValue85
  t131 := Try.underlying138
  a131 := Try.isAgg138
  z131 := Try.sizeOf138
  v131 := Try.zeroValue138
  t182 := Try.underlying132
  a182 := Try.isAgg132
  z182 := Try.sizeOf132
  v182 := Try.zeroValue132
  t183 := Try.underlying133
  a183 := Try.isAgg133
  z183 := Try.sizeOf133
  v183 := Try.zeroValue133
  t218 := Try.underlying143
  a218 := Try.isAgg143
  z218 := Try.sizeOf143
  v218 := Try.zeroValue143
  t222 := Try.underlying147
  a222 := Try.isAgg147
  z222 := Try.sizeOf147
  v222 := Try.zeroValue147
  t228 := Try.underlying149
  a228 := Try.isAgg149
  z228 := Try.sizeOf149
  v228 := Try.zeroValue149
  t229 := Try.underlying150
  a229 := Try.isAgg150
  z229 := Try.sizeOf150
  v229 := Try.zeroValue150 }
end Go.Proofs
set_option linter.unusedVariables false
set_option linter.unusedSimpArgs false
set_option maxRecDepth 4000
namespace Go.X
open Go Go.RowKit
theorem sorted_ext : ∀ {s t : List Int}, s.Pairwise (· < ·) → t.Pairwise (· < ·) → (∀ x, x ∈ s ↔ x ∈ t) → s = t
  | [], [], _, _, _ => rfl
  | [], b :: t, _, _, h => absurd ((h b).2 List.mem_cons_self) (by simp)
  | a :: s, [], _, _, h => absurd ((h a).1 List.mem_cons_self) (by simp)
  | a :: s, b :: t, hs, ht, h => by
    rw [List.pairwise_cons] at hs ht
    have hab : a = b := by
      have h1 := (h a).1 List.mem_cons_self
      have h2 := (h b).2 List.mem_cons_self
      rcases List.mem_cons.1 h1 with q | q
      · exact q
      · rcases List.mem_cons.1 h2 with z | z
        · exact z.symm
        · have := ht.1 a q; have := hs.1 b z; omega
    subst hab
    congr 1
    refine sorted_ext hs.2 ht.2 fun x => ⟨fun q => ?_, fun q => ?_⟩
    · rcases List.mem_cons.1 ((h x).1 (List.mem_cons_of_mem _ q)) with z | z
      · have := hs.1 x q; omega
      · exact z
    · rcases List.mem_cons.1 ((h x).2 (List.mem_cons_of_mem _ q)) with z | z
      · have := ht.1 x q; omega
      · exact z
theorem merge_lt {l : List Int} (h : l.Nodup) : (l.mergeSort fun x y => decide (x ≤ y)).Pairwise (· < ·) := by
  have h1 := List.pairwise_mergeSort (le := fun x y : Int => decide (x ≤ y)) (fun a b c p q => by simp only [decide_eq_true_eq] at p q ⊢; omega) (fun a b => by simp only [Bool.or_eq_true, decide_eq_true_eq]; omega) l
  have h2 : (l.mergeSort fun x y => decide (x ≤ y)).Nodup := (List.mergeSort_perm l _).nodup_iff.2 h
  refine (List.pairwise_iff_getElem.2 fun i j hi hj hij => ?_)
  have a := List.pairwise_iff_getElem.1 h1 i j hi hj hij
  have b := List.pairwise_iff_getElem.1 h2 i j hi hj hij
  simp only [decide_eq_true_eq] at a
  omega
def sentBy (l : List Ms) (k : List UInt8) (t x : Int) : Bool := l.any fun m => nt m && decide (m.ch = (k, x, t))
def sendersV (l : List Ms) (k : List UInt8) (t : Int) : List Int := ((List.range 64).map fun n : Nat => (n : Int)).filter (sentBy l k t)
def FrmOk (l : List Ms) : Prop := ∀ m ∈ l, 0 ≤ m.frm ∧ m.frm ≤ 63
theorem FrmOk.nil : FrmOk [] := by intro m hm; cases hm
theorem FrmOk.take {l : List Ms} (h : FrmOk l) (f c : Int) : FrmOk (takeV l f c).1 := by
  unfold takeV
  split
  · exact h
  · split
    · exact h
    · intro m hm
      obtain ⟨x, hx, rfl⟩ := List.mem_map.1 hm
      rw [tk_frm]; exact h x hx
theorem FrmOk.send {l : List Ms} (h : FrmOk l) (m : Ms) : FrmOk (sendV l m).1 := by
  unfold sendV
  split
  · exact h
  · rename_i hb
    intro x hx
    rcases List.mem_append.1 hx with q | q
    · exact h x q
    · rw [List.mem_singleton.1 q]
      have : badM m = false := by
        cases hq : badM m with
        | false => rfl
        | true => rw [hq] at hb; simp at hb
      unfold badM at this
      simp only [Bool.or_eq_false_iff, Bool.not_eq_false', Bool.and_eq_true, decide_eq_true_eq] at this
      exact this.1.1.1.1.2
theorem range_lt (n : Nat) : ((List.range n).map fun n : Nat => (n : Int)).Pairwise (· < ·) := by
  rw [List.pairwise_map]
  exact List.pairwise_lt_range.imp fun h => by omega
theorem senders_eq {l : List Ms} (hg : FrmOk l) {k : List UInt8} {t : Int} {out : List Int} (hn : out.Nodup) (hm : ∀ x, x ∈ out ↔ sentBy l k t x = true) : (out.mergeSort fun x y => decide (x ≤ y)) = sendersV l k t := by
  refine sorted_ext (merge_lt hn) ((range_lt 64).filter _) fun x => ?_
  rw [(List.mergeSort_perm out _).mem_iff, hm, sendersV, List.mem_filter]
  refine ⟨fun q => ⟨?_, q⟩, fun q => q.2⟩
  unfold sentBy at q
  obtain ⟨m, hml, hmq⟩ := List.any_eq_true.1 q
  have hch : m.ch = (k, x, t) := by
    have := (Bool.and_eq_true_iff.1 hmq).2
    simpa using this
  have hx : m.frm = x := by unfold Ms.ch at hch; simp only [Prod.mk.injEq] at hch; exact hch.2.1
  have := hg m hml
  rw [List.mem_map]
  exact ⟨x.toNat, List.mem_range.2 (by omega), by omega⟩
end Go.X
namespace Go.Proofs.Ytmnkedgmpbcicaa.Que
open Go Go.X Go.RowKit Go.Proofs.Ytmnkedgmpbcicaa.XF Go.Proofs.Ytmnkedgmpbcicaa.XK
abbrev tI : TypeId := 3
abbrev tIs : TypeId := 107
theorem eIs : elemOk Try.prog tIs tI 1 8 = true := by kernel_rfl
theorem SortI_ok {w : World} {v : Value} {zs : List Int} {B : Nat} (h : w.ownsRow B tI 1 v zs.length (ints zs)) (hl : zs.length ≤ 1000000) : Rt Try.prog 79 #[v] w fun _ w' => w'.ownsRow B tI 1 v zs.length (ints (zs.mergeSort fun x y => decide (x ≤ y))) ∧ Mod (fun b => sb v b) w w' := by
  have h' := h
  obtain ⟨hlen, ⟨rfl, h0⟩ | ⟨g, cap, cur, rfl, hb, hg, hn, hm, hs, ht⟩⟩ := h
  · obtain rfl : zs = [] := List.eq_nil_of_length_eq_zero h0
    refine Calls.mono (Any.slices_Sort_int_none Try.lays189 none 0 w) ?_
    rintro e w' ⟨rfl, rfl⟩
    exact ⟨_, rfl, by rw [List.mergeSort_nil]; exact h', Mod.refl _ _⟩
  · have hH : Go.Sort.Holds (Value.int .i64) w g 0 zs.toArray := holds_of_blockI hg (by rw [Nat.mul_one] at ht; exact ht)
    refine Calls.mono (Any.slices_Sort_int Try.lays189 g 0 cap zs w hH (X.blk_lt hg) (by omega)) ?_
    rintro e w' ⟨rfl, n, os, rfl⟩
    refine ⟨_, rfl, ?_, ?_⟩
    · exact ownsRow_sortedI (ss := zs) (ts := zs.mergeSort fun x y => decide (x ≤ y)) (List.length_mergeSort zs) hb hg hn hm hs
    · exact (Mod.ofGrown (grownBy_sortedI (n := n) (os := os) (g := g) (w := w) (zs.mergeSort fun x y => decide (x ≤ y)).toArray)).mono fun b _ z => z.symm
theorem appI {w : World} {v : Value} {xs : List Int} {m : Int} {B : Nat} {K : Value → Value → World → Prop} (ho : w.ownsRow B tI 1 v xs.length (ints xs)) (hB : B ≤ w.heap.size) (hl : xs.length ≤ 2000000)
    (hk : ∀ x v' w', w'.ownsRow B tI 1 v' (xs ++ [m]).length (ints (xs ++ [m])) → Mod (fun b => B ≤ b) w w' → K x v' w') :
    VK Try.prog (Instr.buildSlice tIs 1 [(0, .int .i64 m)].toArray) w fun x w => IK Try.prog .append #[tIs, tIs] tIs [false, false] [v, x] w (K x) := by
  refine bs_k (cs := #[.int .i64 m]) (by kernel_rfl) fun w1 hb1 hm1 hz1 => ?_
  refine ap_any eIs (owns_mod ho hm1 fun _ _ => id) (reads_blk (size := 1) (n := 1) hb1 rfl) (fun u hu => by rw [List.mem_singleton.1 hu]; rfl) (by unfold maxLen; omega) (by omega) (by omega) fun v' w2 ho2 hm2 hv2 => ?_
  refine hk _ v' w2 ?_ ((hm1.mono fun _ _ z => z.elim).trans (hm2.mono fun b _ z => (owns_bd (owns_mod ho hm1 fun _ _ => id) b z.symm).1))
  rw [List.length_append]
  unfold ints at ho2 ⊢
  rw [List.map_append]
  exact ho2
end Go.Proofs.Ytmnkedgmpbcicaa.Que
set_option linter.unusedVariables false
set_option linter.unusedSimpArgs false
set_option maxRecDepth 4000
namespace Go.X
open Go Go.RowKit
def toldE (l : List Ms) (k : List UInt8) (t : Int) (e : Ent Ch) : Bool := decide (e.k = (k, e.k.2.1, t)) && (rowOf l e.k).any nt
def outE (l : List Ms) (k : List UInt8) (t : Int) (vs : List (Ent Ch)) : List Int := (vs.filter (toldE l k t)).map fun e => e.k.2.1
theorem toldE_iff {l : List Ms} {k : List UInt8} {t : Int} {e : Ent Ch} : toldE l k t e = true ↔ e.k = (k, e.k.2.1, t) ∧ ∃ m ∈ l, m.ch = e.k ∧ nt m = true := by
  unfold toldE
  rw [Bool.and_eq_true, decide_eq_true_iff, List.any_eq_true]
  refine and_congr Iff.rfl ⟨fun ⟨m, hm, hn⟩ => ?_, fun ⟨m, hm, hc, hn⟩ => ⟨m, mem_row.2 ⟨hm, hc⟩, hn⟩⟩
  obtain ⟨a, b⟩ := mem_row.1 hm
  exact ⟨m, a, b, hn⟩
theorem outE_nodup {l : List Ms} {k : List UInt8} {t : Int} {vs : List (Ent Ch)} (hd : vs.Pairwise fun a b => a.k ≠ b.k) : (outE l k t vs).Nodup := by
  unfold outE
  show List.Pairwise _ _
  rw [List.pairwise_map]
  refine List.pairwise_iff_getElem.2 fun i j hi hj hij z => ?_
  have h1 := List.pairwise_iff_getElem.1 (hd.filter (toldE l k t)) i j hi hj hij
  have a := (toldE_iff.1 (List.mem_filter.1 (List.getElem_mem hi)).2).1
  have b := (toldE_iff.1 (List.mem_filter.1 (List.getElem_mem hj)).2).1
  exact h1 (by rw [a, b, z])
theorem outE_mem {l : List Ms} {V : QV} (h : QInv l V) {k : List UInt8} {t : Int} {vs : List (Ent Ch)} (hs : ∀ e ∈ vs, e ∈ V.er) (hall : ∀ e ∈ V.er, e ∈ vs) (x : Int) : x ∈ outE l k t vs ↔ sentBy l k t x = true := by
  unfold outE sentBy
  rw [List.mem_map, List.any_eq_true]
  constructor
  · rintro ⟨e, he, rfl⟩
    obtain ⟨h1, m, hm, hc, hn⟩ := toldE_iff.1 (List.mem_filter.1 he).2
    exact ⟨m, hm, by rw [hn, hc]; simpa using h1⟩
  · rintro ⟨m, hm, hq⟩
    rw [Bool.and_eq_true, decide_eq_true_iff] at hq
    obtain ⟨e, he, hk⟩ := h.cov m hm
    refine ⟨e, List.mem_filter.2 ⟨hall e he, toldE_iff.2 ⟨?_, m, hm, hk.symm, hq.1⟩⟩, ?_⟩
    · rw [hk, hq.2]
    · rw [hk, hq.2]
end Go.X
namespace Go.Proofs.Ytmnkedgmpbcicaa.Que
open Go Go.X Go.RowKit Go.Proofs.Ytmnkedgmpbcicaa.XF Go.Proofs.Ytmnkedgmpbcicaa.XK
theorem gCh : Try.prog.eqGuardType Try.prog.depth 91 = false := by kernel_rfl
theorem BK_ChE {w : World} {K : Value → World → Prop} {x y : Operand} (a b : Ch) : BK Try.prog .eql 91 x y (encC a) (encC b) w K = K (.bool (decide (a = b))) w := by
  obtain ⟨a1, a2, a3⟩ := a; obtain ⟨b1, b2, b3⟩ := b
  refine BK_of (run_eqGuard_agg w .eql _ x y _ _ gCh) ?_
  unfold encC strV
  rw [run_eql_struct]
  have := eqC ⟨a1.toArray⟩ ⟨b1.toArray⟩ a2 a3 b2 b3 w
  unfold Op.equal at this
  dsimp only
  rw [show (10000 : Nat) = Op.maxDepth from rfl, this, toL, toL]
  show Result.ok (Value.bool _) w = _
  congr 2
  by_cases h1 : a1 = b1 <;> by_cases h2 : a2 = b2 <;> by_cases h3 : a3 = b3 <;> simp [h1, h2, h3]
theorem Senders1_ok (m : Ms) (w : World) : Rt Try.prog 78 #[.agg m.enc.toArray] w fun v w' => v = .bool (nt m) ∧ Mod none_ w w' := by
  refine queue_Queue_Senders_1_calls ?_
  unfold queue_Queue_Senders_1_F
  refine box_k (cs := m.enc.toArray) rfl fun w1 hb1 hm1 hz1 => ?_
  have g : FO Try.prog w1 tMs 7 7 ⟨w.heap.size, 0, none⟩ 4 (.bool m.taken) := FO.blk hb1 (by kernel_rfl) vB rfl rfl
  rw [g.e, not_ok]
  exact ⟨rfl, hm1⟩
section
variable {w : World} {p : Nat} {l : List Ms} {V : QV}
abbrev IntP (w0 : World) (xs : List Int) : Value → World → Prop := fun v w' => w'.ownsRow w0.heap.size tI 1 v xs.length (ints xs) ∧ Mod none_ w0 w'
theorem Senders_ok (h : QAt w p l V) (hg : FrmOk l) (hL : l.length ≤ 500000) (k : List UInt8) (t : Int) : Rt Try.prog 62 #[.pointer (some ⟨p, 0, none⟩), strV k, .int .i64 t] w (IntP w (sendersV l k t)) := by
  refine queue_Queue_Senders_calls ?_
  unfold queue_Queue_Senders_F
  refine CK_st Try.func49 rfl rfl (none_ok h) ?_
  rintro _ w1 ⟨rfl, rfl⟩
  refine condF ?_
  rw [NK_ptr, (f_rows h).e]
  refine range_k uR h.rm fun w2 hit hm2 hz2 => ?_
  refine W_loopG queue_Queue_Senders_L0_ok (fun m ρ w' => ∃ (vs : List (Ent Ch)) (o : Value), m = togo V.er (vs.map (·.b)) ∧ (∀ e ∈ vs, e ∈ V.er) ∧ vs.Pairwise (fun a b => a.k ≠ b.k) ∧ ρ 17 = .pointer (some ⟨w1.heap.size, 0, none⟩) ∧ ρ 7 = o ∧ ρ 1 = strV k ∧ ρ 2 = .int .i64 t ∧ IterAt w' w1.heap.size V.rb V.c1 (vs.map (·.b)) V.c1 ∧ w'.ownsRow w2.heap.size tI 1 o (outE l k t vs).length (ints (outE l k t vs)) ∧ (outE l k t vs).length ≤ l.length ∧ Mod (fun b => w1.heap.size ≤ b) w2 w' ∧ Mod none_ w1 w') (togo V.er [])
    ⟨[], .slice none 0 0, rfl, by simp, by simp, rfl, rfl, rfl, rfl, hit, World.ownsRow_nil _ _ _ _, Nat.zero_le _, Mod.refl _ _, hm2⟩ ?_
  rintro m ρ w3 ⟨vs, o, hmv, hvs, hvd, e17, e7, e1, e2, hit3, hO3, hol, hm23, hm13⟩
  rw [queue_Queue_Senders_L0_eq]; unfold queue_Queue_Senders_L0_F
  rw [e17]
  have h3 := h.calm hm13
  refine next_k h3.rm hit3 h3.inv.rc (Nat.le_refl _) (fun hall => ?_) (fun e he hne w4 hit4 hm4 hz4 => ?_)
  · rw [extract_ok (v := .bool false) rfl]
    refine condF ?_
    rw [sq_x, bk_x, sq_n, queue_Queue_Senders_R1_eq]; unfold queue_Queue_Senders_R1_F
    have key : ∀ ρ : Sl, ρ 7 = o → CK Try.prog (.func (.func 79) #[] #[]) [ρ 7] w3 fun x41 w => retK Try.prog [ResultVar.tmp 6] (IntP w1 (sendersV l k t)) .ret (up (up (up (up ρ 40 (ρ 7)) 41 x41) 42 (ρ 7)) 6 (ρ 7)) w := by
      intro ρ q7
      rw [q7]
      refine CK_st Try.func79 rfl rfl (SortI_ok hO3 (by omega)) ?_
      rintro _ w4 ⟨hO4, hm4⟩
      have hall' := mem_of_born h.inv.rb hvs hall
      have hse := senders_eq hg (outE_nodup (l := l) (k := k) (t := t) hvd) (outE_mem h.inv (k := k) (t := t) hvs hall')
      have hl4 := congrArg List.length hse
      rw [List.length_mergeSort] at hl4
      rw [hse, hl4] at hO4
      refine ⟨?_, hm13.then hm4 fun i hi z => ?_⟩
      · exact owns_base hO4 (by omega)
      · have := (owns_bd hO3 i z).1; omega
    exact key _ e7
  · rw [extract_ok (v := .bool true) rfl]
    refine condT ?_
    have hm14 : Mod none_ w1 w4 := hm13.fresh hm4 (Nat.le_refl _)
    have h4 := h.calm hm14
    refine entry_k h4.rm hit4 he h4.inv.rb ?_
    rw [extract_ok (v := encC e.k) rfl, extract_ok (v := e.v) rfl]
    refine al_k (cs := #[strV [], .int .i64 0, .int .i64 0]) zC_z rfl _ fun w5 hb5 hm5 hz5 => ?_
    refine stS (cs := #[strV e.k.1, .int .i64 e.k.2.1, .int .i64 e.k.2.2]) (old := #[strV [], .int .i64 0, .int .i64 0]) rfl rfl (by kernel_rfl) rfl (by simp [Value.oneCell', strV]) hb5 fun w6 hb6 hm6 hz6 => ?_
    have hm46 : Mod none_ w4 w6 := hm5.fresh hm6 (Nat.le_refl _)
    have h6 := h4.calm hm46
    have hr6 : MsRow w6 e.v (rowOf l e.k) := reads_of_owns (h6.rows e he)
    have hrl := row_len l e.k
    refine CK_st Try.func44 rfl rfl (ContainsFuncMs_ok (p := nt) hr6 (by omega) fun a _ w' _ K hK => ?_) ?_
    · refine CK_st Try.func78 rfl rfl (Senders1_ok a w') ?_
      rintro _ w'' ⟨rfl, hm''⟩
      exact hK w'' hm''
    rintro _ w7 ⟨rfl, hm7⟩
    have hm47 := hm46.trans hm7
    have hb7 := hm7.blk hb6 id
    have g1 : FO Try.prog w7 91 1 1 ⟨w4.heap.size, 0, none⟩ 3 (.int .i64 e.k.2.1) := FO.blk hb7 (by kernel_rfl) vI rfl rfl
    refine ldS (cs := #[strV e.k.1, .int .i64 e.k.2.1, .int .i64 e.k.2.2]) rfl Try.underlying91 rfl (by kernel_rfl) hb7 ?_
    rw [g1.e, e1, e2, build_ok (cs := #[strV k, .int .i64 e.k.2.1, .int .i64 t]) (by kernel_rfl)]
    rw [show Value.agg #[strV e.k.1, .int .i64 e.k.2.1, .int .i64 e.k.2.2] = encC e.k from rfl, show Value.agg #[strV k, .int .i64 e.k.2.1, .int .i64 t] = encC (k, e.k.2.1, t) from rfl, BK_ChE]
    have hO7 := owns_mod (owns_mod hO3 hm4 fun g z y => by have := (owns_bd hO3 g z).1; omega) hm47 fun _ _ => id
    have hmap : (vs ++ [e]).map (·.b) = vs.map (·.b) ++ [e.b] := by simp
    have hz47 := hm47.size
    have hkn := key_ne h.inv.rk hvs he hne
    have hvd' : (vs ++ [e]).Pairwise fun a b => a.k ≠ b.k := by
      rw [List.pairwise_append]
      exact ⟨hvd, by simp, fun a ha b hb => by rw [List.mem_singleton.1 hb]; exact hkn a ha⟩
    have hvs' : ∀ x ∈ vs ++ [e], x ∈ V.er := fun x hx => by
      rcases List.mem_append.1 hx with z | z
      · exact hvs x z
      · rw [List.mem_singleton.1 z]; exact he
    have hoa : outE l k t (vs ++ [e]) = outE l k t vs ++ (if toldE l k t e then [e.k.2.1] else []) := by
      unfold outE
      rw [List.filter_append, List.map_append]
      congr 1
      by_cases q : toldE l k t e = true <;> simp [q]
    have hlen' : (outE l k t (vs ++ [e])).length ≤ l.length := by
      have h2 := (outE_nodup (l := l) (k := k) (t := t) hvd').length_le_of_subset (l₂ := l.map fun m => m.frm) fun x hx => ?_
      · rwa [List.length_map] at h2
      · unfold outE at hx
        obtain ⟨e', he', rfl⟩ := List.mem_map.1 hx
        obtain ⟨_, m', hm', hc', _⟩ := toldE_iff.1 (List.mem_filter.1 he').2
        exact List.mem_map.2 ⟨m', hm', by rw [← hc']; rfl⟩
    have hm27 : Mod (fun b => w1.heap.size ≤ b) w2 w7 := (hm23.trans (hm4.mono fun b _ z => by omega)).trans (hm47.mono fun _ _ z => z.elim)
    have fin : ∀ (ρ' : Sl) (w' : World) (o' : Value), ρ' 17 = .pointer (some ⟨w1.heap.size, 0, none⟩) → ρ' 7 = o' → ρ' 1 = strV k → ρ' 2 = .int .i64 t → IterAt w' w1.heap.size V.rb V.c1 (vs.map (·.b) ++ [e.b]) V.c1 → w'.ownsRow w2.heap.size tI 1 o' (outE l k t (vs ++ [e])).length (ints (outE l k t (vs ++ [e]))) → Mod (fun b => w1.heap.size ≤ b) w2 w' → Mod none_ w1 w' →
        ∃ m', m' < m ∧ ∃ (vs : List (Ent Ch)) (o : Value), m' = togo V.er (vs.map (·.b)) ∧ (∀ e ∈ vs, e ∈ V.er) ∧ vs.Pairwise (fun a b => a.k ≠ b.k) ∧ ρ' 17 = .pointer (some ⟨w1.heap.size, 0, none⟩) ∧ ρ' 7 = o ∧ ρ' 1 = strV k ∧ ρ' 2 = .int .i64 t ∧ IterAt w' w1.heap.size V.rb V.c1 (vs.map (·.b)) V.c1 ∧ w'.ownsRow w2.heap.size tI 1 o (outE l k t vs).length (ints (outE l k t vs)) ∧ (outE l k t vs).length ≤ l.length ∧ Mod (fun b => w1.heap.size ≤ b) w2 w' ∧ Mod none_ w1 w' := by
      intro ρ' w' o' a17 a7 a1 a2 hi' ho' hm2' hm1'
      exact ⟨togo V.er ((vs ++ [e]).map (·.b)), by rw [hmv, hmap]; exact togo_lt he hne, vs ++ [e], o', rfl, hvs', hvd', a17, a7, a1, a2, by rw [hmap]; exact hi', ho', hlen', hm2', hm1'⟩
    have hit7 := hit4.mod hm47 id
    have key : ∀ (ρ' : Sl) (K : Exit → Sl → World → Prop) (q : Bool), ρ' 7 = o → True := fun _ _ _ _ => trivial
    by_cases c1 : e.k = (k, e.k.2.1, t)
    · rw [decide_eq_true c1]
      simp only [↓VG_u, ↓UG_u, ↓MG_u, ↓NG_u, ↓PG_u, ↓BG_u, ↓CG_u, ↓IG_u, ↓VGtt, ↓VGtf, ↓VGft, ↓VGff, ↓UGtt, ↓UGtf, ↓UGft, ↓UGff, ↓MGtt, ↓MGtf, ↓MGft, ↓MGff, ↓NGtt, ↓NGtf, ↓NGft, ↓NGff, ↓PGtt, ↓PGtf, ↓PGft, ↓PGff, ↓BGtt, ↓BGtf, ↓BGft, ↓BGff, ↓CGtt, ↓CGtf, ↓CGft, ↓CGff, ↓IGtt, ↓IGtf, ↓IGft, ↓IGff, ↓PKt, ↓PKf, ↓CDt, ↓CDf, ↓NOTt, ↓NOTf, ↓NK_ptr]
      cases c2 : (rowOf l e.k).any nt with
      | true =>
        simp only [↓VG_u, ↓UG_u, ↓MG_u, ↓NG_u, ↓PG_u, ↓BG_u, ↓CG_u, ↓IG_u, ↓VGtt, ↓VGtf, ↓VGft, ↓VGff, ↓UGtt, ↓UGtf, ↓UGft, ↓UGff, ↓MGtt, ↓MGtf, ↓MGft, ↓MGff, ↓NGtt, ↓NGtf, ↓NGft, ↓NGff, ↓PGtt, ↓PGtf, ↓PGft, ↓PGff, ↓BGtt, ↓BGtf, ↓BGft, ↓BGff, ↓CGtt, ↓CGtf, ↓CGft, ↓CGff, ↓IGtt, ↓IGtf, ↓IGft, ↓IGff, ↓PKt, ↓PKf, ↓CDt, ↓CDf, ↓NOTt, ↓NOTf, ↓NK_ptr]
        rw [g1.e, e7]
        have htold : toldE l k t e = true := by unfold toldE; rw [decide_eq_true c1, c2]; rfl
        have hsz2 := hm2.size
        refine appI hO7 (Nat.le_trans hm27.size (Nat.le_refl _)) (by omega) fun _ o' w8 hO8 hm8 => ?_
        rw [htold, if_pos rfl] at hoa
        rw [← hoa] at hO8
        rw [sq_n]
        refine fin _ w8 o' (by first | exact e17 | rfl) rfl (by first | exact e1 | rfl) (by first | exact e2 | rfl) (hit7.mod hm8 (by omega)) hO8 (hm27.trans (hm8.mono fun b _ z => by omega)) ((hm14.trans hm47).then hm8 fun i hi z => by omega)
      | false =>
        simp only [↓VG_u, ↓UG_u, ↓MG_u, ↓NG_u, ↓PG_u, ↓BG_u, ↓CG_u, ↓IG_u, ↓VGtt, ↓VGtf, ↓VGft, ↓VGff, ↓UGtt, ↓UGtf, ↓UGft, ↓UGff, ↓MGtt, ↓MGtf, ↓MGft, ↓MGff, ↓NGtt, ↓NGtf, ↓NGft, ↓NGff, ↓PGtt, ↓PGtf, ↓PGft, ↓PGff, ↓BGtt, ↓BGtf, ↓BGft, ↓BGff, ↓CGtt, ↓CGtf, ↓CGft, ↓CGff, ↓IGtt, ↓IGtf, ↓IGft, ↓IGff, ↓PKt, ↓PKf, ↓CDt, ↓CDf, ↓NOTt, ↓NOTf, ↓NK_ptr]
        have htold : toldE l k t e = false := by unfold toldE; rw [decide_eq_true c1, c2]; rfl
        rw [htold] at hoa
        simp only [Bool.false_eq_true, if_false, List.append_nil] at hoa
        rw [← hoa] at hO7
        rw [sq_n]
        exact fin _ w7 o (by first | exact e17 | rfl) (by first | exact e7 | rfl) (by first | exact e1 | rfl) (by first | exact e2 | rfl) hit7 hO7 hm27 (hm14.trans hm47)
    · rw [decide_eq_false c1]
      simp only [↓VG_u, ↓UG_u, ↓MG_u, ↓NG_u, ↓PG_u, ↓BG_u, ↓CG_u, ↓IG_u, ↓VGtt, ↓VGtf, ↓VGft, ↓VGff, ↓UGtt, ↓UGtf, ↓UGft, ↓UGff, ↓MGtt, ↓MGtf, ↓MGft, ↓MGff, ↓NGtt, ↓NGtf, ↓NGft, ↓NGff, ↓PGtt, ↓PGtf, ↓PGft, ↓PGff, ↓BGtt, ↓BGtf, ↓BGft, ↓BGff, ↓CGtt, ↓CGtf, ↓CGft, ↓CGff, ↓IGtt, ↓IGtf, ↓IGft, ↓IGff, ↓PKt, ↓PKf, ↓CDt, ↓CDf, ↓NOTt, ↓NOTf, ↓NK_ptr]
      have htold : toldE l k t e = false := by unfold toldE; rw [decide_eq_false c1]; rfl
      rw [htold] at hoa
      simp only [Bool.false_eq_true, if_false, List.append_nil] at hoa
      rw [← hoa] at hO7
      rw [sq_n]
      exact fin _ w7 o (by first | exact e17 | rfl) (by first | exact e7 | rfl) (by first | exact e1 | rfl) (by first | exact e2 | rfl) hit7 hO7 hm27 (hm14.trans hm47)
end
end Go.Proofs.Ytmnkedgmpbcicaa.Que
set_option linter.unusedVariables false
set_option linter.unusedSimpArgs false
set_option maxRecDepth 4000
namespace Go.Proofs.Ytmnkedgmpbcicaa.Que
open Go Go.X Go.RowKit Go.Proofs.Ytmnkedgmpbcicaa.XF Go.Proofs.Ytmnkedgmpbcicaa.XK
def upto (l : List Ms) (k : List UInt8) (t : Int) (n : Nat) : List Int := ((List.range n).map fun n : Nat => (n : Int)).filter (sentBy l k t)
theorem upto_len (l : List Ms) (k : List UInt8) (t : Int) (n : Nat) : (upto l k t n).length ≤ n := by
  unfold upto
  exact Nat.le_trans (List.length_filter_le _ _) (by simp)
section
variable {w : World} {p : Nat} {l : List Ms} {V : Value}
end
theorem ixI {w : World} {v : Value} {l : List Int} {B i : Nat} {m : Int} (h : w.ownsRow B tI 1 v l.length (ints l)) (hi : l[i]? = some m) : ∃ a, (∀ w', (Instr.indexAt tIs v (.int .i64 (i : Int))).run Try.prog w' = .ok (.pointer (some a)) w') ∧ ∀ w', Mod none_ w w' → (Instr.loadAt tI (.pointer (some a))).run Try.prog w' = .ok (.int .i64 m) w' := by
  have hil := (List.getElem?_eq_some_iff.1 hi).1
  have hr := reads_of_owns h
  obtain ⟨g, cap, ev, _⟩ := owns_some h (by omega)
  subst ev
  refine ⟨⟨g, i, none⟩, fun w' => ?_, fun w' hw => ?_⟩
  · rw [run_ixa (sz := 0) vIs (by kernel_rfl) (by omega) (by omega) w', add_pl]
    congr 4
    omega
  · have hr' := reads_mod hr hw (fun _ _ _ => id)
    obtain ⟨_, A, c, es, _, hc⟩ := hr'
    cases es
    obtain ⟨a, ha, hcell⟩ := hc i _ (ints_get hi)
    cases ha
    rw [add_pl, Nat.zero_add] at hcell
    exact run_ld1 vI rfl hcell
end Go.Proofs.Ytmnkedgmpbcicaa.Que
set_option linter.unusedVariables false
set_option linter.unusedSimpArgs false
set_option maxRecDepth 4000
namespace Go.X
open Go Go.RowKit
structure Ac where
  kind : Int
  m : Ms
def Ac.enc (a : Ac) : List Value := .int .u8 a.kind :: a.m.enc
theorem Ac.enc_len (a : Ac) : a.enc.length = 8 + 1 := rfl
def Acts (w : World) (v : Value) (l : List Ac) : Prop := reads w (8 + 1) v l.length (l.flatMap Ac.enc)
structure PQ (w0 w : World) (p q : Nat) (l m : List Ms) (V : QV) (D : Value) : Prop where
  qa : QAt w p l V
  da : DAt w q m D
  dj : ∀ b, V.F p b → ¬ DF q D b
  fr : ∀ b, V.F p b → w0.heap.size ≤ b
  fd : ∀ b, DF q D b → w0.heap.size ≤ b
  mod : Mod none_ w0 w
theorem PQ.move {w0 w w1 : World} {p q : Nat} {l m : List Ms} {V : QV} {D : Value} {S : Nat → Prop} (h : PQ w0 w p q l m V D) (hm : Mod S w w1) (hS : ∀ b, S b → ¬ V.F p b ∧ ¬ DF q D b ∧ w0.heap.size ≤ b) : PQ w0 w1 p q l m V D :=
  ⟨h.qa.mod hm fun b z y => (hS b y).1 z, h.da.mod hm fun b z y => (hS b y).2.1 z, h.dj, h.fr, h.fd, h.mod.then hm fun i hi z => by have := (hS i z).2.2; omega⟩
theorem PQ.calm {w0 w w1 : World} {p q : Nat} {l m : List Ms} {V : QV} {D : Value} (h : PQ w0 w p q l m V D) (hm : Mod none_ w w1) : PQ w0 w1 p q l m V D := h.move hm fun _ z => z.elim
theorem PQ.q {w0 w w1 : World} {p q : Nat} {l m l' : List Ms} {V V1 : QV} {D : Value} (h : PQ w0 w p q l m V D) (h1 : QAt w1 p l' V1) (f : QFr p w V w1 V1) : PQ w0 w1 p q l' m V1 D := by
  have hs := h.mod.size
  refine ⟨h1, h.da.mod f.mod fun b z y => h.dj b y z, fun b z y => ?_, fun b z => ?_, h.fd, h.mod.then f.mod fun i hi z => by have := h.fr i z; omega⟩
  · rcases f.f b z with u | u
    · exact h.dj b u y
    · have := h.da.old b y; omega
  · rcases f.f b z with u | u
    · exact h.fr b u
    · omega
theorem PQ.d {w0 w w1 : World} {p q : Nat} {l m m' : List Ms} {V : QV} {D D1 : Value} (h : PQ w0 w p q l m V D) (h1 : DAt w1 q m' D1) (f : DFr q w D w1 D1) : PQ w0 w1 p q l m' V D1 := by
  have hs := h.mod.size
  refine ⟨h.qa.mod f.mod fun b z y => h.dj b z y, h1, fun b z y => ?_, h.fr, fun b z => ?_, h.mod.then f.mod fun i hi z => by have := h.fd i z; omega⟩
  · rcases f.f b y with u | u
    · exact h.dj b z u
    · have := h.qa.old b z; omega
  · rcases f.f b z with u | u
    · exact h.fd b u
    · omega
theorem sendV_len (l : List Ms) (m : Ms) : (sendV l m).1.length ≤ l.length + 1 := by
  unfold sendV
  split <;> simp
theorem takeV_len (l : List Ms) (f c : Int) : (takeV l f c).1.length = l.length := by
  unfold takeV
  split
  · rfl
  · split <;> simp
end Go.X
namespace Go.Proofs.Ytmnkedgmpbcicaa.Que
open Go Go.X Go.RowKit Go.Proofs.Ytmnkedgmpbcicaa.XF Go.Proofs.Ytmnkedgmpbcicaa.XK
theorem Acts.calm {w w' : World} {s : Value} {l : List Ac} (h : Acts w s l) (hm : Mod none_ w w') : Acts w' s l := reads_mod h hm fun _ _ _ => id
end Go.Proofs.Ytmnkedgmpbcicaa.Que
set_option linter.unusedVariables false
set_option linter.unusedSimpArgs false
set_option maxRecDepth 8000
namespace Go.X
open Go Go.RowKit
end Go.X
namespace Go.Proofs.Ytmnkedgmpbcicaa.Que
open Go Go.X Go.RowKit Go.Proofs.Ytmnkedgmpbcicaa.XF Go.Proofs.Ytmnkedgmpbcicaa.XK
section
variable {w : World} {p : Nat} {V : QV}
theorem slot_k {K : Value → World → Prop} {m : Ms} (hk : ∀ w', w'.heap[w.heap.size]? = some (.cells m.enc.toArray tMs (0, 0)) → Mod none_ w w' → w'.heap.size = w.heap.size + 1 → K (.pointer (some ⟨w.heap.size, 0, none⟩)) w') : VK Try.prog (Instr.alloc tMs true (.tuple #[])) w fun x w => UK Try.prog (Instr.storeAt tMs x (.agg m.enc.toArray)) w fun _ w => K x w := by
  refine al_k (cs := zMs.enc.toArray) zMs_z rfl _ fun w1 hb1 hm1 hz1 => ?_
  refine stS (cs := m.enc.toArray) (old := zMs.enc.toArray) rfl rfl (by rw [iMs]; rfl) rfl (Ms.enc_one _) hb1 fun w2 hb2 hm2 hz2 => ?_
  exact hk w2 hb2 (hm1.fresh hm2 (Nat.le_refl _)) (by omega)
end
end Go.Proofs.Ytmnkedgmpbcicaa.Que
set_option linter.unusedVariables false
set_option linter.unusedSimpArgs false
set_option maxRecDepth 8000
namespace Go.X
open Go Go.RowKit
end Go.X
namespace Go.Proofs.Ytmnkedgmpbcicaa.Que
open Go Go.X Go.RowKit Go.Proofs.Ytmnkedgmpbcicaa.XF Go.Proofs.Ytmnkedgmpbcicaa.XK
section
variable {w w0 : World} {p : Nat} {V : QV}
theorem QFr.none {w' : World} {V' : QV} (h : QFr p w V w' V') (h0 : Mod none_ w0 w) (hF : ∀ b, V.F p b → w0.heap.size ≤ b) : Mod none_ w0 w' ∧ ∀ b, V'.F p b → w0.heap.size ≤ b := by
  have hs := h0.size
  refine ⟨h0.then h.mod fun i hi z => by have := hF i z; omega, fun b z => ?_⟩
  rcases h.f b z with y | y
  · exact hF b y
  · omega
theorem msb_get (o : Option Ms) : msb o = .tuple #[.agg (o.getD zMs).enc.toArray, .bool o.isSome] := by cases o <;> rfl
end
end Go.Proofs.Ytmnkedgmpbcicaa.Que
namespace Go.X
open Go Go.RowKit
theorem send_cases (l : List Ms) (m : Ms) : sendV l m = (l, 2) ∨ sendV l m = (l ++ [m], 0) ∧ m.taken = false := by
  unfold sendV
  split
  · exact .inl rfl
  · rename_i hb
    refine .inr ⟨rfl, ?_⟩
    cases ht : m.taken with
    | false => rfl
    | true => simp [badM, ht] at hb
end Go.X
set_option linter.unusedVariables false
namespace Go.X
open Go
theorem sxh_append (P : Program) (S : World → Prop) (ops : Array Oper) (K : Sl → World → Prop) : ∀ (l r : List (Nat × Bool)), sxh P S ops K (l ++ r) = sxh P S ops (sxh P S ops K r) l
  | [], r => by funext ρ w; rfl
  | (i, t) :: l, r => by
    funext ρ w
    show sxh P S ops K ((i, t) :: (l ++ r)) ρ w = _
    unfold sxh
    rw [sxh_append P S ops K l r]
end Go.X
set_option linter.unusedVariables false
set_option maxRecDepth 100000
namespace Go.Proofs.Ytmnkedgmpbcicaa.XG
open Go Go.X
noncomputable def dispatcherlaw14_PostedGrows_b : Code := (Try.f5.body).getD .skip
noncomputable def dispatcherlaw14_PostedGrows_R0 : Code := cAt [1, 1, 1, 1, 1, 1] dispatcherlaw14_PostedGrows_b
noncomputable def dispatcherlaw14_PostedGrows_L1 : Code := cAt [1, 1, 1, 1, 1, 1, 1, 0, 1, 0, 0] dispatcherlaw14_PostedGrows_b
noncomputable def dispatcherlaw14_PostedGrows_R2 : Code := cAt [1, 1, 1, 1, 1, 1, 1, 1] dispatcherlaw14_PostedGrows_b
noncomputable def dispatcherlaw14_PostedGrows_L3 : Code := cAt [1, 1, 1, 1, 1, 1, 1, 1, 0, 1, 0, 0] dispatcherlaw14_PostedGrows_b
noncomputable def dispatcherlaw14_PostedGrows_R4 : Code := cAt [1, 1, 1, 1, 1, 1, 1, 1, 1] dispatcherlaw14_PostedGrows_b
noncomputable def dispatcherlaw14_PostedGrows_L5 : Code := cAt [1, 1, 1, 1, 1, 1, 1, 1, 0, 1, 0, 0, 1, 0, 0, 1, 1, 0, 0] dispatcherlaw14_PostedGrows_b
noncomputable def dispatcherlaw14_PostedGrows_R6 : Code := cAt [1, 1, 1, 1, 1, 1, 1, 1, 0, 1, 0, 0, 1, 1] dispatcherlaw14_PostedGrows_b
noncomputable def dispatcherlaw14_PostedGrows_R7 : Code := cAt [1, 1, 1, 1, 1, 1, 1, 1, 0, 1, 0, 0, 1, 0, 0, 1, 1, 0, 0, 1, 1] dispatcherlaw14_PostedGrows_b
noncomputable def dispatcherlaw14_PostedGrows_R8 : Code := cAt [1, 1, 1, 1, 1, 1, 1, 1, 0, 1, 0, 0, 1, 0, 0, 1, 1, 0, 0, 1, 0, 0, 1, 1, 1, 1] dispatcherlaw14_PostedGrows_b
noncomputable def dispatcherlaw14_PostedGrows_R0_F (z : At) (K : Exit → Sl → World → Prop) (ρ : Sl) (w : World) : Prop :=
  W z Try.prog 112 (Code.loop dispatcherlaw14_PostedGrows_L1) (blkK 0 (seqK (sx z Try.prog 112 dispatcherlaw14_PostedGrows_R2 K) K)) (up (up ρ 11 (Value.slice none 0 0)) 12 (Value.int .i64 0)) w
theorem dispatcherlaw14_PostedGrows_R0_eq (z : At) (K : Exit → Sl → World → Prop) (ρ : Sl) (w : World) : sx z Try.prog 112 dispatcherlaw14_PostedGrows_R0 K ρ w = dispatcherlaw14_PostedGrows_R0_F z K ρ w := by kernel_rfl
noncomputable def dispatcherlaw14_PostedGrows_L1_F (z : At) (K : Exit → Sl → World → Prop) (ρ : Sl) (w : World) : Prop :=
  IK Try.prog .len #[41] 3 [false] [(ρ 10)] w fun x39 w => BK Try.prog .lss 3 (.tmp 37) (.tmp 39) (ρ 12) x39 w fun x40 w => CondK x40 (VK Try.prog (Instr.indexAt 41 (ρ 10) (ρ 12)) w fun x49 w => VK Try.prog (Instr.fieldAt 24 x49 2) w fun x50 w => VK Try.prog (Instr.loadAt 3 x50) w fun x51 w => CK Try.prog (Value.func (Fn.func 16) #[] #[]) [(ρ 8), (ρ 7), (ρ 9), x51] w fun x52 w => VK Try.prog (Instr.buildSlice 45 1 [(0, x52)].toArray) w fun x53 w => IK Try.prog .append #[45, 45] 45 [false, false] [(ρ 11), x53] w fun x54 w => BK Try.prog .add 3 (.tmp 41) (.const (Value.int .i64 1)) (ρ 12) (Value.int .i64 1) w fun x42 w => K .normal (up (up (up (up (up (up (up (up (up (up (up (up (up (up (up (up (up (up (up (up ρ 37 (ρ 12)) 38 (ρ 10)) 39 x39) 40 x40) 43 (ρ 11)) 44 (ρ 8)) 45 (ρ 7)) 46 (ρ 9)) 47 (ρ 10)) 48 (ρ 12)) 49 x49) 50 x50) 51 x51) 52 x52) 53 x53) 54 x54) 11 x54) 41 (ρ 12)) 42 x42) 12 x42) w) (K (.exit 0) (up (up (up (up ρ 37 (ρ 12)) 38 (ρ 10)) 39 x39) 40 x40) w)
theorem dispatcherlaw14_PostedGrows_L1_eq (z : At) (K : Exit → Sl → World → Prop) (ρ : Sl) (w : World) : sx z Try.prog 112 dispatcherlaw14_PostedGrows_L1 K ρ w = dispatcherlaw14_PostedGrows_L1_F z K ρ w := by kernel_rfl
theorem dispatcherlaw14_PostedGrows_L1_ok : dstOk 112 dispatcherlaw14_PostedGrows_L1 = true := by kernel_rfl
noncomputable def dispatcherlaw14_PostedGrows_R2_F (z : At) (K : Exit → Sl → World → Prop) (ρ : Sl) (w : World) : Prop :=
  W z Try.prog 112 (Code.loop dispatcherlaw14_PostedGrows_L3) (blkK 2 (seqK (sx z Try.prog 112 dispatcherlaw14_PostedGrows_R4 K) K)) (up ρ 13 (Value.int .i64 0)) w
theorem dispatcherlaw14_PostedGrows_R2_eq (z : At) (K : Exit → Sl → World → Prop) (ρ : Sl) (w : World) : sx z Try.prog 112 dispatcherlaw14_PostedGrows_R2 K ρ w = dispatcherlaw14_PostedGrows_R2_F z K ρ w := by kernel_rfl
noncomputable def dispatcherlaw14_PostedGrows_L3_F (z : At) (K : Exit → Sl → World → Prop) (ρ : Sl) (w : World) : Prop :=
  IK Try.prog .len #[22] 3 [false] [(ρ 1)] w fun x57 w => BK Try.prog .lss 3 (.tmp 55) (.tmp 57) (ρ 13) x57 w fun x58 w => CondK x58 (VK Try.prog (Instr.indexAt 22 (ρ 1) (ρ 13)) w fun x65 w => VK Try.prog (Instr.loadAt 48 x65) w fun x66 w => CK Try.prog (Value.func (Fn.func 20) #[] #[]) [(ρ 7), (ρ 8), x66] w fun x67 w => W z Try.prog 112 (Code.loop dispatcherlaw14_PostedGrows_L5) (blkK 4 (blkK 3 (seqK (sx z Try.prog 112 dispatcherlaw14_PostedGrows_R6 K) K))) (up (up (up (up (up (up (up (up (up (up (up (up ρ 55 (ρ 13)) 56 (ρ 1)) 57 x57) 58 x58) 61 (ρ 7)) 62 (ρ 8)) 63 (ρ 1)) 64 (ρ 13)) 65 x65) 66 x66) 67 x67) 14 (Value.int .i64 0)) w) (K (.exit 2) (up (up (up (up ρ 55 (ρ 13)) 56 (ρ 1)) 57 x57) 58 x58) w)
theorem dispatcherlaw14_PostedGrows_L3_eq (z : At) (K : Exit → Sl → World → Prop) (ρ : Sl) (w : World) : sx z Try.prog 112 dispatcherlaw14_PostedGrows_L3 K ρ w = dispatcherlaw14_PostedGrows_L3_F z K ρ w := by kernel_rfl
theorem dispatcherlaw14_PostedGrows_L3_ok : dstOk 112 dispatcherlaw14_PostedGrows_L3 = true := by kernel_rfl
noncomputable def dispatcherlaw14_PostedGrows_R4_F (z : At) (K : Exit → Sl → World → Prop) (ρ : Sl) (w : World) : Prop :=
  K .ret (up ρ 6 (Value.bool true)) w
theorem dispatcherlaw14_PostedGrows_R4_eq (z : At) (K : Exit → Sl → World → Prop) (ρ : Sl) (w : World) : sx z Try.prog 112 dispatcherlaw14_PostedGrows_R4 K ρ w = dispatcherlaw14_PostedGrows_R4_F z K ρ w := by kernel_rfl
noncomputable def dispatcherlaw14_PostedGrows_L5_F (z : At) (K : Exit → Sl → World → Prop) (ρ : Sl) (w : World) : Prop :=
  IK Try.prog .len #[41] 3 [false] [(ρ 10)] w fun x70 w => BK Try.prog .lss 3 (.tmp 68) (.tmp 70) (ρ 14) x70 w fun x71 w => CondK x71 (VK Try.prog (Instr.indexAt 41 (ρ 10) (ρ 14)) w fun x79 w => VK Try.prog (Instr.fieldAt 24 x79 2) w fun x80 w => VK Try.prog (Instr.loadAt 3 x80) w fun x81 w => CK Try.prog (Value.func (Fn.func 21) #[] #[]) [(ρ 8), (ρ 9), x81] w fun x82 w => VK Try.prog (Instr.extract x82 0) w fun x83 w => VK Try.prog (Instr.extract x82 1) w fun x84 w => VK Try.prog (Instr.alloc 24 true (.tuple #[])) w fun x15 w => UK Try.prog (Instr.storeAt 24 x15 x83) w fun _ w => VK Try.prog (Op.unary UnOp.not x84) w fun x86 w => CondK x86 (K .ret (up (up (up (up (up (up (up (up (up (up (up (up (up (up (up (up (up (up (up (up ρ 68 (ρ 14)) 69 (ρ 10)) 70 x70) 71 x71) 75 (ρ 8)) 76 (ρ 9)) 77 (ρ 10)) 78 (ρ 14)) 79 x79) 80 x80) 81 x81) 82 x82) 74 x82) 83 x83) 84 x84) 15 x15) 16 x84) 85 x84) 86 x86) 6 (Value.bool false)) w) (VK Try.prog (Instr.fieldAt 24 x15 6) w fun x87 w => VK Try.prog (Instr.loadAt 4 x87) w fun x88 w => CondK x88 (VK Try.prog (Instr.indexAt 45 (ρ 11) (ρ 14)) w fun x91 w => UK Try.prog (Instr.storeAt 31 x91 (Value.slice none 0 0)) w fun _ w => sx z Try.prog 112 dispatcherlaw14_PostedGrows_R7 K (up (up (up (up (up (up (up (up (up (up (up (up (up (up (up (up (up (up (up (up (up (up (up (up ρ 68 (ρ 14)) 69 (ρ 10)) 70 x70) 71 x71) 75 (ρ 8)) 76 (ρ 9)) 77 (ρ 10)) 78 (ρ 14)) 79 x79) 80 x80) 81 x81) 82 x82) 74 x82) 83 x83) 84 x84) 15 x15) 16 x84) 85 x84) 86 x86) 87 x87) 88 x88) 89 (ρ 11)) 90 (ρ 14)) 91 x91) w) (VK Try.prog (Instr.indexAt 41 (ρ 10) (ρ 14)) w fun x97 w => VK Try.prog (Instr.fieldAt 24 x97 2) w fun x98 w => VK Try.prog (Instr.loadAt 3 x98) w fun x99 w => CK Try.prog (Value.func (Fn.func 16) #[] #[]) [(ρ 8), (ρ 7), (ρ 9), x99] w fun x100 w => sx z Try.prog 112 dispatcherlaw14_PostedGrows_R8 (blkK 5 (seqK (sx z Try.prog 112 dispatcherlaw14_PostedGrows_R7 K) K)) (up (up (up (up (up (up (up (up (up (up (up (up (up (up (up (up (up (up (up (up (up (up (up (up (up (up (up (up (up (up (up ρ 68 (ρ 14)) 69 (ρ 10)) 70 x70) 71 x71) 75 (ρ 8)) 76 (ρ 9)) 77 (ρ 10)) 78 (ρ 14)) 79 x79) 80 x80) 81 x81) 82 x82) 74 x82) 83 x83) 84 x84) 15 x15) 16 x84) 85 x84) 86 x86) 87 x87) 88 x88) 92 (ρ 8)) 93 (ρ 7)) 94 (ρ 9)) 95 (ρ 10)) 96 (ρ 14)) 97 x97) 98 x98) 99 x99) 100 x100) 17 x100) w))) (K (.exit 4) (up (up (up (up ρ 68 (ρ 14)) 69 (ρ 10)) 70 x70) 71 x71) w)
theorem dispatcherlaw14_PostedGrows_L5_eq (z : At) (K : Exit → Sl → World → Prop) (ρ : Sl) (w : World) : sx z Try.prog 112 dispatcherlaw14_PostedGrows_L5 K ρ w = dispatcherlaw14_PostedGrows_L5_F z K ρ w := by kernel_rfl
theorem dispatcherlaw14_PostedGrows_L5_ok : dstOk 112 dispatcherlaw14_PostedGrows_L5 = true := by kernel_rfl
noncomputable def dispatcherlaw14_PostedGrows_R6_F (z : At) (K : Exit → Sl → World → Prop) (ρ : Sl) (w : World) : Prop :=
  BK Try.prog .add 3 (.tmp 59) (.const (Value.int .i64 1)) (ρ 13) (Value.int .i64 1) w fun x60 w => K .normal (up (up (up ρ 59 (ρ 13)) 60 x60) 13 x60) w
theorem dispatcherlaw14_PostedGrows_R6_eq (z : At) (K : Exit → Sl → World → Prop) (ρ : Sl) (w : World) : sx z Try.prog 112 dispatcherlaw14_PostedGrows_R6 K ρ w = dispatcherlaw14_PostedGrows_R6_F z K ρ w := by kernel_rfl
noncomputable def dispatcherlaw14_PostedGrows_R7_F (z : At) (K : Exit → Sl → World → Prop) (ρ : Sl) (w : World) : Prop :=
  BK Try.prog .add 3 (.tmp 72) (.const (Value.int .i64 1)) (ρ 14) (Value.int .i64 1) w fun x73 w => K .normal (up (up (up ρ 72 (ρ 14)) 73 x73) 14 x73) w
theorem dispatcherlaw14_PostedGrows_R7_eq (z : At) (K : Exit → Sl → World → Prop) (ρ : Sl) (w : World) : sx z Try.prog 112 dispatcherlaw14_PostedGrows_R7 K ρ w = dispatcherlaw14_PostedGrows_R7_F z K ρ w := by kernel_rfl
noncomputable def dispatcherlaw14_PostedGrows_R8_F (z : At) (K : Exit → Sl → World → Prop) (ρ : Sl) (w : World) : Prop :=
  VK Try.prog (Instr.indexAt 45 (ρ 11) (ρ 14)) w fun x103 w => VK Try.prog (Instr.loadAt 31 x103) w fun x104 w => CK Try.prog (Value.func (Fn.func 22) #[] #[]) [x104, (ρ 17)] w fun x106 w => VK Try.prog (Op.unary UnOp.not x106) w fun x107 w => CondK x107 (K .ret (up (up (up (up (up (up (up (up ρ 101 (ρ 11)) 102 (ρ 14)) 103 x103) 104 x104) 105 (ρ 17)) 106 x106) 107 x107) 6 (Value.bool false)) w) (VK Try.prog (Instr.indexAt 45 (ρ 11) (ρ 14)) w fun x111 w => UK Try.prog (Instr.storeAt 31 x111 (ρ 17)) w fun _ w => K .normal (up (up (up (up (up (up (up (up (up (up (up ρ 101 (ρ 11)) 102 (ρ 14)) 103 x103) 104 x104) 105 (ρ 17)) 106 x106) 107 x107) 108 (ρ 11)) 109 (ρ 14)) 110 (ρ 17)) 111 x111) w)
theorem dispatcherlaw14_PostedGrows_R8_eq (z : At) (K : Exit → Sl → World → Prop) (ρ : Sl) (w : World) : sx z Try.prog 112 dispatcherlaw14_PostedGrows_R8 K ρ w = dispatcherlaw14_PostedGrows_R8_F z K ρ w := by kernel_rfl
noncomputable def dispatcherlaw14_PostedGrows_F (a0 a1 a2 : Value) (w : World) (R : Value → World → Prop) : Prop :=
  CK Try.prog (Value.func (Fn.func 10) #[] #[]) [] w fun x18 w => VK Try.prog (Op.unary UnOp.not x18) w fun x19 w => CondK x19 (R (Value.bool false) w) (CK Try.prog (Value.func (Fn.func 11) #[] #[]) [a0] w fun x21 w => MG Try.prog x21 false a1 w fun x23 w => CG Try.prog x21 false (Value.func (Fn.func 11) #[] #[]) [x23] w fun x24 w => PK Try.prog x21 (Value.bool true) x24 w fun x25 w => CondK x25 (R (Value.bool true) w) (CK Try.prog (Value.func (Fn.func 12) #[] #[]) [a0] w fun x28 w => VK Try.prog (Instr.extract x28 0) w fun x29 w => VK Try.prog (Instr.extract x28 1) w fun x30 w => BK Try.prog .rem 5 (.tmp 31) (.const (Value.int .u8 64)) a2 (Value.int .u8 64) w fun x32 w => VK Try.prog (convert 5 3 x32) w fun x33 w => CK Try.prog (Value.func (Fn.func 18) #[] #[]) [x30, x33] w fun x36 w => sx fn_ Try.prog 112 dispatcherlaw14_PostedGrows_R0 (retK Try.prog [ResultVar.tmp 6] R) (up (up (up (up (up (up (up (up (up (up (up (up (up (up (up (up (up (up (up (up (up (up (up (up (rho0 [a0, a1, a2]) 6 (Value.bool false)) 18 x18) 19 x19) 20 a0) 21 x21) 22 x21) 23 x23) 24 x24) 25 x25) 27 a0) 28 x28) 26 x28) 29 x29) 30 x30) 7 x29) 8 x30) 31 a2) 32 x32) 33 x33) 9 x33) 34 x30) 35 x33) 36 x36) 10 x36) w))
theorem dispatcherlaw14_PostedGrows_eq (a0 a1 a2 : Value) (w : World) (R : Value → World → Prop) : sx fn_ Try.prog 112 dispatcherlaw14_PostedGrows_b (retK Try.prog Try.f5.results.toList R) (rho0 [a0, a1, a2]) w = dispatcherlaw14_PostedGrows_F a0 a1 a2 w R := by kernel_rfl
theorem dispatcherlaw14_PostedGrows_calls {a0 a1 a2 : Value} {w : World} {R : Value → World → Prop} (h : dispatcherlaw14_PostedGrows_F a0 a1 a2 w R) : Calls Try.prog 5 #[a0, a1, a2] w fun e w' => ∃ v, e = .returned v ∧ R v w' :=
  Go.X.calls_of_sx (n := 112) (c := dispatcherlaw14_PostedGrows_b) Try.func5 (by kernel_rfl) (by kernel_rfl) (Nat.le_of_ble_eq_true rfl) (by kernel_rfl) (Eq.mpr (dispatcherlaw14_PostedGrows_eq a0 a1 a2 w R) h)
noncomputable def dispatcherlaw14_awake_b : Code := (Try.f10.body).getD .skip
noncomputable def dispatcherlaw14_awake_R0 : Code := cAt [1, 1, 0, 1] dispatcherlaw14_awake_b
noncomputable def dispatcherlaw14_awake_R1 : Code := cAt [1, 1, 1] dispatcherlaw14_awake_b
noncomputable def dispatcherlaw14_awake_R2 : Code := cAt [1, 1, 1, 1, 1, 1, 1, 1, 1] dispatcherlaw14_awake_b
noncomputable def dispatcherlaw14_awake_R0_F (z : At) (K : Exit → Sl → World → Prop) (ρ : Sl) (w : World) : Prop :=
  CondK (ρ 34) (K .ret (up ρ 0 (Value.bool false)) w) (K .normal ρ w)
theorem dispatcherlaw14_awake_R0_eq (z : At) (K : Exit → Sl → World → Prop) (ρ : Sl) (w : World) : sx z Try.prog 106 dispatcherlaw14_awake_R0 K ρ w = dispatcherlaw14_awake_R0_F z K ρ w := by kernel_rfl
noncomputable def dispatcherlaw14_awake_R1_F (z : At) (K : Exit → Sl → World → Prop) (ρ : Sl) (w : World) : Prop :=
  CK Try.prog (Value.func (Fn.func 26) #[] #[]) [(Value.int .i64 0), (Value.int .i64 5)] w fun x36 w => CK Try.prog (Value.func (Fn.func 25) #[] #[]) [(ρ 1), x36] w fun x37 w => CK Try.prog (Value.func (Fn.func 26) #[] #[]) [(Value.int .i64 1), (Value.int .i64 6)] w fun x39 w => CK Try.prog (Value.func (Fn.func 25) #[] #[]) [(ρ 1), x39] w fun x40 w => CK Try.prog (Value.func (Fn.func 16) #[] #[]) [(ρ 2), (ρ 1), (Value.int .i64 0), (Value.int .i64 0)] w fun x43 w => CK Try.prog (Value.func (Fn.func 16) #[] #[]) [(ρ 2), (ρ 1), (Value.int .i64 0), (Value.int .i64 1)] w fun x46 w => CK Try.prog (Value.func (Fn.func 27) #[] #[]) [(Value.int .i64 9), (Value.int .i64 1), (Value.int .i64 6)] w fun x49 w => CK Try.prog (Value.func (Fn.func 13) #[] #[]) [(ρ 2), (ρ 1), x49] w fun x50 w => CK Try.prog (Value.func (Fn.func 17) #[] #[]) [(ρ 2), (ρ 1), (Value.int .i64 0), (Value.int .i64 1), (Value.int .i64 1), (Value.int .i64 1)] w fun x53 w => CK Try.prog (Value.func (Fn.func 17) #[] #[]) [(ρ 2), (ρ 1), (Value.int .i64 0), (Value.int .i64 0), (Value.int .i64 1), (Value.int .i64 0)] w fun x56 w => sx z Try.prog 106 dispatcherlaw14_awake_R2 K (up (up (up (up (up (up (up (up (up (up (up (up (up (up (up (up (up (up (up (up (up (up (up (up (up (up (up ρ 35 (ρ 1)) 36 x36) 37 x37) 38 (ρ 1)) 39 x39) 40 x40) 41 (ρ 2)) 42 (ρ 1)) 43 x43) 44 (ρ 2)) 45 (ρ 1)) 46 x46) 3 x43) 4 x46) 47 (ρ 2)) 48 (ρ 1)) 49 x49) 50 x50) 5 x50) 51 (ρ 2)) 52 (ρ 1)) 53 x53) 6 x53) 54 (ρ 2)) 55 (ρ 1)) 56 x56) 7 x56) w
theorem dispatcherlaw14_awake_R1_eq (z : At) (K : Exit → Sl → World → Prop) (ρ : Sl) (w : World) : sx z Try.prog 106 dispatcherlaw14_awake_R1 K ρ w = dispatcherlaw14_awake_R1_F z K ρ w := by kernel_rfl
noncomputable def dispatcherlaw14_awake_R2_F (z : At) (K : Exit → Sl → World → Prop) (ρ : Sl) (w : World) : Prop :=
  CK Try.prog (Value.func (Fn.func 16) #[] #[]) [(ρ 2), (ρ 1), (Value.int .i64 0), (Value.int .i64 1)] w fun x59 w => IK Try.prog .len #[31] 3 [false] [(ρ 3)] w fun x61 w => BK Try.prog .eql 3 (.tmp 61) (.const (Value.int .i64 1)) x61 (Value.int .i64 1) w fun x62 w => MG Try.prog x62 true (ρ 3) w fun x64 w => VG Try.prog x62 true (Instr.indexAt 31 x64 (Value.int .i64 0)) w fun x65 w => VG Try.prog x62 true (Instr.fieldAt 39 x65 3) w fun x66 w => VG Try.prog x62 true (Instr.loadAt 3 x66) w fun x67 w => BG Try.prog x62 true .eql 3 (.tmp 67) (.const (Value.int .i64 0)) x67 (Value.int .i64 0) w fun x68 w => PK Try.prog x62 x68 (Value.bool false) w fun x69 w => MG Try.prog x69 true (ρ 4) w fun x71 w => IG Try.prog x69 true .len #[31] 3 [false] [x71] w fun x72 w => BG Try.prog x69 true .eql 3 (.tmp 72) (.const (Value.int .i64 0)) x72 (Value.int .i64 0) w fun x73 w => PK Try.prog x69 x73 (Value.bool false) w fun x74 w => MG Try.prog x74 true (ρ 5) w fun x76 w => IG Try.prog x74 true .len #[31] 3 [false] [x76] w fun x77 w => BG Try.prog x74 true .eql 3 (.tmp 77) (.const (Value.int .i64 0)) x77 (Value.int .i64 0) w fun x78 w => PK Try.prog x74 x78 (Value.bool false) w fun x79 w => MG Try.prog x79 true (ρ 6) w fun x81 w => BG Try.prog x79 true .eql 33 (.tmp 81) (.const (Value.int .i64 2)) x81 (Value.int .i64 2) w fun x82 w => PK Try.prog x79 x82 (Value.bool false) w fun x83 w => MG Try.prog x83 true (ρ 7) w fun x85 w => BG Try.prog x83 true .eql 33 (.tmp 85) (.const (Value.int .i64 0)) x85 (Value.int .i64 0) w fun x86 w => PK Try.prog x83 x86 (Value.bool false) w fun x87 w => MG Try.prog x87 true x59 w fun x89 w => IG Try.prog x87 true .len #[31] 3 [false] [x89] w fun x90 w => BG Try.prog x87 true .eql 3 (.tmp 90) (.const (Value.int .i64 1)) x90 (Value.int .i64 1) w fun x91 w => PK Try.prog x87 x91 (Value.bool false) w fun x92 w => MG Try.prog x92 true x59 w fun x94 w => VG Try.prog x92 true (Instr.indexAt 31 x94 (Value.int .i64 0)) w fun x95 w => VG Try.prog x92 true (Instr.fieldAt 39 x95 3) w fun x96 w => VG Try.prog x92 true (Instr.loadAt 3 x96) w fun x97 w => BG Try.prog x92 true .eql 3 (.tmp 97) (.const (Value.int .i64 1)) x97 (Value.int .i64 1) w fun x98 w => PK Try.prog x92 x98 (Value.bool false) w fun x99 w => MG Try.prog x99 true (ρ 2) w fun x101 w => CG Try.prog x99 true (Value.func (Fn.func 18) #[] #[]) [x101, (Value.int .i64 0)] w fun x102 w => IG Try.prog x99 true .len #[41] 3 [false] [x102] w fun x103 w => BG Try.prog x99 true .eql 3 (.tmp 103) (.const (Value.int .i64 1)) x103 (Value.int .i64 1) w fun x104 w => PK Try.prog x99 x104 (Value.bool false) w fun x105 w => K .ret (up (up (up (up (up (up (up (up (up (up (up (up (up (up (up (up (up (up (up (up (up (up (up (up (up (up (up (up (up (up (up (up (up (up (up (up (up (up (up (up (up (up (up (up (up (up (up (up (up (up (up ρ 57 (ρ 2)) 58 (ρ 1)) 59 x59) 8 x59) 60 (ρ 3)) 61 x61) 62 x62) 63 x62) 64 x64) 65 x65) 66 x66) 67 x67) 68 x68) 69 x69) 70 x69) 71 x71) 72 x72) 73 x73) 74 x74) 75 x74) 76 x76) 77 x77) 78 x78) 79 x79) 80 x79) 81 x81) 82 x82) 83 x83) 84 x83) 85 x85) 86 x86) 87 x87) 88 x87) 89 x89) 90 x90) 91 x91) 92 x92) 93 x92) 94 x94) 95 x95) 96 x96) 97 x97) 98 x98) 99 x99) 100 x99) 101 x101) 102 x102) 103 x103) 104 x104) 105 x105) 0 x105) w
theorem dispatcherlaw14_awake_R2_eq (z : At) (K : Exit → Sl → World → Prop) (ρ : Sl) (w : World) : sx z Try.prog 106 dispatcherlaw14_awake_R2 K ρ w = dispatcherlaw14_awake_R2_F z K ρ w := by kernel_rfl
noncomputable def dispatcherlaw14_awake_F (w : World) (R : Value → World → Prop) : Prop :=
  CK Try.prog (Value.func (Fn.func 23) #[] #[]) [] w fun x9 w => CK Try.prog (Value.func (Fn.func 24) #[] #[]) [] w fun x10 w => BK Try.prog .eql 27 (.tmp 11) (.const (Value.pointer none)) x9 (Value.pointer none) w fun x12 w => MG Try.prog x12 false x10 w fun x14 w => BG Try.prog x12 false .eql 28 (.tmp 14) (.const (Value.pointer none)) x14 (Value.pointer none) w fun x15 w => PK Try.prog x12 (Value.bool true) x15 w fun x16 w => MG Try.prog x16 false x10 w fun x18 w => CG Try.prog x16 false (Value.func (Fn.func 27) #[] #[]) [(Value.int .i64 0), (Value.int .i64 (-1)), (Value.int .i64 5)] w fun x19 w => CG Try.prog x16 false (Value.func (Fn.func 14) #[] #[]) [x18, x19] w fun x20 w => BG Try.prog x16 false .neq 33 (.tmp 20) (.const (Value.int .i64 0)) x20 (Value.int .i64 0) w fun x21 w => PK Try.prog x16 (Value.bool true) x21 w fun x22 w => MG Try.prog x22 false x10 w fun x24 w => CG Try.prog x22 false (Value.func (Fn.func 27) #[] #[]) [(Value.int .i64 1), (Value.int .i64 1), (Value.int .i64 (-1))] w fun x25 w => CG Try.prog x22 false (Value.func (Fn.func 14) #[] #[]) [x24, x25] w fun x26 w => BG Try.prog x22 false .neq 33 (.tmp 26) (.const (Value.int .i64 0)) x26 (Value.int .i64 0) w fun x27 w => PK Try.prog x22 (Value.bool true) x27 w fun x28 w => MG Try.prog x28 false x10 w fun x30 w => CG Try.prog x28 false (Value.func (Fn.func 27) #[] #[]) [(Value.int .i64 1), (Value.int .i64 1), (Value.int .i64 1)] w fun x31 w => CG Try.prog x28 false (Value.func (Fn.func 14) #[] #[]) [x30, x31] w fun x32 w => BG Try.prog x28 false .neq 33 (.tmp 32) (.const (Value.int .i64 2)) x32 (Value.int .i64 2) w fun x33 w => PK Try.prog x28 (Value.bool true) x33 w fun x34 w => sx fn_ Try.prog 106 dispatcherlaw14_awake_R0 (seqK (sx fn_ Try.prog 106 dispatcherlaw14_awake_R1 (retK Try.prog [ResultVar.tmp 0] R)) (retK Try.prog [ResultVar.tmp 0] R)) (up (up (up (up (up (up (up (up (up (up (up (up (up (up (up (up (up (up (up (up (up (up (up (up (up (up (up (up (up (rho0 []) 0 (Value.bool false)) 9 x9) 10 x10) 1 x9) 2 x10) 11 x9) 12 x12) 13 x12) 14 x14) 15 x15) 16 x16) 17 x16) 18 x18) 19 x19) 20 x20) 21 x21) 22 x22) 23 x22) 24 x24) 25 x25) 26 x26) 27 x27) 28 x28) 29 x28) 30 x30) 31 x31) 32 x32) 33 x33) 34 x34) w
theorem dispatcherlaw14_awake_calls {w : World} {R : Value → World → Prop} (h : dispatcherlaw14_awake_F  w R) : Calls Try.prog 10 #[] w fun e w' => ∃ v, e = .returned v ∧ R v w' :=
  Go.X.calls_eq (n := 106) (c := dispatcherlaw14_awake_b) (fn := Try.f10) (args := #[]) (F := dispatcherlaw14_awake_F  w R) (R := R) Try.func10 (by kernel_rfl) (by kernel_rfl) (Nat.le_of_ble_eq_true rfl) (by kernel_rfl) (by kernel_rfl) h
noncomputable def dispatcherlaw14_Great_b : Code := (Try.f11.body).getD .skip
noncomputable def dispatcherlaw14_Great_L0 : Code := cAt [1, 1, 0, 1, 0, 0] dispatcherlaw14_Great_b
noncomputable def dispatcherlaw14_Great_R1 : Code := cAt [1, 1, 1] dispatcherlaw14_Great_b
noncomputable def dispatcherlaw14_Great_L0_F (z : At) (K : Exit → Sl → World → Prop) (ρ : Sl) (w : World) : Prop :=
  IK Try.prog .len #[22] 3 [false] [(ρ 0)] w fun x9 w => BK Try.prog .lss 3 (.tmp 7) (.tmp 9) (ρ 3) x9 w fun x10 w => CondK x10 (VK Try.prog (Instr.indexAt 22 (ρ 0) (ρ 3)) w fun x15 w => VK Try.prog (Instr.fieldAt 48 x15 1) w fun x16 w => VK Try.prog (Instr.fieldAt 39 x16 0) w fun x17 w => VK Try.prog (Instr.loadAt 9 x17) w fun x18 w => IK Try.prog .len #[9] 3 [false] [x18] w fun x19 w => BK Try.prog .gtr 3 (.tmp 19) (.const (Value.int .i64 100)) x19 (Value.int .i64 100) w fun x20 w => MG Try.prog x20 false (ρ 0) w fun x22 w => MG Try.prog x20 false (ρ 3) w fun x23 w => VG Try.prog x20 false (Instr.indexAt 22 x22 x23) w fun x24 w => VG Try.prog x20 false (Instr.fieldAt 48 x24 2) w fun x25 w => VG Try.prog x20 false (Instr.fieldAt 24 x25 0) w fun x26 w => VG Try.prog x20 false (Instr.loadAt 9 x26) w fun x27 w => IG Try.prog x20 false .len #[9] 3 [false] [x27] w fun x28 w => BG Try.prog x20 false .gtr 3 (.tmp 28) (.const (Value.int .i64 100)) x28 (Value.int .i64 100) w fun x29 w => PK Try.prog x20 (Value.bool true) x29 w fun x30 w => CondK x30 (K .ret (up (up (up (up (up (up (up (up (up (up (up (up (up (up (up (up (up (up (up (up (up (up (up ρ 7 (ρ 3)) 8 (ρ 0)) 9 x9) 10 x10) 13 (ρ 0)) 14 (ρ 3)) 15 x15) 16 x16) 17 x17) 18 x18) 19 x19) 20 x20) 21 x20) 22 x22) 23 x23) 24 x24) 25 x25) 26 x26) 27 x27) 28 x28) 29 x29) 30 x30) 2 (Value.bool true)) w) (BK Try.prog .add 3 (.tmp 11) (.const (Value.int .i64 1)) (ρ 3) (Value.int .i64 1) w fun x12 w => K .normal (up (up (up (up (up (up (up (up (up (up (up (up (up (up (up (up (up (up (up (up (up (up (up (up (up ρ 7 (ρ 3)) 8 (ρ 0)) 9 x9) 10 x10) 13 (ρ 0)) 14 (ρ 3)) 15 x15) 16 x16) 17 x17) 18 x18) 19 x19) 20 x20) 21 x20) 22 x22) 23 x23) 24 x24) 25 x25) 26 x26) 27 x27) 28 x28) 29 x29) 30 x30) 11 (ρ 3)) 12 x12) 3 x12) w)) (K (.exit 0) (up (up (up (up ρ 7 (ρ 3)) 8 (ρ 0)) 9 x9) 10 x10) w)
theorem dispatcherlaw14_Great_L0_eq (z : At) (K : Exit → Sl → World → Prop) (ρ : Sl) (w : World) : sx z Try.prog 31 dispatcherlaw14_Great_L0 K ρ w = dispatcherlaw14_Great_L0_F z K ρ w := by kernel_rfl
theorem dispatcherlaw14_Great_L0_ok : dstOk 31 dispatcherlaw14_Great_L0 = true := by kernel_rfl
noncomputable def dispatcherlaw14_Great_R1_F (z : At) (K : Exit → Sl → World → Prop) (ρ : Sl) (w : World) : Prop :=
  K .ret (up ρ 2 (Value.bool false)) w
theorem dispatcherlaw14_Great_R1_eq (z : At) (K : Exit → Sl → World → Prop) (ρ : Sl) (w : World) : sx z Try.prog 31 dispatcherlaw14_Great_R1 K ρ w = dispatcherlaw14_Great_R1_F z K ρ w := by kernel_rfl
noncomputable def dispatcherlaw14_Great_F (a0 : Value) (w : World) (R : Value → World → Prop) : Prop :=
  IK Try.prog .len #[22] 3 [false] [a0] w fun x5 w => BK Try.prog .gtr 3 (.tmp 5) (.const (Value.int .i64 120)) x5 (Value.int .i64 120) w fun x6 w => CondK x6 (R (Value.bool true) w) (W fn_ Try.prog 31 (Code.loop dispatcherlaw14_Great_L0) (blkK 0 (seqK (sx fn_ Try.prog 31 dispatcherlaw14_Great_R1 (retK Try.prog [ResultVar.tmp 2] R)) (retK Try.prog [ResultVar.tmp 2] R))) (up (up (up (up (up (rho0 [a0]) 2 (Value.bool false)) 4 a0) 5 x5) 6 x6) 3 (Value.int .i64 0)) w)
theorem dispatcherlaw14_Great_eq (a0 : Value) (w : World) (R : Value → World → Prop) : sx fn_ Try.prog 31 dispatcherlaw14_Great_b (retK Try.prog Try.f11.results.toList R) (rho0 [a0]) w = dispatcherlaw14_Great_F a0 w R := by kernel_rfl
theorem dispatcherlaw14_Great_calls {a0 : Value} {w : World} {R : Value → World → Prop} (h : dispatcherlaw14_Great_F a0 w R) : Calls Try.prog 11 #[a0] w fun e w' => ∃ v, e = .returned v ∧ R v w' :=
  Go.X.calls_of_sx (n := 31) (c := dispatcherlaw14_Great_b) Try.func11 (by kernel_rfl) (by kernel_rfl) (Nat.le_of_ble_eq_true rfl) (by kernel_rfl) (Eq.mpr (dispatcherlaw14_Great_eq a0 w R) h)
noncomputable def dispatcherlaw14_made_b : Code := (Try.f12.body).getD .skip
noncomputable def dispatcherlaw14_made_L0 : Code := cAt [1, 1, 0, 1, 0, 0] dispatcherlaw14_made_b
noncomputable def dispatcherlaw14_made_R1 : Code := cAt [1, 1, 1] dispatcherlaw14_made_b
noncomputable def dispatcherlaw14_made_L0_F (z : At) (K : Exit → Sl → World → Prop) (ρ : Sl) (w : World) : Prop :=
  IK Try.prog .len #[22] 3 [false] [(ρ 0)] w fun x11 w => BK Try.prog .lss 3 (.tmp 9) (.tmp 11) (ρ 6) x11 w fun x12 w => CondK x12 (VK Try.prog (Instr.indexAt 22 (ρ 0) (ρ 6)) w fun x19 w => VK Try.prog (Instr.loadAt 48 x19) w fun x20 w => CK Try.prog (Value.func (Fn.func 20) #[] #[]) [(ρ 4), (ρ 5), x20] w fun x21 w => BK Try.prog .add 3 (.tmp 13) (.const (Value.int .i64 1)) (ρ 6) (Value.int .i64 1) w fun x14 w => K .normal (up (up (up (up (up (up (up (up (up (up (up (up (up (up ρ 9 (ρ 6)) 10 (ρ 0)) 11 x11) 12 x12) 15 (ρ 4)) 16 (ρ 5)) 17 (ρ 0)) 18 (ρ 6)) 19 x19) 20 x20) 21 x21) 13 (ρ 6)) 14 x14) 6 x14) w) (K (.exit 0) (up (up (up (up ρ 9 (ρ 6)) 10 (ρ 0)) 11 x11) 12 x12) w)
theorem dispatcherlaw14_made_L0_eq (z : At) (K : Exit → Sl → World → Prop) (ρ : Sl) (w : World) : sx z Try.prog 24 dispatcherlaw14_made_L0 K ρ w = dispatcherlaw14_made_L0_F z K ρ w := by kernel_rfl
theorem dispatcherlaw14_made_L0_ok : dstOk 24 dispatcherlaw14_made_L0 = true := by kernel_rfl
noncomputable def dispatcherlaw14_made_R1_F (z : At) (K : Exit → Sl → World → Prop) (ρ : Sl) (w : World) : Prop :=
  K .ret (up (up (up (up ρ 22 (ρ 4)) 23 (ρ 5)) 2 (ρ 4)) 3 (ρ 5)) w
theorem dispatcherlaw14_made_R1_eq (z : At) (K : Exit → Sl → World → Prop) (ρ : Sl) (w : World) : sx z Try.prog 24 dispatcherlaw14_made_R1 K ρ w = dispatcherlaw14_made_R1_F z K ρ w := by kernel_rfl
noncomputable def dispatcherlaw14_made_F (a0 : Value) (w : World) (R : Value → World → Prop) : Prop :=
  CK Try.prog (Value.func (Fn.func 23) #[] #[]) [] w fun x7 w => CK Try.prog (Value.func (Fn.func 24) #[] #[]) [] w fun x8 w => W fn_ Try.prog 24 (Code.loop dispatcherlaw14_made_L0) (blkK 0 (seqK (sx fn_ Try.prog 24 dispatcherlaw14_made_R1 (retK Try.prog [ResultVar.tmp 2, ResultVar.tmp 3] R)) (retK Try.prog [ResultVar.tmp 2, ResultVar.tmp 3] R))) (up (up (up (up (up (up (up (rho0 [a0]) 2 (Value.pointer none)) 3 (Value.pointer none)) 7 x7) 8 x8) 4 x7) 5 x8) 6 (Value.int .i64 0)) w
theorem dispatcherlaw14_made_eq (a0 : Value) (w : World) (R : Value → World → Prop) : sx fn_ Try.prog 24 dispatcherlaw14_made_b (retK Try.prog Try.f12.results.toList R) (rho0 [a0]) w = dispatcherlaw14_made_F a0 w R := by kernel_rfl
theorem dispatcherlaw14_made_calls {a0 : Value} {w : World} {R : Value → World → Prop} (h : dispatcherlaw14_made_F a0 w R) : Calls Try.prog 12 #[a0] w fun e w' => ∃ v, e = .returned v ∧ R v w' :=
  Go.X.calls_of_sx (n := 24) (c := dispatcherlaw14_made_b) Try.func12 (by kernel_rfl) (by kernel_rfl) (Nat.le_of_ble_eq_true rfl) (by kernel_rfl) (Eq.mpr (dispatcherlaw14_made_eq a0 w R) h)
noncomputable def posted_Posted_Probe_b : Code := (Try.f13.body).getD .skip
noncomputable def posted_Posted_Probe_R0 : Code := cAt [1, 1, 0] posted_Posted_Probe_b
noncomputable def posted_Posted_Probe_R1 : Code := cAt [1, 1, 1] posted_Posted_Probe_b
noncomputable def posted_Posted_Probe_R0_ops : Array Oper := opsOf posted_Posted_Probe_R0
def posted_Posted_Probe_R0_H (S : World → Prop) (K : Exit → Sl → World → Prop) (ρ : Sl) (w : World) : Prop :=
  HK Try.prog S (do pure (Next.value (← Instr.loadAt 24 (ρ 5)))) fun x17_2 => HK Try.prog S (do pure (Next.value (← Instr.fieldAt 24 (ρ 5) 1))) fun x19_2 => HK Try.prog S (do pure (Next.value (← Instr.loadAt 3 x19_2))) fun x20_2 => CK Try.prog (Value.func (Fn.func 40) #[] #[]) [(ρ 0), x20_2] w fun x21_2 w => S w ∧ (CK Try.prog (Value.func (Fn.func 39) #[] #[]) [(ρ 1), x17_2, x21_2] w fun x22_2 w => S w ∧ (K Exit.normal (up (up (up (up (up (up (up (up ρ 16 (ρ 1)) 17 x17_2) 18 (ρ 0)) 19 x19_2) 20 x20_2) 21 x21_2) 22 x22_2) 6 x22_2) w))
theorem posted_Posted_Probe_R0_held {D : List Deferred} (S : World → Prop) {K : Exit → Sl → World → Prop} {ρ : Sl} {w : World} (hS : S { w with drawn := w.drawn + 1 }) (h : posted_Posted_Probe_R0_H S K ρ { w with drawn := w.drawn + 1 }) : W ⟨none, D⟩ Try.prog 23 posted_Posted_Probe_R0 K ρ w := by
  have e : posted_Posted_Probe_R0 = .region (idOf posted_Posted_Probe_R0) posted_Posted_Probe_R0_ops true := by kernel_rfl
  have q : sxh Try.prog S posted_Posted_Probe_R0_ops (K .normal) [(0, true), (1, true), (2, true), (3, true), (4, true), (5, false), (6, false), (7, true)] ρ { w with drawn := w.drawn + 1 } = posted_Posted_Probe_R0_H S K ρ { w with drawn := w.drawn + 1 } := by kernel_rfl
  rw [e]
  exact W_held S [(0, true), (1, true), (2, true), (3, true), (4, true), (5, false), (6, false), (7, true)] (by kernel_rfl) (by kernel_rfl) (by kernel_rfl) (by kernel_rfl) hS (Eq.mpr q h)
noncomputable def posted_Posted_Probe_R1_F (z : At) (K : Exit → Sl → World → Prop) (ρ : Sl) (w : World) : Prop :=
  K .ret ρ w
theorem posted_Posted_Probe_R1_eq (z : At) (K : Exit → Sl → World → Prop) (ρ : Sl) (w : World) : sx z Try.prog 23 posted_Posted_Probe_R1 K ρ w = posted_Posted_Probe_R1_F z K ρ w := by kernel_rfl
noncomputable def posted_Posted_Probe_F (a0 a1 a2 : Value) (w : World) (R : Value → World → Prop) : Prop :=
  VK Try.prog (Instr.box 24 a2) w fun x5 w => BK Try.prog .eql 28 (.tmp 7) (.const (Value.pointer none)) a0 (Value.pointer none) w fun x8 w => MG Try.prog x8 false a0 w fun x10 w => NG Try.prog x8 false x10 w fun x11 w => VG Try.prog x8 false (Instr.fieldAt 61 x11 0) w fun x12 w => VG Try.prog x8 false (Instr.loadAt 4 x12) w fun x13 w => VG Try.prog x8 false (Op.unary UnOp.not x13) w fun x14 w => PK Try.prog x8 (Value.bool true) x14 w fun x15 w => CondK x15 (R (Value.slice none 0 0) w) (W fn_ Try.prog 23 posted_Posted_Probe_R0 (seqK (sx fn_ Try.prog 23 posted_Posted_Probe_R1 (retK Try.prog [ResultVar.tmp 6] R)) (retK Try.prog [ResultVar.tmp 6] R)) (up (up (up (up (up (up (up (up (up (up (up (rho0 [a0, a1, a2]) 5 x5) 6 (Value.slice none 0 0)) 7 a0) 8 x8) 9 x8) 10 x10) 11 x11) 12 x12) 13 x13) 14 x14) 15 x15) w)
theorem posted_Posted_Probe_eq (a0 a1 a2 : Value) (w : World) (R : Value → World → Prop) : sx fn_ Try.prog 23 posted_Posted_Probe_b (retK Try.prog Try.f13.results.toList R) (rho0 [a0, a1, a2]) w = posted_Posted_Probe_F a0 a1 a2 w R := by kernel_rfl
theorem posted_Posted_Probe_calls {a0 a1 a2 : Value} {w : World} {R : Value → World → Prop} (h : posted_Posted_Probe_F a0 a1 a2 w R) : Calls Try.prog 13 #[a0, a1, a2] w fun e w' => ∃ v, e = .returned v ∧ R v w' :=
  Go.X.calls_of_sx (n := 23) (c := posted_Posted_Probe_b) Try.func13 (by kernel_rfl) (by kernel_rfl) (Nat.le_of_ble_eq_true rfl) (by kernel_rfl) (Eq.mpr (posted_Posted_Probe_eq a0 a1 a2 w R) h)
noncomputable def posted_Posted_Post_b : Code := (Try.f14.body).getD .skip
noncomputable def posted_Posted_Post_R0 : Code := cAt [1, 1, 1, 0, 0] posted_Posted_Post_b
noncomputable def posted_Posted_Post_R1 : Code := cAt [1, 1, 1, 0, 1] posted_Posted_Post_b
noncomputable def posted_Posted_Post_R2 : Code := cAt [1, 1, 1, 1] posted_Posted_Post_b
noncomputable def posted_Posted_Post_R3 : Code := cAt [1, 1, 1, 1, 1, 0] posted_Posted_Post_b
noncomputable def posted_Posted_Post_R4 : Code := cAt [1, 1, 1, 1, 1, 1] posted_Posted_Post_b
noncomputable def posted_Posted_Post_R0_ops : Array Oper := opsOf posted_Posted_Post_R0
def posted_Posted_Post_R0_Q (C : World → Prop) (K : Exit → Sl → World → Prop) (ρ : Sl) : Prop :=
  QK Try.prog C (do pure (Next.value (← Instr.fieldAt 24 (ρ 3) 1))) fun x19 => QK Try.prog C (do pure (Next.value (← Instr.loadAt 3 x19))) fun x20 => QK Try.prog C (do let d ← Deferred.ofValue (Value.func (Fn.func 41) #[] #[]) [x20, (Value.int IntKind.i64 0), (Value.int IntKind.i64 63)].toArray; invoke d.target d.args) fun x21 => QK Try.prog C (do pure (Next.value (← Op.unary UnOp.not x21))) fun x22 => QG Try.prog C x22 false  (do pure (Next.value (← Instr.fieldAt 24 (ρ 3) 3))) fun x24 => QG Try.prog C x22 false  (do pure (Next.value (← Instr.loadAt 3 x24))) fun x25 => QG Try.prog C x22 false  (do let d ← Deferred.ofValue (Value.func (Fn.func 41) #[] #[]) [x25, (Value.int IntKind.i64 (-1)), (Value.int IntKind.i64 63)].toArray; invoke d.target d.args) fun x26 => QG Try.prog C x22 false  (do pure (Next.value (← Op.unary UnOp.not x26))) fun x27 => QK Try.prog C (do pure (Next.value (if ← asBool x22 then (Value.bool true) else x27))) fun x28 => QG Try.prog C x28 false  (do pure (Next.value (← Instr.fieldAt 24 (ρ 3) 4))) fun x30 => QG Try.prog C x28 false  (do pure (Next.value (← Instr.loadAt 3 x30))) fun x31 => QG Try.prog C x28 false  (do let d ← Deferred.ofValue (Value.func (Fn.func 41) #[] #[]) [x31, (Value.int IntKind.i64 (-1)), (Value.int IntKind.i64 32767)].toArray; invoke d.target d.args) fun x32 => QG Try.prog C x28 false  (do pure (Next.value (← Op.unary UnOp.not x32))) fun x33 => QK Try.prog C (do pure (Next.value (if ← asBool x28 then (Value.bool true) else x33))) fun x34 => QG Try.prog C x34 false  (do pure (Next.value (← Instr.fieldAt 24 (ρ 3) 5))) fun x36 => QG Try.prog C x34 false  (do pure (Next.value (← Instr.loadAt 3 x36))) fun x37 => QG Try.prog C x34 false  (do pure (Next.value (← (do eqGuard BinOp.lss 3 (Operand.tmp 37) (Operand.const (Value.int IntKind.i64 (-1))) x37 (Value.int IntKind.i64 (-1)); binOp BinOp.lss 3 x37 (Value.int IntKind.i64 (-1)))))) fun x38 => QK Try.prog C (do pure (Next.value (if ← asBool x34 then (Value.bool true) else x38))) fun x39 => QG Try.prog C x39 false  (do pure (Next.value (← Instr.fieldAt 24 (ρ 3) 2))) fun x41 => QG Try.prog C x39 false  (do pure (Next.value (← Instr.loadAt 3 x41))) fun x42 => QG Try.prog C x39 false  (do pure (Next.value (← (do eqGuard BinOp.lss 3 (Operand.tmp 42) (Operand.const (Value.int IntKind.i64 0)) x42 (Value.int IntKind.i64 0); binOp BinOp.lss 3 x42 (Value.int IntKind.i64 0))))) fun x43 => QK Try.prog C (do pure (Next.value (if ← asBool x39 then (Value.bool true) else x43))) fun x44 => QG Try.prog C x44 false  (pure (Next.value (ρ 5))) fun x46 => QG Try.prog C x44 false  (builtin Builtin.len #[41] 3 [false].toArray [x46].toArray) fun x47 => QG Try.prog C x44 false  (do pure (Next.value (← (do eqGuard BinOp.gtr 3 (Operand.tmp 47) (Operand.const (Value.int IntKind.i64 0)) x47 (Value.int IntKind.i64 0); binOp BinOp.gtr 3 x47 (Value.int IntKind.i64 0))))) fun x48 => QG Try.prog C x44 false  (pure (Next.value x48)) fun x49 => QG Try.prog C x49 true  (do pure (Next.value (← Instr.fieldAt 24 (ρ 3) 2))) fun x50 => QG Try.prog C x49 true  (do pure (Next.value (← Instr.loadAt 3 x50))) fun x51 => QG Try.prog C x49 true  (pure (Next.value (ρ 5))) fun x52 => QG Try.prog C x49 true  (pure (Next.value (ρ 5))) fun x53 => QG Try.prog C x49 true  (builtin Builtin.len #[41] 3 [false].toArray [x53].toArray) fun x54 => QG Try.prog C x49 true  (do pure (Next.value (← (do eqGuard BinOp.sub 3 (Operand.tmp 54) (Operand.const (Value.int IntKind.i64 1)) x54 (Value.int IntKind.i64 1); binOp BinOp.sub 3 x54 (Value.int IntKind.i64 1))))) fun x55 => QG Try.prog C x49 true  (do pure (Next.value (← Instr.indexAt 41 x52 x55))) fun x56 => QG Try.prog C x49 true  (do pure (Next.value (← Instr.fieldAt 24 x56 2))) fun x57 => QG Try.prog C x49 true  (do pure (Next.value (← Instr.loadAt 3 x57))) fun x58 => QG Try.prog C x49 true  (do pure (Next.value (← (do eqGuard BinOp.leq 3 (Operand.tmp 51) (Operand.tmp 58) x51 x58; binOp BinOp.leq 3 x51 x58)))) fun x59 => QG Try.prog C x44 false  (do pure (Next.value (if ← asBool x49 then x59 else (Value.bool false)))) fun x60 => QK Try.prog C (do pure (Next.value (if ← asBool x44 then (Value.bool true) else x60))) fun x61 => ∀ w', C w' → K Exit.normal (up (up (up (up (up (up (up (up (up (up (up (up (up (up (up (up (up (up (up (up (up (up (up (up (up (up (up (up (up (up (up (up (up (up (up (up (up (up (up (up (up (up (up ρ 19 x19) 20 x20) 21 x21) 22 x22) 23 x22) 24 x24) 25 x25) 26 x26) 27 x27) 28 x28) 29 x28) 30 x30) 31 x31) 32 x32) 33 x33) 34 x34) 35 x34) 36 x36) 37 x37) 38 x38) 39 x39) 40 x39) 41 x41) 42 x42) 43 x43) 44 x44) 45 x44) 46 x46) 47 x47) 48 x48) 49 x49) 50 x50) 51 x51) 52 x52) 53 x53) 54 x54) 55 x55) 56 x56) 57 x57) 58 x58) 59 x59) 60 x60) 61 x61) w'
theorem posted_Posted_Post_R0_quiet {D : List Deferred} (C : World → Prop) {K : Exit → Sl → World → Prop} {ρ : Sl} {w : World} (hC : C { w with drawn := w.drawn + 1 }) (h : posted_Posted_Post_R0_Q C K ρ) : W ⟨none, D⟩ Try.prog 75 posted_Posted_Post_R0 K ρ w := by
  have e : posted_Posted_Post_R0 = .region (idOf posted_Posted_Post_R0) posted_Posted_Post_R0_ops true := by kernel_rfl
  have q : sxq Try.prog C posted_Posted_Post_R0_ops (fun ρ' => ∀ w', C w' → K .normal ρ' w') posted_Posted_Post_R0_ops.toList ρ = posted_Posted_Post_R0_Q C K ρ := by kernel_rfl
  rw [e]
  exact W_quiet C (by kernel_rfl) (by kernel_rfl) (by kernel_rfl) hC (Eq.mpr q h)
noncomputable def posted_Posted_Post_R1_F (z : At) (K : Exit → Sl → World → Prop) (ρ : Sl) (w : World) : Prop :=
  CondK (ρ 61) (K .ret (up ρ 4 (Value.int .i64 2)) w) (K .normal ρ w)
theorem posted_Posted_Post_R1_eq (z : At) (K : Exit → Sl → World → Prop) (ρ : Sl) (w : World) : sx z Try.prog 75 posted_Posted_Post_R1 K ρ w = posted_Posted_Post_R1_F z K ρ w := by kernel_rfl
noncomputable def posted_Posted_Post_R2_F (z : At) (K : Exit → Sl → World → Prop) (ρ : Sl) (w : World) : Prop :=
  VK Try.prog (Instr.fieldAt 24 (ρ 3) 6) w fun x62 w => UK Try.prog (Instr.storeAt 4 x62 (Value.bool false)) w fun _ w => VK Try.prog (Instr.fieldAt 24 (ρ 3) 7) w fun x63 w => UK Try.prog (Instr.storeAt 3 x63 (Value.int .i64 0)) w fun _ w => VK Try.prog (Instr.fieldAt 24 (ρ 3) 8) w fun x64 w => UK Try.prog (Instr.storeAt 3 x64 (Value.int .i64 0)) w fun _ w => W z Try.prog 75 posted_Posted_Post_R3 (seqK (sx z Try.prog 75 posted_Posted_Post_R4 K) K) (up (up (up ρ 62 x62) 63 x63) 64 x64) w
theorem posted_Posted_Post_R2_eq (z : At) (K : Exit → Sl → World → Prop) (ρ : Sl) (w : World) : sx z Try.prog 75 posted_Posted_Post_R2 K ρ w = posted_Posted_Post_R2_F z K ρ w := by kernel_rfl
noncomputable def posted_Posted_Post_R3_ops : Array Oper := opsOf posted_Posted_Post_R3
def posted_Posted_Post_R3_H (S : World → Prop) (K : Exit → Sl → World → Prop) (ρ : Sl) (w : World) : Prop :=
  HK Try.prog S (do pure (Next.value (← Instr.fieldAt 24 (ρ 3) 1))) fun x66 => HK Try.prog S (do pure (Next.value (← Instr.loadAt 3 x66))) fun x67 => HK Try.prog S (do pure (Next.value (← Instr.loadAt 24 (ρ 3)))) fun x69 => HK Try.prog S (nilCk (ρ 0)) fun x72 => HK Try.prog S (do pure (Next.value (← Instr.fieldAt 61 x72 1))) fun x73 => VK Try.prog (Instr.buildSlice 41 1 [(0, x69)].toArray) w fun x70 w => S w ∧ (IK Try.prog Builtin.append #[41, 41] 41 [false, false] [(ρ 5), x70] w fun x71 w => S w ∧ (HK Try.prog S (do pure (Next.value (← Instr.indexAt 59 x73 x67))) fun x74 => UK Try.prog (Instr.storeAt 41 x74 x71) w fun _ w => S w ∧ (K Exit.normal (up (up (up (up (up (up (up (up (up (up ρ 65 (ρ 0)) 66 x66) 67 x67) 68 (ρ 5)) 69 x69) 72 x72) 73 x73) 70 x70) 71 x71) 74 x74) w)))
theorem posted_Posted_Post_R3_held {D : List Deferred} (S : World → Prop) {K : Exit → Sl → World → Prop} {ρ : Sl} {w : World} (hS : S { w with drawn := w.drawn + 1 }) (h : posted_Posted_Post_R3_H S K ρ { w with drawn := w.drawn + 1 }) : W ⟨none, D⟩ Try.prog 75 posted_Posted_Post_R3 K ρ w := by
  have e : posted_Posted_Post_R3 = .region (idOf posted_Posted_Post_R3) posted_Posted_Post_R3_ops true := by kernel_rfl
  have q : sxh Try.prog S posted_Posted_Post_R3_ops (K .normal) [(0, true), (1, true), (2, true), (3, true), (4, true), (7, true), (8, true), (5, false), (6, false), (9, true), (10, false)] ρ { w with drawn := w.drawn + 1 } = posted_Posted_Post_R3_H S K ρ { w with drawn := w.drawn + 1 } := by kernel_rfl
  rw [e]
  exact W_held S [(0, true), (1, true), (2, true), (3, true), (4, true), (7, true), (8, true), (5, false), (6, false), (9, true), (10, false)] (by kernel_rfl) (by kernel_rfl) (by kernel_rfl) (by kernel_rfl) hS (Eq.mpr q h)
noncomputable def posted_Posted_Post_R4_F (z : At) (K : Exit → Sl → World → Prop) (ρ : Sl) (w : World) : Prop :=
  K .ret (up ρ 4 (Value.int .i64 0)) w
theorem posted_Posted_Post_R4_eq (z : At) (K : Exit → Sl → World → Prop) (ρ : Sl) (w : World) : sx z Try.prog 75 posted_Posted_Post_R4 K ρ w = posted_Posted_Post_R4_F z K ρ w := by kernel_rfl
noncomputable def posted_Posted_Post_F (a0 a1 : Value) (w : World) (R : Value → World → Prop) : Prop :=
  VK Try.prog (Instr.box 24 a1) w fun x3 w => BK Try.prog .eql 28 (.tmp 6) (.const (Value.pointer none)) a0 (Value.pointer none) w fun x7 w => MG Try.prog x7 false a0 w fun x9 w => NG Try.prog x7 false x9 w fun x10 w => VG Try.prog x7 false (Instr.fieldAt 61 x10 0) w fun x11 w => VG Try.prog x7 false (Instr.loadAt 4 x11) w fun x12 w => VG Try.prog x7 false (Op.unary UnOp.not x12) w fun x13 w => PK Try.prog x7 (Value.bool true) x13 w fun x14 w => CondK x14 (R (Value.int .i64 1) w) (VK Try.prog (Instr.fieldAt 24 x3 1) w fun x16 w => VK Try.prog (Instr.loadAt 3 x16) w fun x17 w => CK Try.prog (Value.func (Fn.func 40) #[] #[]) [a0, x17] w fun x18 w => W fn_ Try.prog 75 posted_Posted_Post_R0 (seqK (sx fn_ Try.prog 75 posted_Posted_Post_R1 (seqK (sx fn_ Try.prog 75 posted_Posted_Post_R2 (retK Try.prog [ResultVar.tmp 4] R)) (retK Try.prog [ResultVar.tmp 4] R))) (seqK (sx fn_ Try.prog 75 posted_Posted_Post_R2 (retK Try.prog [ResultVar.tmp 4] R)) (retK Try.prog [ResultVar.tmp 4] R))) (up (up (up (up (up (up (up (up (up (up (up (up (up (up (up (up (rho0 [a0, a1]) 3 x3) 4 (Value.int .i64 0)) 6 a0) 7 x7) 8 x7) 9 x9) 10 x10) 11 x11) 12 x12) 13 x13) 14 x14) 15 a0) 16 x16) 17 x17) 18 x18) 5 x18) w)
theorem posted_Posted_Post_eq (a0 a1 : Value) (w : World) (R : Value → World → Prop) : sx fn_ Try.prog 75 posted_Posted_Post_b (retK Try.prog Try.f14.results.toList R) (rho0 [a0, a1]) w = posted_Posted_Post_F a0 a1 w R := by kernel_rfl
theorem posted_Posted_Post_calls {a0 a1 : Value} {w : World} {R : Value → World → Prop} (h : posted_Posted_Post_F a0 a1 w R) : Calls Try.prog 14 #[a0, a1] w fun e w' => ∃ v, e = .returned v ∧ R v w' :=
  Go.X.calls_of_sx (n := 75) (c := posted_Posted_Post_b) Try.func14 (by kernel_rfl) (by kernel_rfl) (Nat.le_of_ble_eq_true rfl) (by kernel_rfl) (Eq.mpr (posted_Posted_Post_eq a0 a1 w R) h)
noncomputable def posted_Posted_May_b : Code := (Try.f16.body).getD .skip
noncomputable def posted_Posted_May_R0 : Code := cAt [1, 1, 1, 1, 1, 0] posted_Posted_May_b
noncomputable def posted_Posted_May_R1 : Code := cAt [1, 1, 1, 1, 1, 1] posted_Posted_May_b
noncomputable def posted_Posted_May_R0_ops : Array Oper := opsOf posted_Posted_May_R0
def posted_Posted_May_R0_T (K : Exit → Sl → World → Prop) (ρ : Sl) (w : World) : Prop :=
  let C : World → Prop := fun w' => w' = w; QK Try.prog C (do pure (Next.value (← Instr.indexAt 41 (ρ 10) (ρ 9)))) fun x28_1 => QK Try.prog C (do pure (Next.value (← Instr.loadAt 24 x28_1))) fun x29_1 => QK Try.prog C (do pure (Next.value (← Instr.sliceAt 41 (ρ 10) none (some (ρ 9)) none))) fun x32_1 => CK Try.prog (Value.func (Fn.func 39) #[] #[]) [(ρ 1), x29_1, x32_1] w fun x33_1 w => K Exit.normal (up (up (up (up (up (up (up (up (up (up ρ 25 (ρ 1)) 26 (ρ 10)) 27 (ρ 9)) 28 x28_1) 29 x29_1) 30 (ρ 10)) 31 (ρ 9)) 32 x32_1) 33 x33_1) 8 x33_1) w
theorem posted_Posted_May_R0_tail {D : List Deferred} {K : Exit → Sl → World → Prop} {ρ : Sl} {w : World} (h : posted_Posted_May_R0_T K ρ { w with drawn := w.drawn + 1 }) : W ⟨none, D⟩ Try.prog 34 posted_Posted_May_R0 K ρ w := by
  have e : posted_Posted_May_R0 = .region (idOf posted_Posted_May_R0) posted_Posted_May_R0_ops true := by kernel_rfl
  have q : sxq Try.prog (fun w' => w' = { w with drawn := w.drawn + 1 }) posted_Posted_May_R0_ops (fun ρ' => sxL Try.prog posted_Posted_May_R0_ops (K .normal) (posted_Posted_May_R0_ops.toList.drop 8) ρ' { w with drawn := w.drawn + 1 }) (posted_Posted_May_R0_ops.toList.take 8) ρ = posted_Posted_May_R0_T K ρ { w with drawn := w.drawn + 1 } := by kernel_rfl
  rw [e]
  exact W_tail 8 (by kernel_rfl) (by kernel_rfl) (by kernel_rfl) (by kernel_rfl) (Eq.mpr q h)
noncomputable def posted_Posted_May_R1_F (z : At) (K : Exit → Sl → World → Prop) (ρ : Sl) (w : World) : Prop :=
  K .ret ρ w
theorem posted_Posted_May_R1_eq (z : At) (K : Exit → Sl → World → Prop) (ρ : Sl) (w : World) : sx z Try.prog 34 posted_Posted_May_R1 K ρ w = posted_Posted_May_R1_F z K ρ w := by kernel_rfl
noncomputable def posted_Posted_May_F (a0 a1 a2 a3 : Value) (w : World) (R : Value → World → Prop) : Prop :=
  CK Try.prog (Value.func (Fn.func 42) #[] #[]) [a0, a2, a3] w fun x14 w => BK Try.prog .lss 3 (.tmp 15) (.const (Value.int .i64 0)) x14 (Value.int .i64 0) w fun x16 w => CondK x16 (R (Value.slice none 0 0) w) (CK Try.prog (Value.func (Fn.func 40) #[] #[]) [a0, a2] w fun x19 w => VK Try.prog (Instr.indexAt 41 x19 x14) w fun x22 w => VK Try.prog (Instr.fieldAt 24 x22 6) w fun x23 w => VK Try.prog (Instr.loadAt 4 x23) w fun x24 w => CondK x24 (R (Value.slice none 0 0) w) (W fn_ Try.prog 34 posted_Posted_May_R0 (seqK (sx fn_ Try.prog 34 posted_Posted_May_R1 (retK Try.prog [ResultVar.tmp 8] R)) (retK Try.prog [ResultVar.tmp 8] R)) (up (up (up (up (up (up (up (up (up (up (up (up (up (up (up (up (up (rho0 [a0, a1, a2, a3]) 8 (Value.slice none 0 0)) 11 a0) 12 a2) 13 a3) 14 x14) 9 x14) 15 x14) 16 x16) 17 a0) 18 a2) 19 x19) 10 x19) 20 x19) 21 x14) 22 x22) 23 x23) 24 x24) w))
theorem posted_Posted_May_eq (a0 a1 a2 a3 : Value) (w : World) (R : Value → World → Prop) : sx fn_ Try.prog 34 posted_Posted_May_b (retK Try.prog Try.f16.results.toList R) (rho0 [a0, a1, a2, a3]) w = posted_Posted_May_F a0 a1 a2 a3 w R := by kernel_rfl
theorem posted_Posted_May_calls {a0 a1 a2 a3 : Value} {w : World} {R : Value → World → Prop} (h : posted_Posted_May_F a0 a1 a2 a3 w R) : Calls Try.prog 16 #[a0, a1, a2, a3] w fun e w' => ∃ v, e = .returned v ∧ R v w' :=
  Go.X.calls_of_sx (n := 34) (c := posted_Posted_May_b) Try.func16 (by kernel_rfl) (by kernel_rfl) (Nat.le_of_ble_eq_true rfl) (by kernel_rfl) (Eq.mpr (posted_Posted_May_eq a0 a1 a2 a3 w R) h)
noncomputable def posted_Posted_Match_b : Code := (Try.f17.body).getD .skip
noncomputable def posted_Posted_Match_R0 : Code := cAt [1, 1, 1, 0, 1] posted_Posted_Match_b
noncomputable def posted_Posted_Match_R1 : Code := cAt [1, 1, 1, 1] posted_Posted_Match_b
noncomputable def posted_Posted_Match_R2 : Code := cAt [1, 1, 1, 1, 0] posted_Posted_Match_b
noncomputable def posted_Posted_Match_R3 : Code := cAt [1, 1, 1, 1, 1] posted_Posted_Match_b
noncomputable def posted_Posted_Match_R4 : Code := cAt [1, 1, 1, 1, 1, 0] posted_Posted_Match_b
noncomputable def posted_Posted_Match_R5 : Code := cAt [1, 1, 1, 1, 1, 1] posted_Posted_Match_b
noncomputable def posted_Posted_Match_R0_F (z : At) (K : Exit → Sl → World → Prop) (ρ : Sl) (w : World) : Prop :=
  CondK (ρ 39) (K .ret (up ρ 12 (Value.int .i64 2)) w) (K .normal ρ w)
theorem posted_Posted_Match_R0_eq (z : At) (K : Exit → Sl → World → Prop) (ρ : Sl) (w : World) : sx z Try.prog 62 posted_Posted_Match_R0 K ρ w = posted_Posted_Match_R0_F z K ρ w := by kernel_rfl
noncomputable def posted_Posted_Match_R1_F (z : At) (K : Exit → Sl → World → Prop) (ρ : Sl) (w : World) : Prop :=
  W z Try.prog 62 posted_Posted_Match_R2 (seqK (sx z Try.prog 62 posted_Posted_Match_R3 K) K) ρ w
theorem posted_Posted_Match_R1_eq (z : At) (K : Exit → Sl → World → Prop) (ρ : Sl) (w : World) : sx z Try.prog 62 posted_Posted_Match_R1 K ρ w = posted_Posted_Match_R1_F z K ρ w := by kernel_rfl
noncomputable def posted_Posted_Match_R2_ops : Array Oper := opsOf posted_Posted_Match_R2
def posted_Posted_Match_R2_H (S : World → Prop) (K : Exit → Sl → World → Prop) (ρ : Sl) (w : World) : Prop :=
  HK Try.prog S (nilCk (ρ 0)) fun x42_2 => HK Try.prog S (do pure (Next.value (← Instr.fieldAt 61 x42_2 1))) fun x43_2 => HK Try.prog S (do pure (Next.value (← Instr.indexAt 59 x43_2 (ρ 2)))) fun x44_2 => HK Try.prog S (do pure (Next.value (← Instr.loadAt 41 x44_2))) fun x45_2 => CK Try.prog (Value.func (Fn.func 42) #[] #[]) [(ρ 0), (ρ 2), (ρ 3)] w fun x49_2 w => S w ∧ (HK Try.prog S (do pure (Next.value (← Instr.indexAt 41 x45_2 x49_2))) fun x50_2 => K Exit.normal (up (up (up (up (up (up (up (up (up (up (up (up ρ 40 (ρ 0)) 41 (ρ 2)) 42 x42_2) 43 x43_2) 44 x44_2) 45 x45_2) 46 (ρ 0)) 47 (ρ 2)) 48 (ρ 3)) 49 x49_2) 50 x50_2) 14 x50_2) w)
theorem posted_Posted_Match_R2_held {D : List Deferred} (S : World → Prop) {K : Exit → Sl → World → Prop} {ρ : Sl} {w : World} (hS : S { w with drawn := w.drawn + 1 }) (h : posted_Posted_Match_R2_H S K ρ { w with drawn := w.drawn + 1 }) : W ⟨none, D⟩ Try.prog 62 posted_Posted_Match_R2 K ρ w := by
  have e : posted_Posted_Match_R2 = .region (idOf posted_Posted_Match_R2) posted_Posted_Match_R2_ops true := by kernel_rfl
  have q : sxh Try.prog S posted_Posted_Match_R2_ops (K .normal) [(0, true), (1, true), (2, true), (3, true), (4, true), (5, true), (6, true), (7, true), (8, true), (9, false), (10, true), (11, true)] ρ { w with drawn := w.drawn + 1 } = posted_Posted_Match_R2_H S K ρ { w with drawn := w.drawn + 1 } := by kernel_rfl
  rw [e]
  exact W_held S [(0, true), (1, true), (2, true), (3, true), (4, true), (5, true), (6, true), (7, true), (8, true), (9, false), (10, true), (11, true)] (by kernel_rfl) (by kernel_rfl) (by kernel_rfl) (by kernel_rfl) hS (Eq.mpr q h)
noncomputable def posted_Posted_Match_R3_F (z : At) (K : Exit → Sl → World → Prop) (ρ : Sl) (w : World) : Prop :=
  W z Try.prog 62 posted_Posted_Match_R4 (seqK (sx z Try.prog 62 posted_Posted_Match_R5 K) K) ρ w
theorem posted_Posted_Match_R3_eq (z : At) (K : Exit → Sl → World → Prop) (ρ : Sl) (w : World) : sx z Try.prog 62 posted_Posted_Match_R3 K ρ w = posted_Posted_Match_R3_F z K ρ w := by kernel_rfl
noncomputable def posted_Posted_Match_R4_ops : Array Oper := opsOf posted_Posted_Match_R4
def posted_Posted_Match_R4_H0 (S : World → Prop) (K : Sl → World → Prop) (ρ : Sl) (w : World) : Prop :=
  HK Try.prog S (do pure (Next.value (← Instr.loadAt 3 (ρ 10)))) fun x54 => HK Try.prog S (do pure (Next.value (← Instr.loadAt 3 (ρ 11)))) fun x55 => HK Try.prog S (nilCk (ρ 14)) fun x56 => HK Try.prog S (do pure (Next.value (← Instr.fieldAt 24 x56 6))) fun x57 => UK Try.prog (Instr.storeAt 4 x57 (Value.bool true)) w fun _ w => S w ∧ (HK Try.prog S (nilCk (ρ 14)) fun x58 => HK Try.prog S (do pure (Next.value (← Instr.fieldAt 24 x58 7))) fun x59 => UK Try.prog (Instr.storeAt 3 x59 x54) w fun _ w => S w ∧ (HK Try.prog S (nilCk (ρ 14)) fun x60 => K (up (up (up (up (up (up (up (up (up (up ρ 51 (ρ 14)) 52 (ρ 14)) 53 (ρ 14)) 54 x54) 55 x55) 56 x56) 57 x57) 58 x58) 59 x59) 60 x60) w))
theorem posted_Posted_Match_R4_q0 (S : World → Prop) (K : Sl → World → Prop) : sxh Try.prog S posted_Posted_Match_R4_ops K [(0, true), (1, true), (2, true), (3, true), (4, true), (5, true), (6, true), (7, false), (8, true), (9, true), (10, false), (11, true)] = posted_Posted_Match_R4_H0 S K := by kernel_rfl
def posted_Posted_Match_R4_H1 (S : World → Prop) (K : Sl → World → Prop) (ρ : Sl) (w : World) : Prop :=
  HK Try.prog S (do pure (Next.value (← Instr.fieldAt 24 (ρ 60) 8))) fun x61 => UK Try.prog (Instr.storeAt 3 x61 (ρ 55)) w fun _ w => S w ∧ (K (up ρ 61 x61) w)
theorem posted_Posted_Match_R4_q1 (S : World → Prop) (K : Sl → World → Prop) : sxh Try.prog S posted_Posted_Match_R4_ops K [(12, true), (13, false)] = posted_Posted_Match_R4_H1 S K := by kernel_rfl
def posted_Posted_Match_R4_H (S : World → Prop) (K : Exit → Sl → World → Prop) (ρ : Sl) (w : World) : Prop :=
  posted_Posted_Match_R4_H0 S (posted_Posted_Match_R4_H1 S (K .normal)) ρ w
theorem posted_Posted_Match_R4_steps : planOk Try.prog 62 posted_Posted_Match_R4_ops [(0, true), (1, true), (2, true), (3, true), (4, true), (5, true), (6, true), (7, false), (8, true), (9, true), (10, false), (11, true), (12, true), (13, false)] (Array.replicate posted_Posted_Match_R4_ops.size false) = true :=
  by kernel_rfl
theorem posted_Posted_Match_R4_held {D : List Deferred} (S : World → Prop) {K : Exit → Sl → World → Prop} {ρ : Sl} {w : World} (hS : S { w with drawn := w.drawn + 1 }) (h : posted_Posted_Match_R4_H S K ρ { w with drawn := w.drawn + 1 }) : W ⟨none, D⟩ Try.prog 62 posted_Posted_Match_R4 K ρ w := by
  have e : posted_Posted_Match_R4 = .region (idOf posted_Posted_Match_R4) posted_Posted_Match_R4_ops true := by kernel_rfl
  have q : sxh Try.prog S posted_Posted_Match_R4_ops (K .normal) [(0, true), (1, true), (2, true), (3, true), (4, true), (5, true), (6, true), (7, false), (8, true), (9, true), (10, false), (11, true), (12, true), (13, false)] ρ { w with drawn := w.drawn + 1 } = posted_Posted_Match_R4_H S K ρ { w with drawn := w.drawn + 1 } := by
    show sxh Try.prog S posted_Posted_Match_R4_ops (K .normal) ([(0, true), (1, true), (2, true), (3, true), (4, true), (5, true), (6, true), (7, false), (8, true), (9, true), (10, false), (11, true)] ++ [(12, true), (13, false)]) ρ { w with drawn := w.drawn + 1 } = _
    rw [sxh_append, posted_Posted_Match_R4_q1, posted_Posted_Match_R4_q0]; rfl
  rw [e]
  exact W_held S [(0, true), (1, true), (2, true), (3, true), (4, true), (5, true), (6, true), (7, false), (8, true), (9, true), (10, false), (11, true), (12, true), (13, false)] (by kernel_rfl) (by kernel_rfl) posted_Posted_Match_R4_steps (by kernel_rfl) hS (Eq.mpr q h)
noncomputable def posted_Posted_Match_R5_F (z : At) (K : Exit → Sl → World → Prop) (ρ : Sl) (w : World) : Prop :=
  K .ret (up ρ 12 (Value.int .i64 0)) w
theorem posted_Posted_Match_R5_eq (z : At) (K : Exit → Sl → World → Prop) (ρ : Sl) (w : World) : sx z Try.prog 62 posted_Posted_Match_R5 K ρ w = posted_Posted_Match_R5_F z K ρ w := by kernel_rfl
noncomputable def posted_Posted_Match_F (a0 a1 a2 a3 a4 a5 : Value) (w : World) (R : Value → World → Prop) : Prop :=
  VK Try.prog (Instr.box 3 a4) w fun x10 w => VK Try.prog (Instr.box 3 a5) w fun x11 w => BK Try.prog .eql 28 (.tmp 15) (.const (Value.pointer none)) a0 (Value.pointer none) w fun x16 w => MG Try.prog x16 false a0 w fun x18 w => NG Try.prog x16 false x18 w fun x19 w => VG Try.prog x16 false (Instr.fieldAt 61 x19 0) w fun x20 w => VG Try.prog x16 false (Instr.loadAt 4 x20) w fun x21 w => VG Try.prog x16 false (Op.unary UnOp.not x21) w fun x22 w => PK Try.prog x16 (Value.bool true) x22 w fun x23 w => CondK x23 (R (Value.int .i64 1) w) (VK Try.prog (Instr.makeFunc (Fn.func 43) [].toArray [x10, x11].toArray) w fun x24 w => CK Try.prog (Value.func (Fn.func 16) #[] #[]) [a0, a1, a2, a3] w fun x29 w => CK Try.prog (Value.func (Fn.func 44) #[] #[]) [x29, x24] w fun x31 w => VK Try.prog (Op.unary UnOp.not x31) w fun x32 w => MG Try.prog x32 false a1 w fun x34 w => VG Try.prog x32 false (Instr.loadAt 3 x10) w fun x35 w => VG Try.prog x32 false (Instr.loadAt 3 x11) w fun x36 w => CG Try.prog x32 false (Value.func (Fn.func 45) #[] #[]) [x34, x35, x36] w fun x37 w => BG Try.prog x32 false .neq 33 (.tmp 37) (.const (Value.int .i64 0)) x37 (Value.int .i64 0) w fun x38 w => PK Try.prog x32 (Value.bool true) x38 w fun x39 w => sx fn_ Try.prog 62 posted_Posted_Match_R0 (seqK (sx fn_ Try.prog 62 posted_Posted_Match_R1 (retK Try.prog [ResultVar.tmp 12] R)) (retK Try.prog [ResultVar.tmp 12] R)) (up (up (up (up (up (up (up (up (up (up (up (up (up (up (up (up (up (up (up (up (up (up (up (up (up (up (up (up (up (rho0 [a0, a1, a2, a3, a4, a5]) 10 x10) 11 x11) 12 (Value.int .i64 0)) 15 a0) 16 x16) 17 x16) 18 x18) 19 x19) 20 x20) 21 x21) 22 x22) 23 x23) 24 x24) 13 x24) 25 a0) 26 a1) 27 a2) 28 a3) 29 x29) 30 x24) 31 x31) 32 x32) 33 x32) 34 x34) 35 x35) 36 x36) 37 x37) 38 x38) 39 x39) w)
theorem posted_Posted_Match_eq (a0 a1 a2 a3 a4 a5 : Value) (w : World) (R : Value → World → Prop) : sx fn_ Try.prog 62 posted_Posted_Match_b (retK Try.prog Try.f17.results.toList R) (rho0 [a0, a1, a2, a3, a4, a5]) w = posted_Posted_Match_F a0 a1 a2 a3 a4 a5 w R := by kernel_rfl
theorem posted_Posted_Match_calls {a0 a1 a2 a3 a4 a5 : Value} {w : World} {R : Value → World → Prop} (h : posted_Posted_Match_F a0 a1 a2 a3 a4 a5 w R) : Calls Try.prog 17 #[a0, a1, a2, a3, a4, a5] w fun e w' => ∃ v, e = .returned v ∧ R v w' :=
  Go.X.calls_of_sx (n := 62) (c := posted_Posted_Match_b) Try.func17 (by kernel_rfl) (by kernel_rfl) (Nat.le_of_ble_eq_true rfl) (by kernel_rfl) (Eq.mpr (posted_Posted_Match_eq a0 a1 a2 a3 a4 a5 w R) h)
noncomputable def posted_Posted_Waiting_b : Code := (Try.f18.body).getD .skip
noncomputable def posted_Posted_Waiting_F (a0 a1 : Value) (w : World) (R : Value → World → Prop) : Prop :=
  CK Try.prog (Value.func (Fn.func 40) #[] #[]) [a0, a1] w fun x7 w => CK Try.prog (Value.func (Fn.func 46) #[] #[]) [x7, (Value.func (Fn.func 47) #[] #[])] w fun x8 w => R x8 w
theorem posted_Posted_Waiting_eq (a0 a1 : Value) (w : World) (R : Value → World → Prop) : sx fn_ Try.prog 9 posted_Posted_Waiting_b (retK Try.prog Try.f18.results.toList R) (rho0 [a0, a1]) w = posted_Posted_Waiting_F a0 a1 w R := by kernel_rfl
theorem posted_Posted_Waiting_calls {a0 a1 : Value} {w : World} {R : Value → World → Prop} (h : posted_Posted_Waiting_F a0 a1 w R) : Calls Try.prog 18 #[a0, a1] w fun e w' => ∃ v, e = .returned v ∧ R v w' :=
  Go.X.calls_of_sx (n := 9) (c := posted_Posted_Waiting_b) Try.func18 (by kernel_rfl) (by kernel_rfl) (Nat.le_of_ble_eq_true rfl) (by kernel_rfl) (Eq.mpr (posted_Posted_Waiting_eq a0 a1 w R) h)
noncomputable def dispatcherlaw14_act_b : Code := (Try.f20.body).getD .skip
noncomputable def dispatcherlaw14_act_R0 : Code := cAt [1, 1] dispatcherlaw14_act_b
noncomputable def dispatcherlaw14_act_R1 : Code := cAt [1, 0, 1, 0, 1] dispatcherlaw14_act_b
noncomputable def dispatcherlaw14_act_R2 : Code := cAt [1, 0, 1, 0, 1, 1, 1, 1, 1, 1, 0, 1] dispatcherlaw14_act_b
noncomputable def dispatcherlaw14_act_R0_F (z : At) (K : Exit → Sl → World → Prop) (ρ : Sl) (w : World) : Prop :=
  K .ret (up ρ 6 (Value.int .i64 (-1))) w
theorem dispatcherlaw14_act_R0_eq (z : At) (K : Exit → Sl → World → Prop) (ρ : Sl) (w : World) : sx z Try.prog 66 dispatcherlaw14_act_R0 K ρ w = dispatcherlaw14_act_R0_F z K ρ w := by kernel_rfl
noncomputable def dispatcherlaw14_act_R1_F (z : At) (K : Exit → Sl → World → Prop) (ρ : Sl) (w : World) : Prop :=
  CondK (ρ 53) (VK Try.prog (Instr.fieldAt 48 (ρ 5) 1) w fun x57 w => VK Try.prog (Instr.loadAt 39 x57) w fun x58 w => CK Try.prog (Value.func (Fn.func 25) #[] #[]) [(ρ 0), x58] w fun x59 w => K .normal (up (up (up (up ρ 56 (ρ 0)) 57 x57) 58 x58) 59 x59) w) (BK Try.prog .eql 5 (.tmp 11) (.const (Value.int .u8 2)) (ρ 11) (Value.int .u8 2) w fun x61 w => CondK x61 (VK Try.prog (Instr.fieldAt 48 (ρ 5) 2) w fun x63 w => VK Try.prog (Instr.loadAt 24 x63) w fun x64 w => CK Try.prog (Value.func (Fn.func 14) #[] #[]) [(ρ 1), x64] w fun x65 w => K .normal (up (up (up (up (up (up ρ 61 x61) 60 x61) 62 (ρ 1)) 63 x63) 64 x64) 65 x65) w) (VK Try.prog (Instr.fieldAt 48 (ρ 5) 2) w fun x14 w => VK Try.prog (Instr.fieldAt 24 x14 1) w fun x15 w => VK Try.prog (Instr.loadAt 3 x15) w fun x16 w => VK Try.prog (Instr.fieldAt 48 (ρ 5) 2) w fun x17 w => VK Try.prog (Instr.fieldAt 24 x17 2) w fun x18 w => VK Try.prog (Instr.loadAt 3 x18) w fun x19 w => CK Try.prog (Value.func (Fn.func 16) #[] #[]) [(ρ 1), (ρ 0), x16, x19] w fun x20 w => IK Try.prog .len #[31] 3 [false] [x20] w fun x22 w => BK Try.prog .gtr 3 (.tmp 22) (.const (Value.int .i64 0)) x22 (Value.int .i64 0) w fun x23 w => CondK x23 (VK Try.prog (Instr.fieldAt 48 (ρ 5) 1) w fun x25 w => VK Try.prog (Instr.fieldAt 39 x25 3) w fun x26 w => VK Try.prog (Instr.loadAt 3 x26) w fun x27 w => VK Try.prog (convert 3 85 x27) w fun x28 w => IK Try.prog .len #[31] 3 [false] [x20] w fun x30 w => VK Try.prog (convert 3 85 x30) w fun x31 w => BK Try.prog .rem 85 (.tmp 28) (.tmp 31) x28 x31 w fun x32 w => VK Try.prog (convert 85 3 x32) w fun x33 w => VK Try.prog (Instr.indexAt 31 x20 x33) w fun x34 w => VK Try.prog (Instr.loadAt 39 x34) w fun x35 w => VK Try.prog (Instr.alloc 39 true (.tuple #[])) w fun x8 w => UK Try.prog (Instr.storeAt 39 x8 x35) w fun _ w => sx z Try.prog 66 dispatcherlaw14_act_R2 K (up (up (up (up (up (up (up (up (up (up (up (up (up (up (up (up (up (up (up (up (up (up (up (up (up (up (up (up ρ 61 x61) 60 x61) 12 (ρ 1)) 13 (ρ 0)) 14 x14) 15 x15) 16 x16) 17 x17) 18 x18) 19 x19) 20 x20) 7 x20) 21 x20) 22 x22) 23 x23) 24 x20) 25 x25) 26 x26) 27 x27) 28 x28) 29 x20) 30 x30) 31 x31) 32 x32) 33 x33) 34 x34) 35 x35) 8 x8) w) (K .normal (up (up (up (up (up (up (up (up (up (up (up (up (up (up (up ρ 61 x61) 60 x61) 12 (ρ 1)) 13 (ρ 0)) 14 x14) 15 x15) 16 x16) 17 x17) 18 x18) 19 x19) 20 x20) 7 x20) 21 x20) 22 x22) 23 x23) w)))
theorem dispatcherlaw14_act_R1_eq (z : At) (K : Exit → Sl → World → Prop) (ρ : Sl) (w : World) : sx z Try.prog 66 dispatcherlaw14_act_R1 K ρ w = dispatcherlaw14_act_R1_F z K ρ w := by kernel_rfl
noncomputable def dispatcherlaw14_act_R2_F (z : At) (K : Exit → Sl → World → Prop) (ρ : Sl) (w : World) : Prop :=
  VK Try.prog (Instr.fieldAt 48 (ρ 5) 2) w fun x38 w => VK Try.prog (Instr.fieldAt 24 x38 1) w fun x39 w => VK Try.prog (Instr.loadAt 3 x39) w fun x40 w => VK Try.prog (Instr.fieldAt 48 (ρ 5) 2) w fun x41 w => VK Try.prog (Instr.fieldAt 24 x41 2) w fun x42 w => VK Try.prog (Instr.loadAt 3 x42) w fun x43 w => VK Try.prog (Instr.fieldAt 39 (ρ 8) 1) w fun x44 w => VK Try.prog (Instr.loadAt 3 x44) w fun x45 w => VK Try.prog (Instr.fieldAt 39 (ρ 8) 3) w fun x46 w => VK Try.prog (Instr.loadAt 3 x46) w fun x47 w => CK Try.prog (Value.func (Fn.func 17) #[] #[]) [(ρ 1), (ρ 0), x40, x43, x45, x47] w fun x48 w => BK Try.prog .eql 33 (.tmp 48) (.const (Value.int .i64 0)) x48 (Value.int .i64 0) w fun x49 w => CondK x49 (VK Try.prog (Instr.fieldAt 48 (ρ 5) 2) w fun x50 w => VK Try.prog (Instr.fieldAt 24 x50 2) w fun x51 w => VK Try.prog (Instr.loadAt 3 x51) w fun x52 w => K .ret (up (up (up (up (up (up (up (up (up (up (up (up (up (up (up (up (up (up ρ 36 (ρ 1)) 37 (ρ 0)) 38 x38) 39 x39) 40 x40) 41 x41) 42 x42) 43 x43) 44 x44) 45 x45) 46 x46) 47 x47) 48 x48) 49 x49) 50 x50) 51 x51) 52 x52) 6 x52) w) (K .normal (up (up (up (up (up (up (up (up (up (up (up (up (up (up ρ 36 (ρ 1)) 37 (ρ 0)) 38 x38) 39 x39) 40 x40) 41 x41) 42 x42) 43 x43) 44 x44) 45 x45) 46 x46) 47 x47) 48 x48) 49 x49) w)
theorem dispatcherlaw14_act_R2_eq (z : At) (K : Exit → Sl → World → Prop) (ρ : Sl) (w : World) : sx z Try.prog 66 dispatcherlaw14_act_R2 K ρ w = dispatcherlaw14_act_R2_F z K ρ w := by kernel_rfl
noncomputable def dispatcherlaw14_act_F (a0 a1 a2 : Value) (w : World) (R : Value → World → Prop) : Prop :=
  VK Try.prog (Instr.box 48 a2) w fun x5 w => VK Try.prog (Instr.fieldAt 48 x5 0) w fun x9 w => VK Try.prog (Instr.loadAt 5 x9) w fun x10 w => BK Try.prog .rem 5 (.tmp 10) (.const (Value.int .u8 4)) x10 (Value.int .u8 4) w fun x11 w => BK Try.prog .eql 5 (.tmp 11) (.const (Value.int .u8 0)) x11 (Value.int .u8 0) w fun x54 w => CondK x54 (sx fn_ Try.prog 66 dispatcherlaw14_act_R1 (blkK 0 (seqK (sx fn_ Try.prog 66 dispatcherlaw14_act_R0 (retK Try.prog [ResultVar.tmp 6] R)) (retK Try.prog [ResultVar.tmp 6] R))) (up (up (up (up (up (up (up (rho0 [a0, a1, a2]) 5 x5) 6 (Value.int .i64 0)) 9 x9) 10 x10) 11 x11) 54 x54) 53 x54) w) (BK Try.prog .eql 5 (.tmp 11) (.const (Value.int .u8 1)) x11 (Value.int .u8 1) w fun x55 w => sx fn_ Try.prog 66 dispatcherlaw14_act_R1 (blkK 0 (seqK (sx fn_ Try.prog 66 dispatcherlaw14_act_R0 (retK Try.prog [ResultVar.tmp 6] R)) (retK Try.prog [ResultVar.tmp 6] R))) (up (up (up (up (up (up (up (up (up (rho0 [a0, a1, a2]) 5 x5) 6 (Value.int .i64 0)) 9 x9) 10 x10) 11 x11) 54 x54) 53 x54) 55 x55) 53 x55) w)
theorem dispatcherlaw14_act_eq (a0 a1 a2 : Value) (w : World) (R : Value → World → Prop) : sx fn_ Try.prog 66 dispatcherlaw14_act_b (retK Try.prog Try.f20.results.toList R) (rho0 [a0, a1, a2]) w = dispatcherlaw14_act_F a0 a1 a2 w R := by kernel_rfl
theorem dispatcherlaw14_act_calls {a0 a1 a2 : Value} {w : World} {R : Value → World → Prop} (h : dispatcherlaw14_act_F a0 a1 a2 w R) : Calls Try.prog 20 #[a0, a1, a2] w fun e w' => ∃ v, e = .returned v ∧ R v w' :=
  Go.X.calls_of_sx (n := 66) (c := dispatcherlaw14_act_b) Try.func20 (by kernel_rfl) (by kernel_rfl) (Nat.le_of_ble_eq_true rfl) (by kernel_rfl) (Eq.mpr (dispatcherlaw14_act_eq a0 a1 a2 w R) h)
noncomputable def posted_Posted_At_b : Code := (Try.f21.body).getD .skip
noncomputable def posted_Posted_At_F (a0 a1 a2 : Value) (w : World) (R : Value → World → Prop) : Prop :=
  VK Try.prog (Instr.alloc 24 true (.tuple #[])) w fun x6 w => CK Try.prog (Value.func (Fn.func 42) #[] #[]) [a0, a1, a2] w fun x12 w => BK Try.prog .lss 3 (.tmp 13) (.const (Value.int .i64 0)) x12 (Value.int .i64 0) w fun x14 w => CondK x14 (VK Try.prog (Instr.build 24 [].toArray) w fun x15 w => UK Try.prog (Instr.storeAt 24 x6 x15) w fun _ w => ∃ x6_1, (do loadVar 24 (← asAddr x6) : Sem Value).run Try.prog w = .ok x6_1 w ∧ R (Value.tuple #[x6_1, (Value.bool false)]) w) (CK Try.prog (Value.func (Fn.func 40) #[] #[]) [a0, a1] w fun x18 w => VK Try.prog (Instr.indexAt 41 x18 x12) w fun x20 w => VK Try.prog (Instr.loadAt 24 x20) w fun x21 w => UK Try.prog (Instr.storeAt 24 x6 x21) w fun _ w => ∃ x6_2, (do loadVar 24 (← asAddr x6) : Sem Value).run Try.prog w = .ok x6_2 w ∧ R (Value.tuple #[x6_2, (Value.bool true)]) w)
theorem posted_Posted_At_eq (a0 a1 a2 : Value) (w : World) (R : Value → World → Prop) : sx fn_ Try.prog 22 posted_Posted_At_b (retK Try.prog Try.f21.results.toList R) (rho0 [a0, a1, a2]) w = posted_Posted_At_F a0 a1 a2 w R := by kernel_rfl
theorem posted_Posted_At_calls {a0 a1 a2 : Value} {w : World} {R : Value → World → Prop} (h : posted_Posted_At_F a0 a1 a2 w R) : Calls Try.prog 21 #[a0, a1, a2] w fun e w' => ∃ v, e = .returned v ∧ R v w' :=
  Go.X.calls_of_sx (n := 22) (c := posted_Posted_At_b) Try.func21 (by kernel_rfl) (by kernel_rfl) (Nat.le_of_ble_eq_true rfl) (by kernel_rfl) (Eq.mpr (posted_Posted_At_eq a0 a1 a2 w R) h)
noncomputable def dispatcherlaw14_within_b : Code := (Try.f22.body).getD .skip
noncomputable def dispatcherlaw14_within_L0 : Code := cAt [1, 0, 1, 0, 0] dispatcherlaw14_within_b
noncomputable def dispatcherlaw14_within_R1 : Code := cAt [1, 1] dispatcherlaw14_within_b
noncomputable def dispatcherlaw14_within_L2 : Code := cAt [1, 0, 1, 0, 0, 1, 0, 0, 1, 0, 1, 0, 0] dispatcherlaw14_within_b
noncomputable def dispatcherlaw14_within_R3 : Code := cAt [1, 0, 1, 0, 0, 1, 0, 0, 1, 1] dispatcherlaw14_within_b
noncomputable def dispatcherlaw14_within_R4 : Code := cAt [1, 0, 1, 0, 0, 1, 1] dispatcherlaw14_within_b
noncomputable def dispatcherlaw14_within_R5 : Code := cAt [1, 0, 1, 0, 0, 1, 0, 0, 1, 0, 1, 0, 0, 1, 0, 0] dispatcherlaw14_within_b
noncomputable def dispatcherlaw14_within_R6 : Code := cAt [1, 0, 1, 0, 0, 1, 0, 0, 1, 0, 1, 0, 0, 1, 1] dispatcherlaw14_within_b
noncomputable def dispatcherlaw14_within_L0_F (z : At) (K : Exit → Sl → World → Prop) (ρ : Sl) (w : World) : Prop :=
  IK Try.prog .len #[31] 3 [false] [(ρ 0)] w fun x10 w => BK Try.prog .lss 3 (.tmp 8) (.tmp 10) (ρ 5) x10 w fun x11 w => CondK x11 (W z Try.prog 34 (Code.loop dispatcherlaw14_within_L2) (blkK 2 (seqK (sx z Try.prog 34 dispatcherlaw14_within_R3 (blkK 1 (seqK (sx z Try.prog 34 dispatcherlaw14_within_R4 K) K))) (blkK 1 (seqK (sx z Try.prog 34 dispatcherlaw14_within_R4 K) K)))) (up (up (up (up (up (up ρ 8 (ρ 5)) 9 (ρ 0)) 10 x10) 11 x11) 6 (Value.bool false)) 7 (Value.int .i64 0)) w) (K (.exit 0) (up (up (up (up ρ 8 (ρ 5)) 9 (ρ 0)) 10 x10) 11 x11) w)
theorem dispatcherlaw14_within_L0_eq (z : At) (K : Exit → Sl → World → Prop) (ρ : Sl) (w : World) : sx z Try.prog 34 dispatcherlaw14_within_L0 K ρ w = dispatcherlaw14_within_L0_F z K ρ w := by kernel_rfl
theorem dispatcherlaw14_within_L0_ok : dstOk 34 dispatcherlaw14_within_L0 = true := by kernel_rfl
noncomputable def dispatcherlaw14_within_R1_F (z : At) (K : Exit → Sl → World → Prop) (ρ : Sl) (w : World) : Prop :=
  K .ret (up ρ 4 (Value.bool true)) w
theorem dispatcherlaw14_within_R1_eq (z : At) (K : Exit → Sl → World → Prop) (ρ : Sl) (w : World) : sx z Try.prog 34 dispatcherlaw14_within_R1 K ρ w = dispatcherlaw14_within_R1_F z K ρ w := by kernel_rfl
noncomputable def dispatcherlaw14_within_L2_F (z : At) (K : Exit → Sl → World → Prop) (ρ : Sl) (w : World) : Prop :=
  IK Try.prog .len #[31] 3 [false] [(ρ 1)] w fun x16 w => BK Try.prog .lss 3 (.tmp 14) (.tmp 16) (ρ 7) x16 w fun x17 w => CondK x17 (W z Try.prog 34 dispatcherlaw14_within_R5 (blkK 3 (seqK (sx z Try.prog 34 dispatcherlaw14_within_R6 K) K)) (up (up (up (up ρ 14 (ρ 7)) 15 (ρ 1)) 16 x16) 17 x17) w) (K (.exit 2) (up (up (up (up ρ 14 (ρ 7)) 15 (ρ 1)) 16 x16) 17 x17) w)
theorem dispatcherlaw14_within_L2_eq (z : At) (K : Exit → Sl → World → Prop) (ρ : Sl) (w : World) : sx z Try.prog 34 dispatcherlaw14_within_L2 K ρ w = dispatcherlaw14_within_L2_F z K ρ w := by kernel_rfl
theorem dispatcherlaw14_within_L2_ok : dstOk 34 dispatcherlaw14_within_L2 = true := by kernel_rfl
noncomputable def dispatcherlaw14_within_R3_F (z : At) (K : Exit → Sl → World → Prop) (ρ : Sl) (w : World) : Prop :=
  VK Try.prog (Op.unary UnOp.not (ρ 6)) w fun x33 w => CondK x33 (K .ret (up (up (up ρ 32 (ρ 6)) 33 x33) 4 (Value.bool false)) w) (K .normal (up (up ρ 32 (ρ 6)) 33 x33) w)
theorem dispatcherlaw14_within_R3_eq (z : At) (K : Exit → Sl → World → Prop) (ρ : Sl) (w : World) : sx z Try.prog 34 dispatcherlaw14_within_R3 K ρ w = dispatcherlaw14_within_R3_F z K ρ w := by kernel_rfl
noncomputable def dispatcherlaw14_within_R4_F (z : At) (K : Exit → Sl → World → Prop) (ρ : Sl) (w : World) : Prop :=
  BK Try.prog .add 3 (.tmp 12) (.const (Value.int .i64 1)) (ρ 5) (Value.int .i64 1) w fun x13 w => K .normal (up (up (up ρ 12 (ρ 5)) 13 x13) 5 x13) w
theorem dispatcherlaw14_within_R4_eq (z : At) (K : Exit → Sl → World → Prop) (ρ : Sl) (w : World) : sx z Try.prog 34 dispatcherlaw14_within_R4 K ρ w = dispatcherlaw14_within_R4_F z K ρ w := by kernel_rfl
noncomputable def dispatcherlaw14_within_R5_ops : Array Oper := opsOf dispatcherlaw14_within_R5
def dispatcherlaw14_within_R5_T (K : Exit → Sl → World → Prop) (ρ : Sl) (w : World) : Prop :=
  let C : World → Prop := fun w' => w' = w; QG Try.prog C (ρ 6) false  (pure (Next.value (ρ 0))) fun x22_1 => QG Try.prog C (ρ 6) false  (pure (Next.value (ρ 5))) fun x23_1 => QG Try.prog C (ρ 6) false  (do pure (Next.value (← Instr.indexAt 31 x22_1 x23_1))) fun x24_1 => QG Try.prog C (ρ 6) false  (do pure (Next.value (← Instr.loadAt 39 x24_1))) fun x25_1 => QG Try.prog C (ρ 6) false  (pure (Next.value (ρ 1))) fun x26_1 => QG Try.prog C (ρ 6) false  (pure (Next.value (ρ 7))) fun x27_1 => QG Try.prog C (ρ 6) false  (do pure (Next.value (← Instr.indexAt 31 x26_1 x27_1))) fun x28_1 => QG Try.prog C (ρ 6) false  (do pure (Next.value (← Instr.loadAt 39 x28_1))) fun x29_1 => BG Try.prog (ρ 6) false BinOp.eql 39 (Operand.tmp 25) (Operand.tmp 29) x25_1 x29_1 w fun x30_1 w => PK Try.prog (ρ 6) (Value.bool true) x30_1 w fun x31_1 w => K Exit.normal (up (up (up (up (up (up (up (up (up (up (up (up (up ρ 20 (ρ 6)) 21 (ρ 6)) 22 x22_1) 23 x23_1) 24 x24_1) 25 x25_1) 26 x26_1) 27 x27_1) 28 x28_1) 29 x29_1) 30 x30_1) 31 x31_1) 6 x31_1) w
theorem dispatcherlaw14_within_R5_tail {D : List Deferred} {K : Exit → Sl → World → Prop} {ρ : Sl} {w : World} (h : dispatcherlaw14_within_R5_T K ρ { w with drawn := w.drawn + 1 }) : W ⟨none, D⟩ Try.prog 34 dispatcherlaw14_within_R5 K ρ w := by
  have e : dispatcherlaw14_within_R5 = .region (idOf dispatcherlaw14_within_R5) dispatcherlaw14_within_R5_ops true := by kernel_rfl
  have q : sxq Try.prog (fun w' => w' = { w with drawn := w.drawn + 1 }) dispatcherlaw14_within_R5_ops (fun ρ' => sxL Try.prog dispatcherlaw14_within_R5_ops (K .normal) (dispatcherlaw14_within_R5_ops.toList.drop 10) ρ' { w with drawn := w.drawn + 1 }) (dispatcherlaw14_within_R5_ops.toList.take 10) ρ = dispatcherlaw14_within_R5_T K ρ { w with drawn := w.drawn + 1 } := by kernel_rfl
  rw [e]
  exact W_tail 10 (by kernel_rfl) (by kernel_rfl) (by kernel_rfl) (by kernel_rfl) (Eq.mpr q h)
noncomputable def dispatcherlaw14_within_R6_F (z : At) (K : Exit → Sl → World → Prop) (ρ : Sl) (w : World) : Prop :=
  BK Try.prog .add 3 (.tmp 18) (.const (Value.int .i64 1)) (ρ 7) (Value.int .i64 1) w fun x19 w => K .normal (up (up (up ρ 18 (ρ 7)) 19 x19) 7 x19) w
theorem dispatcherlaw14_within_R6_eq (z : At) (K : Exit → Sl → World → Prop) (ρ : Sl) (w : World) : sx z Try.prog 34 dispatcherlaw14_within_R6 K ρ w = dispatcherlaw14_within_R6_F z K ρ w := by kernel_rfl
noncomputable def dispatcherlaw14_within_F (a0 a1 : Value) (w : World) (R : Value → World → Prop) : Prop :=
  W fn_ Try.prog 34 (Code.loop dispatcherlaw14_within_L0) (blkK 0 (seqK (sx fn_ Try.prog 34 dispatcherlaw14_within_R1 (retK Try.prog [ResultVar.tmp 4] R)) (retK Try.prog [ResultVar.tmp 4] R))) (up (up (rho0 [a0, a1]) 4 (Value.bool false)) 5 (Value.int .i64 0)) w
theorem dispatcherlaw14_within_eq (a0 a1 : Value) (w : World) (R : Value → World → Prop) : sx fn_ Try.prog 34 dispatcherlaw14_within_b (retK Try.prog Try.f22.results.toList R) (rho0 [a0, a1]) w = dispatcherlaw14_within_F a0 a1 w R := by kernel_rfl
theorem dispatcherlaw14_within_calls {a0 a1 : Value} {w : World} {R : Value → World → Prop} (h : dispatcherlaw14_within_F a0 a1 w R) : Calls Try.prog 22 #[a0, a1] w fun e w' => ∃ v, e = .returned v ∧ R v w' :=
  Go.X.calls_of_sx (n := 34) (c := dispatcherlaw14_within_b) Try.func22 (by kernel_rfl) (by kernel_rfl) (Nat.le_of_ble_eq_true rfl) (by kernel_rfl) (Eq.mpr (dispatcherlaw14_within_eq a0 a1 w R) h)
noncomputable def posted_New_b : Code := (Try.f24.body).getD .skip
noncomputable def posted_New_F (w : World) (R : Value → World → Prop) : Prop :=
  VK Try.prog (Instr.build 61 [(0, (Value.bool true))].toArray) w fun x1 w => VK Try.prog (Instr.box 61 x1) w fun x2 w => R x2 w
theorem posted_New_calls {w : World} {R : Value → World → Prop} (h : posted_New_F  w R) : Calls Try.prog 24 #[] w fun e w' => ∃ v, e = .returned v ∧ R v w' :=
  Go.X.calls_eq (n := 3) (c := posted_New_b) (fn := Try.f24) (args := #[]) (F := posted_New_F  w R) (R := R) Try.func24 (by kernel_rfl) (by kernel_rfl) (Nat.le_of_ble_eq_true rfl) (by kernel_rfl) (by kernel_rfl) h
noncomputable def dispatcherlaw14_message_b : Code := (Try.f26.body).getD .skip
noncomputable def dispatcherlaw14_message_F (a0 a1 : Value) (w : World) (R : Value → World → Prop) : Prop :=
  VK Try.prog (Instr.alloc 39 true (.tuple #[])) w fun x4 w => VK Try.prog (Instr.build 39 [(1, (Value.int .i64 1)), (2, (Value.int .i64 0)), (3, a0), (4, a1), (6, (Value.int .i64 1))].toArray) w fun x7 w => UK Try.prog (Instr.storeAt 39 x4 x7) w fun _ w => ∃ x4_1, (do loadVar 39 (← asAddr x4) : Sem Value).run Try.prog w = .ok x4_1 w ∧ R x4_1 w
theorem dispatcherlaw14_message_eq (a0 a1 : Value) (w : World) (R : Value → World → Prop) : sx fn_ Try.prog 8 dispatcherlaw14_message_b (retK Try.prog Try.f26.results.toList R) (rho0 [a0, a1]) w = dispatcherlaw14_message_F a0 a1 w R := by kernel_rfl
theorem dispatcherlaw14_message_calls {a0 a1 : Value} {w : World} {R : Value → World → Prop} (h : dispatcherlaw14_message_F a0 a1 w R) : Calls Try.prog 26 #[a0, a1] w fun e w' => ∃ v, e = .returned v ∧ R v w' :=
  Go.X.calls_of_sx (n := 8) (c := dispatcherlaw14_message_b) Try.func26 (by kernel_rfl) (by kernel_rfl) (Nat.le_of_ble_eq_true rfl) (by kernel_rfl) (Eq.mpr (dispatcherlaw14_message_eq a0 a1 w R) h)
noncomputable def dispatcherlaw14_receive_b : Code := (Try.f27.body).getD .skip
noncomputable def dispatcherlaw14_receive_F (a0 a1 a2 : Value) (w : World) (R : Value → World → Prop) : Prop :=
  VK Try.prog (Instr.alloc 24 true (.tuple #[])) w fun x6 w => VK Try.prog (Instr.build 24 [(2, a0), (3, a1), (4, a2), (5, (Value.int .i64 (-1)))].toArray) w fun x10 w => UK Try.prog (Instr.storeAt 24 x6 x10) w fun _ w => ∃ x6_1, (do loadVar 24 (← asAddr x6) : Sem Value).run Try.prog w = .ok x6_1 w ∧ R x6_1 w
theorem dispatcherlaw14_receive_eq (a0 a1 a2 : Value) (w : World) (R : Value → World → Prop) : sx fn_ Try.prog 11 dispatcherlaw14_receive_b (retK Try.prog Try.f27.results.toList R) (rho0 [a0, a1, a2]) w = dispatcherlaw14_receive_F a0 a1 a2 w R := by kernel_rfl
theorem dispatcherlaw14_receive_calls {a0 a1 a2 : Value} {w : World} {R : Value → World → Prop} (h : dispatcherlaw14_receive_F a0 a1 a2 w R) : Calls Try.prog 27 #[a0, a1, a2] w fun e w' => ∃ v, e = .returned v ∧ R v w' :=
  Go.X.calls_of_sx (n := 11) (c := dispatcherlaw14_receive_b) Try.func27 (by kernel_rfl) (by kernel_rfl) (Nat.le_of_ble_eq_true rfl) (by kernel_rfl) (Eq.mpr (dispatcherlaw14_receive_eq a0 a1 a2 w R) h)
noncomputable def posted_free_b : Code := (Try.f39.body).getD .skip
noncomputable def posted_free_L0 : Code := cAt [1, 1, 1, 0, 1, 0, 0] posted_free_b
noncomputable def posted_free_R1 : Code := cAt [1, 1, 1, 1] posted_free_b
noncomputable def posted_free_R2 : Code := cAt [1, 1, 1, 0, 1, 0, 0, 1, 1, 1] posted_free_b
noncomputable def posted_free_R3 : Code := cAt [1, 1, 1, 0, 1, 0, 0, 1, 1, 0, 0, 1, 1, 1] posted_free_b
noncomputable def posted_free_L0_F (z : At) (K : Exit → Sl → World → Prop) (ρ : Sl) (w : World) : Prop :=
  BK Try.prog .lss 3 (.tmp 23) (.tmp 22) (ρ 23) (ρ 22) w fun x24 w => CondK x24 (VK Try.prog (Instr.indexAt 107 (ρ 21) (ρ 23)) w fun x25 w => VK Try.prog (Instr.loadAt 3 x25) w fun x26 w => VK Try.prog (Instr.fieldAt 24 (ρ 4) 3) w fun x27 w => VK Try.prog (Instr.loadAt 3 x27) w fun x28 w => BK Try.prog .neq 3 (.tmp 28) (.const (Value.int .i64 (-1))) x28 (Value.int .i64 (-1)) w fun x29 w => VG Try.prog x29 true (Instr.fieldAt 24 (ρ 4) 3) w fun x31 w => VG Try.prog x29 true (Instr.loadAt 3 x31) w fun x32 w => MG Try.prog x29 true x26 w fun x33 w => BG Try.prog x29 true .neq 3 (.tmp 32) (.tmp 33) x32 x33 w fun x34 w => PK Try.prog x29 x34 (Value.bool false) w fun x35 w => CondK x35 (sx z Try.prog 62 posted_free_R2 K (up (up (up (up (up (up (up (up (up (up (up (up (up ρ 24 x24) 25 x25) 26 x26) 10 x26) 27 x27) 28 x28) 29 x29) 30 x29) 31 x31) 32 x32) 33 x33) 34 x34) 35 x35) w) (VK Try.prog (Instr.fieldAt 24 (ρ 4) 0) w fun x38 w => VK Try.prog (Instr.loadAt 9 x38) w fun x39 w => VK Try.prog (Instr.fieldAt 24 (ρ 4) 1) w fun x41 w => VK Try.prog (Instr.loadAt 3 x41) w fun x42 w => VK Try.prog (Instr.fieldAt 24 (ρ 4) 4) w fun x43 w => VK Try.prog (Instr.loadAt 3 x43) w fun x44 w => CK Try.prog (Value.func (Fn.func 63) #[] #[]) [(ρ 0), x39, x26, x42, x44] w fun x45 w => VK Try.prog (Instr.extract x45 0) w fun x46 w => VK Try.prog (Instr.extract x45 1) w fun x47 w => VK Try.prog (Instr.alloc 39 true (.tuple #[])) w fun x11 w => UK Try.prog (Instr.storeAt 39 x11 x46) w fun _ w => sx z Try.prog 62 posted_free_R3 (blkK 1 (seqK (sx z Try.prog 62 posted_free_R2 K) K)) (up (up (up (up (up (up (up (up (up (up (up (up (up (up (up (up (up (up (up (up (up (up (up (up (up (up (up ρ 24 x24) 25 x25) 26 x26) 10 x26) 27 x27) 28 x28) 29 x29) 30 x29) 31 x31) 32 x32) 33 x33) 34 x34) 35 x35) 37 (ρ 0)) 38 x38) 39 x39) 40 x26) 41 x41) 42 x42) 43 x43) 44 x44) 45 x45) 36 x45) 46 x46) 47 x47) 11 x11) 12 x47) w)) (K (.exit 0) (up ρ 24 x24) w)
theorem posted_free_L0_eq (z : At) (K : Exit → Sl → World → Prop) (ρ : Sl) (w : World) : sx z Try.prog 62 posted_free_L0 K ρ w = posted_free_L0_F z K ρ w := by kernel_rfl
theorem posted_free_L0_ok : dstOk 62 posted_free_L0 = true := by kernel_rfl
noncomputable def posted_free_R1_F (z : At) (K : Exit → Sl → World → Prop) (ρ : Sl) (w : World) : Prop :=
  K .ret (up (up ρ 61 (ρ 7)) 6 (ρ 7)) w
theorem posted_free_R1_eq (z : At) (K : Exit → Sl → World → Prop) (ρ : Sl) (w : World) : sx z Try.prog 62 posted_free_R1 K ρ w = posted_free_R1_F z K ρ w := by kernel_rfl
noncomputable def posted_free_R2_F (z : At) (K : Exit → Sl → World → Prop) (ρ : Sl) (w : World) : Prop :=
  BK Try.prog .add 3 (.tmp 23) (.const (Value.int .i64 1)) (ρ 23) (Value.int .i64 1) w fun x60 w => K .normal (up (up ρ 60 x60) 23 x60) w
theorem posted_free_R2_eq (z : At) (K : Exit → Sl → World → Prop) (ρ : Sl) (w : World) : sx z Try.prog 62 posted_free_R2 K ρ w = posted_free_R2_F z K ρ w := by kernel_rfl
noncomputable def posted_free_R3_F (z : At) (K : Exit → Sl → World → Prop) (ρ : Sl) (w : World) : Prop :=
  VK Try.prog (Instr.makeFunc (Fn.func 65) [].toArray [(ρ 11)].toArray) w fun x49 w => CK Try.prog (Value.func (Fn.func 64) #[] #[]) [(ρ 8), x49] w fun x50 w => MG Try.prog (ρ 12) true x50 w fun x53 w => VG Try.prog (ρ 12) true (Op.unary UnOp.not x53) w fun x54 w => PK Try.prog (ρ 12) x54 (Value.bool false) w fun x55 w => CondK x55 (VK Try.prog (Instr.loadAt 39 (ρ 11)) w fun x57 w => VK Try.prog (Instr.buildSlice 31 1 [(0, x57)].toArray) w fun x58 w => IK Try.prog .append #[31, 31] 31 [false, false] [(ρ 7), x58] w fun x59 w => K .normal (up (up (up (up (up (up (up (up (up (up (up (up (up (up ρ 48 (ρ 8)) 49 x49) 50 x50) 13 x50) 51 (ρ 12)) 52 (ρ 12)) 53 x53) 54 x54) 55 x55) 56 (ρ 7)) 57 x57) 58 x58) 59 x59) 7 x59) w) (K .normal (up (up (up (up (up (up (up (up (up ρ 48 (ρ 8)) 49 x49) 50 x50) 13 x50) 51 (ρ 12)) 52 (ρ 12)) 53 x53) 54 x54) 55 x55) w)
theorem posted_free_R3_eq (z : At) (K : Exit → Sl → World → Prop) (ρ : Sl) (w : World) : sx z Try.prog 62 posted_free_R3 K ρ w = posted_free_R3_F z K ρ w := by kernel_rfl
noncomputable def posted_free_F (a0 a1 a2 : Value) (w : World) (R : Value → World → Prop) : Prop :=
  VK Try.prog (Instr.box 24 a1) w fun x4 w => CK Try.prog (Value.func (Fn.func 46) #[] #[]) [a2, (Value.func (Fn.func 47) #[] #[])] w fun x15 w => VK Try.prog (Instr.fieldAt 24 x4 0) w fun x17 w => VK Try.prog (Instr.loadAt 9 x17) w fun x18 w => VK Try.prog (Instr.fieldAt 24 x4 1) w fun x19 w => VK Try.prog (Instr.loadAt 3 x19) w fun x20 w => CK Try.prog (Value.func (Fn.func 62) #[] #[]) [a0, x18, x20] w fun x21 w => IK Try.prog .len #[107] 3 [false] [x21] w fun x22 w => W fn_ Try.prog 62 (Code.loop posted_free_L0) (blkK 0 (seqK (sx fn_ Try.prog 62 posted_free_R1 (retK Try.prog [ResultVar.tmp 6] R)) (retK Try.prog [ResultVar.tmp 6] R))) (up (up (up (up (up (up (up (up (up (up (up (up (up (up (rho0 [a0, a1, a2]) 4 x4) 6 (Value.slice none 0 0)) 7 (Value.slice none 0 0)) 14 a2) 15 x15) 8 x15) 16 a0) 17 x17) 18 x18) 19 x19) 20 x20) 21 x21) 22 x22) 23 (Value.int .i64 0)) w
theorem posted_free_eq (a0 a1 a2 : Value) (w : World) (R : Value → World → Prop) : sx fn_ Try.prog 62 posted_free_b (retK Try.prog Try.f39.results.toList R) (rho0 [a0, a1, a2]) w = posted_free_F a0 a1 a2 w R := by kernel_rfl
theorem posted_free_calls {a0 a1 a2 : Value} {w : World} {R : Value → World → Prop} (h : posted_free_F a0 a1 a2 w R) : Calls Try.prog 39 #[a0, a1, a2] w fun e w' => ∃ v, e = .returned v ∧ R v w' :=
  Go.X.calls_of_sx (n := 62) (c := posted_free_b) Try.func39 (by kernel_rfl) (by kernel_rfl) (Nat.le_of_ble_eq_true rfl) (by kernel_rfl) (Eq.mpr (posted_free_eq a0 a1 a2 w R) h)
noncomputable def posted_Posted_of_b : Code := (Try.f40.body).getD .skip
noncomputable def posted_Posted_of_F (a0 a1 : Value) (w : World) (R : Value → World → Prop) : Prop :=
  BK Try.prog .eql 28 (.tmp 5) (.const (Value.pointer none)) a0 (Value.pointer none) w fun x6 w => MG Try.prog x6 false a0 w fun x8 w => NG Try.prog x6 false x8 w fun x9 w => VG Try.prog x6 false (Instr.fieldAt 61 x9 0) w fun x10 w => VG Try.prog x6 false (Instr.loadAt 4 x10) w fun x11 w => VG Try.prog x6 false (Op.unary UnOp.not x11) w fun x12 w => PK Try.prog x6 (Value.bool true) x12 w fun x13 w => MG Try.prog x13 false a1 w fun x15 w => CG Try.prog x13 false (Value.func (Fn.func 41) #[] #[]) [x15, (Value.int .i64 0), (Value.int .i64 63)] w fun x16 w => VG Try.prog x13 false (Op.unary UnOp.not x16) w fun x17 w => PK Try.prog x13 (Value.bool true) x17 w fun x18 w => CondK x18 (R (Value.slice none 0 0) w) (NK Try.prog a0 w fun x21 w => VK Try.prog (Instr.fieldAt 61 x21 1) w fun x22 w => VK Try.prog (Instr.indexAt 59 x22 a1) w fun x23 w => VK Try.prog (Instr.loadAt 41 x23) w fun x24 w => R x24 w)
theorem posted_Posted_of_eq (a0 a1 : Value) (w : World) (R : Value → World → Prop) : sx fn_ Try.prog 25 posted_Posted_of_b (retK Try.prog Try.f40.results.toList R) (rho0 [a0, a1]) w = posted_Posted_of_F a0 a1 w R := by kernel_rfl
theorem posted_Posted_of_calls {a0 a1 : Value} {w : World} {R : Value → World → Prop} (h : posted_Posted_of_F a0 a1 w R) : Calls Try.prog 40 #[a0, a1] w fun e w' => ∃ v, e = .returned v ∧ R v w' :=
  Go.X.calls_of_sx (n := 25) (c := posted_Posted_of_b) Try.func40 (by kernel_rfl) (by kernel_rfl) (Nat.le_of_ble_eq_true rfl) (by kernel_rfl) (Eq.mpr (posted_Posted_of_eq a0 a1 w R) h)
noncomputable def posted_in_b : Code := (Try.f41.body).getD .skip
noncomputable def posted_in_F (a0 a1 a2 : Value) (w : World) (R : Value → World → Prop) : Prop :=
  BK Try.prog .geq 3 (.tmp 7) (.tmp 8) a0 a1 w fun x9 w => MG Try.prog x9 true a0 w fun x11 w => MG Try.prog x9 true a2 w fun x12 w => BG Try.prog x9 true .leq 3 (.tmp 11) (.tmp 12) x11 x12 w fun x13 w => PK Try.prog x9 x13 (Value.bool false) w fun x14 w => R x14 w
theorem posted_in_eq (a0 a1 a2 : Value) (w : World) (R : Value → World → Prop) : sx fn_ Try.prog 15 posted_in_b (retK Try.prog Try.f41.results.toList R) (rho0 [a0, a1, a2]) w = posted_in_F a0 a1 a2 w R := by kernel_rfl
theorem posted_in_calls {a0 a1 a2 : Value} {w : World} {R : Value → World → Prop} (h : posted_in_F a0 a1 a2 w R) : Calls Try.prog 41 #[a0, a1, a2] w fun e w' => ∃ v, e = .returned v ∧ R v w' :=
  Go.X.calls_of_sx (n := 15) (c := posted_in_b) Try.func41 (by kernel_rfl) (by kernel_rfl) (Nat.le_of_ble_eq_true rfl) (by kernel_rfl) (Eq.mpr (posted_in_eq a0 a1 a2 w R) h)
noncomputable def posted_Posted_place_b : Code := (Try.f42.body).getD .skip
noncomputable def posted_Posted_place_F (a0 a1 a2 : Value) (w : World) (R : Value → World → Prop) : Prop :=
  VK Try.prog (Instr.box 3 a2) w fun x5 w => CK Try.prog (Value.func (Fn.func 40) #[] #[]) [a0, a1] w fun x9 w => VK Try.prog (Instr.makeFunc (Fn.func 67) [].toArray [x5].toArray) w fun x10 w => CK Try.prog (Value.func (Fn.func 66) #[] #[]) [x9, x10] w fun x11 w => R x11 w
theorem posted_Posted_place_eq (a0 a1 a2 : Value) (w : World) (R : Value → World → Prop) : sx fn_ Try.prog 12 posted_Posted_place_b (retK Try.prog Try.f42.results.toList R) (rho0 [a0, a1, a2]) w = posted_Posted_place_F a0 a1 a2 w R := by kernel_rfl
theorem posted_Posted_place_calls {a0 a1 a2 : Value} {w : World} {R : Value → World → Prop} (h : posted_Posted_place_F a0 a1 a2 w R) : Calls Try.prog 42 #[a0, a1, a2] w fun e w' => ∃ v, e = .returned v ∧ R v w' :=
  Go.X.calls_of_sx (n := 12) (c := posted_Posted_place_b) Try.func42 (by kernel_rfl) (by kernel_rfl) (Nat.le_of_ble_eq_true rfl) (by kernel_rfl) (Eq.mpr (posted_Posted_place_eq a0 a1 a2 w R) h)
noncomputable def posted_Posted_Match_1_b : Code := (Try.f43.body).getD .skip
noncomputable def posted_Posted_Match_1_F (a0 a1 a2 : Value) (w : World) (R : Value → World → Prop) : Prop :=
  VK Try.prog (Instr.box 39 a0) w fun x3 w => VK Try.prog (Instr.fieldAt 39 x3 1) w fun x5 w => VK Try.prog (Instr.loadAt 3 x5) w fun x6 w => VK Try.prog (Instr.loadAt 3 a1) w fun x7 w => BK Try.prog .eql 3 (.tmp 6) (.tmp 7) x6 x7 w fun x8 w => VG Try.prog x8 true (Instr.fieldAt 39 x3 3) w fun x10 w => VG Try.prog x8 true (Instr.loadAt 3 x10) w fun x11 w => VG Try.prog x8 true (Instr.loadAt 3 a2) w fun x12 w => BG Try.prog x8 true .eql 3 (.tmp 11) (.tmp 12) x11 x12 w fun x13 w => PK Try.prog x8 x13 (Value.bool false) w fun x14 w => R x14 w
theorem posted_Posted_Match_1_eq (a0 a1 a2 : Value) (w : World) (R : Value → World → Prop) : sx fn_ Try.prog 15 posted_Posted_Match_1_b (retK Try.prog Try.f43.results.toList R) (rho0 [a0, a1, a2]) w = posted_Posted_Match_1_F a0 a1 a2 w R := by kernel_rfl
theorem posted_Posted_Match_1_calls {a0 a1 a2 : Value} {w : World} {R : Value → World → Prop} (h : posted_Posted_Match_1_F a0 a1 a2 w R) : Calls Try.prog 43 #[a0, a1, a2] w fun e w' => ∃ v, e = .returned v ∧ R v w' :=
  Go.X.calls_of_sx (n := 15) (c := posted_Posted_Match_1_b) Try.func43 (by kernel_rfl) (by kernel_rfl) (Nat.le_of_ble_eq_true rfl) (by kernel_rfl) (Eq.mpr (posted_Posted_Match_1_eq a0 a1 a2 w R) h)
noncomputable def posted_kept_posted_Receive_b : Code := (Try.f46.body).getD .skip
noncomputable def posted_kept_posted_Receive_L0 : Code := cAt [1, 1, 0, 1, 0, 0] posted_kept_posted_Receive_b
noncomputable def posted_kept_posted_Receive_R1 : Code := cAt [1, 1, 1] posted_kept_posted_Receive_b
noncomputable def posted_kept_posted_Receive_R2 : Code := cAt [1, 1, 0, 1, 0, 0, 1, 1, 1] posted_kept_posted_Receive_b
noncomputable def posted_kept_posted_Receive_L0_F (z : At) (K : Exit → Sl → World → Prop) (ρ : Sl) (w : World) : Prop :=
  BK Try.prog .lss 3 (.tmp 10) (.tmp 9) (ρ 10) (ρ 9) w fun x11 w => CondK x11 (VK Try.prog (Instr.indexAt 41 (ρ 8) (ρ 10)) w fun x12 w => VK Try.prog (Instr.loadAt 24 x12) w fun x13 w => VK Try.prog (Instr.alloc 24 true (.tuple #[])) w fun x7 w => UK Try.prog (Instr.storeAt 24 x7 x13) w fun _ w => VK Try.prog (Instr.loadAt 24 x7) w fun x15 w => CK Try.prog (ρ 1) [x15] w fun x16 w => CondK x16 (VK Try.prog (Instr.loadAt 24 x7) w fun x18 w => VK Try.prog (Instr.buildSlice 41 1 [(0, x18)].toArray) w fun x19 w => IK Try.prog .append #[41, 41] 41 [false, false] [(ρ 5), x19] w fun x20 w => sx z Try.prog 23 posted_kept_posted_Receive_R2 K (up (up (up (up (up (up (up (up (up (up (up (up ρ 11 x11) 12 x12) 13 x13) 7 x7) 14 (ρ 1)) 15 x15) 16 x16) 17 (ρ 5)) 18 x18) 19 x19) 20 x20) 5 x20) w) (sx z Try.prog 23 posted_kept_posted_Receive_R2 K (up (up (up (up (up (up (up ρ 11 x11) 12 x12) 13 x13) 7 x7) 14 (ρ 1)) 15 x15) 16 x16) w)) (K (.exit 0) (up ρ 11 x11) w)
theorem posted_kept_posted_Receive_L0_eq (z : At) (K : Exit → Sl → World → Prop) (ρ : Sl) (w : World) : sx z Try.prog 23 posted_kept_posted_Receive_L0 K ρ w = posted_kept_posted_Receive_L0_F z K ρ w := by kernel_rfl
theorem posted_kept_posted_Receive_L0_ok : dstOk 23 posted_kept_posted_Receive_L0 = true := by kernel_rfl
noncomputable def posted_kept_posted_Receive_R1_F (z : At) (K : Exit → Sl → World → Prop) (ρ : Sl) (w : World) : Prop :=
  K .ret (up (up ρ 22 (ρ 5)) 4 (ρ 5)) w
theorem posted_kept_posted_Receive_R1_eq (z : At) (K : Exit → Sl → World → Prop) (ρ : Sl) (w : World) : sx z Try.prog 23 posted_kept_posted_Receive_R1 K ρ w = posted_kept_posted_Receive_R1_F z K ρ w := by kernel_rfl
noncomputable def posted_kept_posted_Receive_R2_F (z : At) (K : Exit → Sl → World → Prop) (ρ : Sl) (w : World) : Prop :=
  BK Try.prog .add 3 (.tmp 10) (.const (Value.int .i64 1)) (ρ 10) (Value.int .i64 1) w fun x21 w => K .normal (up (up ρ 21 x21) 10 x21) w
theorem posted_kept_posted_Receive_R2_eq (z : At) (K : Exit → Sl → World → Prop) (ρ : Sl) (w : World) : sx z Try.prog 23 posted_kept_posted_Receive_R2 K ρ w = posted_kept_posted_Receive_R2_F z K ρ w := by kernel_rfl
noncomputable def posted_kept_posted_Receive_F (a0 a1 : Value) (w : World) (R : Value → World → Prop) : Prop :=
  IK Try.prog .len #[41] 3 [false] [a0] w fun x9 w => W fn_ Try.prog 23 (Code.loop posted_kept_posted_Receive_L0) (blkK 0 (seqK (sx fn_ Try.prog 23 posted_kept_posted_Receive_R1 (retK Try.prog [ResultVar.tmp 4] R)) (retK Try.prog [ResultVar.tmp 4] R))) (up (up (up (up (up (rho0 [a0, a1]) 4 (Value.slice none 0 0)) 5 (Value.slice none 0 0)) 8 a0) 9 x9) 10 (Value.int .i64 0)) w
theorem posted_kept_posted_Receive_eq (a0 a1 : Value) (w : World) (R : Value → World → Prop) : sx fn_ Try.prog 23 posted_kept_posted_Receive_b (retK Try.prog Try.f46.results.toList R) (rho0 [a0, a1]) w = posted_kept_posted_Receive_F a0 a1 w R := by kernel_rfl
theorem posted_kept_posted_Receive_calls {a0 a1 : Value} {w : World} {R : Value → World → Prop} (h : posted_kept_posted_Receive_F a0 a1 w R) : Calls Try.prog 46 #[a0, a1] w fun e w' => ∃ v, e = .returned v ∧ R v w' :=
  Go.X.calls_of_sx (n := 23) (c := posted_kept_posted_Receive_b) Try.func46 (by kernel_rfl) (by kernel_rfl) (Nat.le_of_ble_eq_true rfl) (by kernel_rfl) (Eq.mpr (posted_kept_posted_Receive_eq a0 a1 w R) h)
noncomputable def posted_Receive_waits_b : Code := (Try.f47.body).getD .skip
noncomputable def posted_Receive_waits_F (a0 : Value) (w : World) (R : Value → World → Prop) : Prop :=
  VK Try.prog (Instr.box 24 a0) w fun x1 w => VK Try.prog (Instr.fieldAt 24 x1 6) w fun x3 w => VK Try.prog (Instr.loadAt 4 x3) w fun x4 w => VK Try.prog (Op.unary UnOp.not x4) w fun x5 w => R x5 w
theorem posted_Receive_waits_eq (a0 : Value) (w : World) (R : Value → World → Prop) : sx fn_ Try.prog 6 posted_Receive_waits_b (retK Try.prog Try.f47.results.toList R) (rho0 [a0]) w = posted_Receive_waits_F a0 w R := by kernel_rfl
theorem posted_Receive_waits_calls {a0 : Value} {w : World} {R : Value → World → Prop} (h : posted_Receive_waits_F a0 w R) : Calls Try.prog 47 #[a0] w fun e w' => ∃ v, e = .returned v ∧ R v w' :=
  Go.X.calls_of_sx (n := 6) (c := posted_Receive_waits_b) Try.func47 (by kernel_rfl) (by kernel_rfl) (Nat.le_of_ble_eq_true rfl) (by kernel_rfl) (Eq.mpr (posted_Receive_waits_eq a0 w R) h)
noncomputable def posted_Receive_fits_b : Code := (Try.f48.body).getD .skip
noncomputable def posted_Receive_fits_F (a0 a1 : Value) (w : World) (R : Value → World → Prop) : Prop :=
  VK Try.prog (Instr.box 24 a0) w fun x2 w => VK Try.prog (Instr.box 39 a1) w fun x3 w => VK Try.prog (Instr.fieldAt 24 x2 0) w fun x5 w => VK Try.prog (Instr.loadAt 9 x5) w fun x6 w => VK Try.prog (Instr.fieldAt 39 x3 0) w fun x7 w => VK Try.prog (Instr.loadAt 9 x7) w fun x8 w => BK Try.prog .eql 9 (.tmp 6) (.tmp 8) x6 x8 w fun x9 w => VG Try.prog x9 true (Instr.fieldAt 24 x2 1) w fun x11 w => VG Try.prog x9 true (Instr.loadAt 3 x11) w fun x12 w => VG Try.prog x9 true (Instr.fieldAt 39 x3 2) w fun x13 w => VG Try.prog x9 true (Instr.loadAt 3 x13) w fun x14 w => BG Try.prog x9 true .eql 3 (.tmp 12) (.tmp 14) x12 x14 w fun x15 w => PK Try.prog x9 x15 (Value.bool false) w fun x16 w => VG Try.prog x16 true (Instr.fieldAt 24 x2 3) w fun x18 w => VG Try.prog x16 true (Instr.loadAt 3 x18) w fun x19 w => BG Try.prog x16 true .eql 3 (.tmp 19) (.const (Value.int .i64 (-1))) x19 (Value.int .i64 (-1)) w fun x20 w => MG Try.prog x16 true x20 w fun x21 w => VG Try.prog x21 false (Instr.fieldAt 24 x2 3) w fun x22 w => VG Try.prog x21 false (Instr.loadAt 3 x22) w fun x23 w => VG Try.prog x21 false (Instr.fieldAt 39 x3 1) w fun x24 w => VG Try.prog x21 false (Instr.loadAt 3 x24) w fun x25 w => BG Try.prog x21 false .eql 3 (.tmp 23) (.tmp 25) x23 x25 w fun x26 w => PG Try.prog x16 true x21 (Value.bool true) x26 w fun x27 w => PK Try.prog x16 x27 (Value.bool false) w fun x28 w => VG Try.prog x28 true (Instr.fieldAt 24 x2 4) w fun x30 w => VG Try.prog x28 true (Instr.loadAt 3 x30) w fun x31 w => BG Try.prog x28 true .eql 3 (.tmp 31) (.const (Value.int .i64 (-1))) x31 (Value.int .i64 (-1)) w fun x32 w => MG Try.prog x28 true x32 w fun x33 w => VG Try.prog x33 false (Instr.fieldAt 24 x2 4) w fun x34 w => VG Try.prog x33 false (Instr.loadAt 3 x34) w fun x35 w => VG Try.prog x33 false (Instr.fieldAt 39 x3 4) w fun x36 w => VG Try.prog x33 false (Instr.loadAt 3 x36) w fun x37 w => BG Try.prog x33 false .eql 3 (.tmp 35) (.tmp 37) x35 x37 w fun x38 w => PG Try.prog x28 true x33 (Value.bool true) x38 w fun x39 w => PK Try.prog x28 x39 (Value.bool false) w fun x40 w => R x40 w
theorem posted_Receive_fits_eq (a0 a1 : Value) (w : World) (R : Value → World → Prop) : sx fn_ Try.prog 41 posted_Receive_fits_b (retK Try.prog Try.f48.results.toList R) (rho0 [a0, a1]) w = posted_Receive_fits_F a0 a1 w R := by kernel_rfl
theorem posted_Receive_fits_calls {a0 a1 : Value} {w : World} {R : Value → World → Prop} (h : posted_Receive_fits_F a0 a1 w R) : Calls Try.prog 48 #[a0, a1] w fun e w' => ∃ v, e = .returned v ∧ R v w' :=
  Go.X.calls_of_sx (n := 41) (c := posted_Receive_fits_b) Try.func48 (by kernel_rfl) (by kernel_rfl) (Nat.le_of_ble_eq_true rfl) (by kernel_rfl) (Eq.mpr (posted_Receive_fits_eq a0 a1 w R) h)
noncomputable def slices_ContainsFunc_posted_Receive_posted_Receive_b : Code := (Try.f64.body).getD .skip
noncomputable def slices_ContainsFunc_posted_Receive_posted_Receive_F (a0 a1 : Value) (w : World) (R : Value → World → Prop) : Prop :=
  CK Try.prog (Value.func (Fn.func 66) #[] #[]) [a0, a1] w fun x7 w => BK Try.prog .geq 3 (.tmp 7) (.const (Value.int .i64 0)) x7 (Value.int .i64 0) w fun x8 w => R x8 w
theorem slices_ContainsFunc_posted_Receive_posted_Receive_eq (a0 a1 : Value) (w : World) (R : Value → World → Prop) : sx fn_ Try.prog 9 slices_ContainsFunc_posted_Receive_posted_Receive_b (retK Try.prog Try.f64.results.toList R) (rho0 [a0, a1]) w = slices_ContainsFunc_posted_Receive_posted_Receive_F a0 a1 w R := by kernel_rfl
theorem slices_ContainsFunc_posted_Receive_posted_Receive_calls {a0 a1 : Value} {w : World} {R : Value → World → Prop} (h : slices_ContainsFunc_posted_Receive_posted_Receive_F a0 a1 w R) : Calls Try.prog 64 #[a0, a1] w fun e w' => ∃ v, e = .returned v ∧ R v w' :=
  Go.X.calls_of_sx (n := 9) (c := slices_ContainsFunc_posted_Receive_posted_Receive_b) Try.func64 (by kernel_rfl) (by kernel_rfl) (Nat.le_of_ble_eq_true rfl) (by kernel_rfl) (Eq.mpr (slices_ContainsFunc_posted_Receive_posted_Receive_eq a0 a1 w R) h)
noncomputable def posted_free_1_b : Code := (Try.f65.body).getD .skip
noncomputable def posted_free_1_F (a0 a1 : Value) (w : World) (R : Value → World → Prop) : Prop :=
  VK Try.prog (Instr.box 24 a0) w fun x2 w => VK Try.prog (Instr.loadAt 24 x2) w fun x4 w => VK Try.prog (Instr.loadAt 39 a1) w fun x5 w => CK Try.prog (Value.func (Fn.func 48) #[] #[]) [x4, x5] w fun x6 w => R x6 w
theorem posted_free_1_eq (a0 a1 : Value) (w : World) (R : Value → World → Prop) : sx fn_ Try.prog 7 posted_free_1_b (retK Try.prog Try.f65.results.toList R) (rho0 [a0, a1]) w = posted_free_1_F a0 a1 w R := by kernel_rfl
theorem posted_free_1_calls {a0 a1 : Value} {w : World} {R : Value → World → Prop} (h : posted_free_1_F a0 a1 w R) : Calls Try.prog 65 #[a0, a1] w fun e w' => ∃ v, e = .returned v ∧ R v w' :=
  Go.X.calls_of_sx (n := 7) (c := posted_free_1_b) Try.func65 (by kernel_rfl) (by kernel_rfl) (Nat.le_of_ble_eq_true rfl) (by kernel_rfl) (Eq.mpr (posted_free_1_eq a0 a1 w R) h)
noncomputable def slices_IndexFunc_posted_Receive_posted_Receive_b : Code := (Try.f66.body).getD .skip
noncomputable def slices_IndexFunc_posted_Receive_posted_Receive_L0 : Code := cAt [1, 0, 1, 0, 0] slices_IndexFunc_posted_Receive_posted_Receive_b
noncomputable def slices_IndexFunc_posted_Receive_posted_Receive_R1 : Code := cAt [1, 1] slices_IndexFunc_posted_Receive_posted_Receive_b
noncomputable def slices_IndexFunc_posted_Receive_posted_Receive_L0_F (z : At) (K : Exit → Sl → World → Prop) (ρ : Sl) (w : World) : Prop :=
  BK Try.prog .lss 3 (.tmp 8) (.tmp 7) (ρ 8) (ρ 7) w fun x9 w => CondK x9 (VK Try.prog (Instr.indexAt 41 (ρ 0) (ρ 8)) w fun x14 w => VK Try.prog (Instr.loadAt 24 x14) w fun x15 w => CK Try.prog (ρ 1) [x15] w fun x16 w => CondK x16 (K .ret (up (up (up (up (up (up (up (up (up (up (up ρ 9 x9) 10 (ρ 8)) 5 (ρ 8)) 11 (ρ 1)) 12 (ρ 0)) 13 (ρ 8)) 14 x14) 15 x15) 16 x16) 17 (ρ 8)) 4 (ρ 8)) w) (BK Try.prog .add 3 (.tmp 8) (.const (Value.int .i64 1)) (ρ 8) (Value.int .i64 1) w fun x18 w => K .normal (up (up (up (up (up (up (up (up (up (up (up ρ 9 x9) 10 (ρ 8)) 5 (ρ 8)) 11 (ρ 1)) 12 (ρ 0)) 13 (ρ 8)) 14 x14) 15 x15) 16 x16) 18 x18) 8 x18) w)) (K (.exit 0) (up ρ 9 x9) w)
theorem slices_IndexFunc_posted_Receive_posted_Receive_L0_eq (z : At) (K : Exit → Sl → World → Prop) (ρ : Sl) (w : World) : sx z Try.prog 19 slices_IndexFunc_posted_Receive_posted_Receive_L0 K ρ w = slices_IndexFunc_posted_Receive_posted_Receive_L0_F z K ρ w := by kernel_rfl
theorem slices_IndexFunc_posted_Receive_posted_Receive_L0_ok : dstOk 19 slices_IndexFunc_posted_Receive_posted_Receive_L0 = true := by kernel_rfl
noncomputable def slices_IndexFunc_posted_Receive_posted_Receive_R1_F (z : At) (K : Exit → Sl → World → Prop) (ρ : Sl) (w : World) : Prop :=
  K .ret (up ρ 4 (Value.int .i64 (-1))) w
theorem slices_IndexFunc_posted_Receive_posted_Receive_R1_eq (z : At) (K : Exit → Sl → World → Prop) (ρ : Sl) (w : World) : sx z Try.prog 19 slices_IndexFunc_posted_Receive_posted_Receive_R1 K ρ w = slices_IndexFunc_posted_Receive_posted_Receive_R1_F z K ρ w := by kernel_rfl
noncomputable def slices_IndexFunc_posted_Receive_posted_Receive_F (a0 a1 : Value) (w : World) (R : Value → World → Prop) : Prop :=
  IK Try.prog .len #[41] 3 [false] [a0] w fun x7 w => W fn_ Try.prog 19 (Code.loop slices_IndexFunc_posted_Receive_posted_Receive_L0) (blkK 0 (seqK (sx fn_ Try.prog 19 slices_IndexFunc_posted_Receive_posted_Receive_R1 (retK Try.prog [ResultVar.tmp 4] R)) (retK Try.prog [ResultVar.tmp 4] R))) (up (up (up (up (rho0 [a0, a1]) 4 (Value.int .i64 0)) 6 a0) 7 x7) 8 (Value.int .i64 0)) w
theorem slices_IndexFunc_posted_Receive_posted_Receive_eq (a0 a1 : Value) (w : World) (R : Value → World → Prop) : sx fn_ Try.prog 19 slices_IndexFunc_posted_Receive_posted_Receive_b (retK Try.prog Try.f66.results.toList R) (rho0 [a0, a1]) w = slices_IndexFunc_posted_Receive_posted_Receive_F a0 a1 w R := by kernel_rfl
theorem slices_IndexFunc_posted_Receive_posted_Receive_calls {a0 a1 : Value} {w : World} {R : Value → World → Prop} (h : slices_IndexFunc_posted_Receive_posted_Receive_F a0 a1 w R) : Calls Try.prog 66 #[a0, a1] w fun e w' => ∃ v, e = .returned v ∧ R v w' :=
  Go.X.calls_of_sx (n := 19) (c := slices_IndexFunc_posted_Receive_posted_Receive_b) Try.func66 (by kernel_rfl) (by kernel_rfl) (Nat.le_of_ble_eq_true rfl) (by kernel_rfl) (Eq.mpr (slices_IndexFunc_posted_Receive_posted_Receive_eq a0 a1 w R) h)
noncomputable def posted_Posted_place_1_b : Code := (Try.f67.body).getD .skip
noncomputable def posted_Posted_place_1_F (a0 a1 : Value) (w : World) (R : Value → World → Prop) : Prop :=
  VK Try.prog (Instr.box 24 a0) w fun x2 w => VK Try.prog (Instr.fieldAt 24 x2 2) w fun x4 w => VK Try.prog (Instr.loadAt 3 x4) w fun x5 w => VK Try.prog (Instr.loadAt 3 a1) w fun x6 w => BK Try.prog .eql 3 (.tmp 5) (.tmp 6) x5 x6 w fun x7 w => R x7 w
theorem posted_Posted_place_1_eq (a0 a1 : Value) (w : World) (R : Value → World → Prop) : sx fn_ Try.prog 8 posted_Posted_place_1_b (retK Try.prog Try.f67.results.toList R) (rho0 [a0, a1]) w = posted_Posted_place_1_F a0 a1 w R := by kernel_rfl
theorem posted_Posted_place_1_calls {a0 a1 : Value} {w : World} {R : Value → World → Prop} (h : posted_Posted_place_1_F a0 a1 w R) : Calls Try.prog 67 #[a0, a1] w fun e w' => ∃ v, e = .returned v ∧ R v w' :=
  Go.X.calls_of_sx (n := 8) (c := posted_Posted_place_1_b) Try.func67 (by kernel_rfl) (by kernel_rfl) (Nat.le_of_ble_eq_true rfl) (by kernel_rfl) (Eq.mpr (posted_Posted_place_1_eq a0 a1 w R) h)
end Go.Proofs.Ytmnkedgmpbcicaa.XG
set_option linter.unusedVariables false
set_option linter.unusedSimpArgs false
set_option maxRecDepth 8000
namespace Go.X
open Go Go.RowKit
structure Rc where
  key : List UInt8
  rank : Int
  call : Int
  peer : Int
  tag : Int
  req : Int
  done : Bool
  frm : Int
  seq : Int
deriving DecidableEq
def Rc.enc (r : Rc) : List Value := [strV r.key, .int .i64 r.rank, .int .i64 r.call, .int .i64 r.peer, .int .i64 r.tag, .int .i64 r.req, .bool r.done, .int .i64 r.frm, .int .i64 r.seq]
def zRc : Rc := ⟨[], 0, 0, 0, 0, 0, false, 0, 0⟩
theorem Rc.enc_len (m : Rc) : m.enc.length = 8 + 1 := rfl
theorem Rc.enc_one (m : Rc) : m.enc.toArray.all (·.oneCell') = true := by simp [Rc.enc, Value.oneCell', strV]
theorem Rc.enc_mem (l : List Rc) : ∀ u ∈ l.flatMap Rc.enc, u.oneCell' = true := by
  intro u hu
  obtain ⟨m, _, hm⟩ := List.mem_flatMap.1 hu
  have := Rc.enc_one m
  rw [Array.all_eq_true'] at this
  exact this u (by simpa using hm)
def wt (r : Rc) : Bool := !r.done
def fitsV (r : Rc) (m : Ms) : Bool := decide (r.key = m.key) && decide (r.rank = m.to) && (decide (r.peer = -1) || decide (r.peer = m.frm)) && (decide (r.tag = -1) || decide (r.tag = m.tag))
def idxR (p : Rc → Bool) (l : List Rc) : Int := match l.findIdx? p with | some j => j | none => -1
end Go.X
namespace Go.Proofs.Ytmnkedgmpbcicaa.Que
open Go Go.X Go.RowKit Go.Proofs.Ytmnkedgmpbcicaa.XF Go.Proofs.Ytmnkedgmpbcicaa.XG Go.Proofs.Ytmnkedgmpbcicaa.XK
abbrev tRc : TypeId := 24
abbrev tRcS : TypeId := 41
theorem vRcS : Try.prog.underlying tRcS = some (.slice tRc) := by kernel_rfl
theorem cRc : Try.prog.cellsOf tRc = 8 + 1 := by kernel_rfl
theorem iRc : (Try.prog.info? tRc).map (·.size) = some 9 := by kernel_rfl
theorem eRcS : elemOk Try.prog tRcS tRc 9 80 = true := by kernel_rfl
theorem zRc_z : (Try.prog.info? tRc).bind (·.zero) = some (.agg zRc.enc.toArray) := by kernel_rfl
def RcRow (w : World) (s : Value) (l : List Rc) : Prop := reads w (8 + 1) s l.length (l.flatMap Rc.enc)
theorem RcRow.mod {S : Nat → Prop} {w w' : World} {s : Value} {l : List Rc} (h : RcRow w s l) (hm : Mod S w w') (hS : ∀ k, sb s k → ¬ S k) : RcRow w' s l := reads_mod h hm fun k _ q => hS k q
theorem RcRow.calm {w w' : World} {s : Value} {l : List Rc} (h : RcRow w s l) (hm : Mod none_ w w') : RcRow w' s l := h.mod hm fun _ _ => id
theorem RcRow.nil (w : World) : RcRow w (.slice none 0 0) [] := reads_nil _ _
theorem ixRc {w : World} {s : Value} {l : List Rc} {i : Nat} {n : Int} {e : Rc} {K : Value → Value → World → Prop} (h : RcRow w s l) (hi : l[i]? = some e) (hn : n = (i : Int)) (hk : ∀ x, K x (.agg e.enc.toArray) w) :
    VK Try.prog (Instr.indexAt tRcS s (.int .i64 n)) w fun x w => VK Try.prog (Instr.loadAt tRc x) w (K x) := by
  subst hn
  have hlt : i < l.length := (List.getElem?_eq_some_iff.1 hi).1
  refine ixldA vRcS cRc Try.underlying24 rfl h (by omega) (by omega) fun x => ?_
  rw [show ((i : Int).toNat) = i by omega, fl_drop (k := 8 + 1) Rc.enc_len hi]
  exact hk x
theorem ixRcA {w : World} {s : Value} {l : List Rc} {i : Nat} {n : Int} {e : Rc} {K : Value → World → Prop} (h : RcRow w s l) (hi : l[i]? = some e) (hn : n = (i : Int)) (hk : ∀ a, (∀ j u, e.enc[j]? = some u → w.cell? (a.add j) = some u) → K (.pointer (some a)) w) :
    VK Try.prog (Instr.indexAt tRcS s (.int .i64 n)) w K := by
  subst hn
  have hlt : i < l.length := (List.getElem?_eq_some_iff.1 hi).1
  refine ixat vRcS cRc h (by omega) (by omega) fun a ha _ => hk a fun j u hu => ?_
  have hj : j < 8 + 1 := (List.getElem?_eq_some_iff.1 hu).1
  refine ha j u hj ?_
  rw [show ((i : Int).toNat) = i by omega, fl_get (k := 8 + 1) Rc.enc_len hi hj]
  exact hu
theorem appR {w : World} {v : Value} {xs : List Rc} {m : Rc} {B : Nat} {K : Value → Value → World → Prop} (ho : w.ownsRow B tRc 9 v xs.length (xs.flatMap Rc.enc)) (hB : B ≤ w.heap.size) (hl : xs.length ≤ 2000000)
    (hk : ∀ x v' w', w'.ownsRow B tRc 9 v' (xs ++ [m]).length ((xs ++ [m]).flatMap Rc.enc) → Mod (fun b => B ≤ b) w w' → K x v' w') :
    VK Try.prog (Instr.buildSlice tRcS 1 [(0, .agg m.enc.toArray)].toArray) w fun x w => IK Try.prog .append #[tRcS, tRcS] tRcS [false, false] [v, x] w (K x) := by
  refine bs_k (cs := m.enc.toArray) (by kernel_rfl) fun w1 hb1 hm1 hz1 => ?_
  refine ap_any eRcS (owns_mod ho hm1 fun _ _ => id) (reads_blk (size := 9) (n := 1) hb1 rfl) (fun u hu => Rc.enc_mem [m] u (by simpa using hu)) (by unfold maxLen; omega) (by omega) (by omega) fun v' w2 ho2 hm2 hv2 => ?_
  refine hk _ v' w2 ?_ ((hm1.mono fun _ _ z => z.elim).trans (hm2.mono fun b _ z => (owns_bd (owns_mod ho hm1 fun _ _ => id) b z.symm).1))
  rw [List.length_append, List.flatMap_append]
  simpa using ho2
abbrev RowR (w0 : World) (xs : List Rc) : Value → World → Prop := fun v w' => w'.ownsRow w0.heap.size tRc 9 v xs.length (xs.flatMap Rc.enc) ∧ Mod none_ w0 w'
theorem rcSlot_k {K : Value → World → Prop} {w : World} {m : Rc} (hk : ∀ w', w'.heap[w.heap.size]? = some (.cells m.enc.toArray tRc (0, 0)) → Mod none_ w w' → w'.heap.size = w.heap.size + 1 → K (.pointer (some ⟨w.heap.size, 0, none⟩)) w') : VK Try.prog (Instr.alloc tRc true (.tuple #[])) w fun x w => UK Try.prog (Instr.storeAt tRc x (.agg m.enc.toArray)) w fun _ w => K x w := by
  refine al_k (cs := zRc.enc.toArray) zRc_z rfl _ fun w1 hb1 hm1 hz1 => ?_
  refine stS (cs := m.enc.toArray) (old := zRc.enc.toArray) rfl rfl (by rw [iRc]; rfl) rfl (Rc.enc_one _) hb1 fun w2 hb2 hm2 hz2 => ?_
  exact hk w2 hb2 (hm1.fresh hm2 (Nat.le_refl _)) (by omega)
theorem waits_ok (w : World) (r : Rc) : Rt Try.prog 47 #[.agg r.enc.toArray] w fun v w' => v = .bool (wt r) ∧ Mod none_ w w' := by
  refine posted_Receive_waits_calls ?_
  unfold posted_Receive_waits_F
  refine box_k (cs := r.enc.toArray) rfl fun w1 hb1 hm1 hz1 => ?_
  have g : FO Try.prog w1 tRc 6 6 ⟨w.heap.size, 0, none⟩ 4 (.bool r.done) := FO.blk hb1 (by kernel_rfl) vB rfl rfl
  rw [g.e, not_ok]
  exact ⟨rfl, hm1⟩
theorem fits_ok (w : World) (r : Rc) (m : Ms) : Rt Try.prog 48 #[.agg r.enc.toArray, .agg m.enc.toArray] w fun v w' => v = .bool (fitsV r m) ∧ Mod none_ w w' := by
  refine posted_Receive_fits_calls ?_
  unfold posted_Receive_fits_F
  refine box_k (cs := r.enc.toArray) rfl fun w1 hb1 hm1 hz1 => ?_
  refine box_k (cs := m.enc.toArray) rfl fun w2 hb2 hm2 hz2 => ?_
  have hb1' := hm2.blk hb1 id
  have hmm := hm1.trans hm2
  have k0 : FO Try.prog w2 tRc 0 0 ⟨w.heap.size, 0, none⟩ 9 (strV r.key) := FO.blk hb1' (by kernel_rfl) vS rfl rfl
  have k1 : FO Try.prog w2 tRc 1 1 ⟨w.heap.size, 0, none⟩ 3 (.int .i64 r.rank) := FO.blk hb1' (by kernel_rfl) vI rfl rfl
  have k3 : FO Try.prog w2 tRc 3 3 ⟨w.heap.size, 0, none⟩ 3 (.int .i64 r.peer) := FO.blk hb1' (by kernel_rfl) vI rfl rfl
  have k4 : FO Try.prog w2 tRc 4 4 ⟨w.heap.size, 0, none⟩ 3 (.int .i64 r.tag) := FO.blk hb1' (by kernel_rfl) vI rfl rfl
  have g0 : FO Try.prog w2 tMs 0 0 ⟨w1.heap.size, 0, none⟩ 9 (strV m.key) := FO.blk hb2 (by kernel_rfl) vS rfl rfl
  have g1 : FO Try.prog w2 tMs 1 1 ⟨w1.heap.size, 0, none⟩ 3 (.int .i64 m.frm) := FO.blk hb2 (by kernel_rfl) vI rfl rfl
  have g2 : FO Try.prog w2 tMs 2 2 ⟨w1.heap.size, 0, none⟩ 3 (.int .i64 m.to) := FO.blk hb2 (by kernel_rfl) vI rfl rfl
  have g4 : FO Try.prog w2 tMs 4 4 ⟨w1.heap.size, 0, none⟩ 3 (.int .i64 m.tag) := FO.blk hb2 (by kernel_rfl) vI rfl rfl
  have fin : ∀ b, fitsV r m = b → (Value.bool b = .bool (fitsV r m) ∧ Mod none_ w w2) := fun b hb => ⟨by rw [hb], hmm⟩
  rw [k0.e, g0.e, BK_eqlL]
  by_cases c0 : r.key = m.key
  · rw [decide_eq_true c0]
    try simp only [↓VG_u, ↓UG_u, ↓MG_u, ↓NG_u, ↓PG_u, ↓BG_u, ↓CG_u, ↓IG_u, ↓VGtt, ↓VGtf, ↓VGft, ↓VGff, ↓UGtt, ↓UGtf, ↓UGft, ↓UGff, ↓MGtt, ↓MGtf, ↓MGft, ↓MGff, ↓NGtt, ↓NGtf, ↓NGft, ↓NGff, ↓PGtt, ↓PGtf, ↓PGft, ↓PGff, ↓BGtt, ↓BGtf, ↓BGft, ↓BGff, ↓CGtt, ↓CGtf, ↓CGft, ↓CGff, ↓IGtt, ↓IGtf, ↓IGft, ↓IGff, ↓PKt, ↓PKf, ↓CDt, ↓CDf, ↓NOTt, ↓NOTf, ↓NK_ptr]
    rw [k1.e]
    try simp only [↓VG_u, ↓UG_u, ↓MG_u, ↓NG_u, ↓PG_u, ↓BG_u, ↓CG_u, ↓IG_u, ↓VGtt, ↓VGtf, ↓VGft, ↓VGff, ↓UGtt, ↓UGtf, ↓UGft, ↓UGff, ↓MGtt, ↓MGtf, ↓MGft, ↓MGff, ↓NGtt, ↓NGtf, ↓NGft, ↓NGff, ↓PGtt, ↓PGtf, ↓PGft, ↓PGff, ↓BGtt, ↓BGtf, ↓BGft, ↓BGff, ↓CGtt, ↓CGtf, ↓CGft, ↓CGff, ↓IGtt, ↓IGtf, ↓IGft, ↓IGff, ↓PKt, ↓PKf, ↓CDt, ↓CDf, ↓NOTt, ↓NOTf, ↓NK_ptr]
    rw [g2.e]
    try simp only [↓VG_u, ↓UG_u, ↓MG_u, ↓NG_u, ↓PG_u, ↓BG_u, ↓CG_u, ↓IG_u, ↓VGtt, ↓VGtf, ↓VGft, ↓VGff, ↓UGtt, ↓UGtf, ↓UGft, ↓UGff, ↓MGtt, ↓MGtf, ↓MGft, ↓MGff, ↓NGtt, ↓NGtf, ↓NGft, ↓NGff, ↓PGtt, ↓PGtf, ↓PGft, ↓PGff, ↓BGtt, ↓BGtf, ↓BGft, ↓BGff, ↓CGtt, ↓CGtf, ↓CGft, ↓CGff, ↓IGtt, ↓IGtf, ↓IGft, ↓IGff, ↓PKt, ↓PKf, ↓CDt, ↓CDf, ↓NOTt, ↓NOTf, ↓NK_ptr]
    by_cases c1 : r.rank = m.to
    · rw [EQt c1]
      try simp only [↓VG_u, ↓UG_u, ↓MG_u, ↓NG_u, ↓PG_u, ↓BG_u, ↓CG_u, ↓IG_u, ↓VGtt, ↓VGtf, ↓VGft, ↓VGff, ↓UGtt, ↓UGtf, ↓UGft, ↓UGff, ↓MGtt, ↓MGtf, ↓MGft, ↓MGff, ↓NGtt, ↓NGtf, ↓NGft, ↓NGff, ↓PGtt, ↓PGtf, ↓PGft, ↓PGff, ↓BGtt, ↓BGtf, ↓BGft, ↓BGff, ↓CGtt, ↓CGtf, ↓CGft, ↓CGff, ↓IGtt, ↓IGtf, ↓IGft, ↓IGff, ↓PKt, ↓PKf, ↓CDt, ↓CDf, ↓NOTt, ↓NOTf, ↓NK_ptr]
      rw [k3.e]
      try simp only [↓VG_u, ↓UG_u, ↓MG_u, ↓NG_u, ↓PG_u, ↓BG_u, ↓CG_u, ↓IG_u, ↓VGtt, ↓VGtf, ↓VGft, ↓VGff, ↓UGtt, ↓UGtf, ↓UGft, ↓UGff, ↓MGtt, ↓MGtf, ↓MGft, ↓MGff, ↓NGtt, ↓NGtf, ↓NGft, ↓NGff, ↓PGtt, ↓PGtf, ↓PGft, ↓PGff, ↓BGtt, ↓BGtf, ↓BGft, ↓BGff, ↓CGtt, ↓CGtf, ↓CGft, ↓CGff, ↓IGtt, ↓IGtf, ↓IGft, ↓IGff, ↓PKt, ↓PKf, ↓CDt, ↓CDf, ↓NOTt, ↓NOTf, ↓NK_ptr]
      have last : fitsV r m = ((decide (r.peer = -1) || decide (r.peer = m.frm)) && (decide (r.tag = -1) || decide (r.tag = m.tag))) := by unfold fitsV; rw [decide_eq_true c0, decide_eq_true c1]; rfl
      by_cases c2 : r.peer = -1
      · rw [EQt c2]
        try simp only [↓VG_u, ↓UG_u, ↓MG_u, ↓NG_u, ↓PG_u, ↓BG_u, ↓CG_u, ↓IG_u, ↓VGtt, ↓VGtf, ↓VGft, ↓VGff, ↓UGtt, ↓UGtf, ↓UGft, ↓UGff, ↓MGtt, ↓MGtf, ↓MGft, ↓MGff, ↓NGtt, ↓NGtf, ↓NGft, ↓NGff, ↓PGtt, ↓PGtf, ↓PGft, ↓PGff, ↓BGtt, ↓BGtf, ↓BGft, ↓BGff, ↓CGtt, ↓CGtf, ↓CGft, ↓CGff, ↓IGtt, ↓IGtf, ↓IGft, ↓IGff, ↓PKt, ↓PKf, ↓CDt, ↓CDf, ↓NOTt, ↓NOTf, ↓NK_ptr]
        rw [k4.e]
        try simp only [↓VG_u, ↓UG_u, ↓MG_u, ↓NG_u, ↓PG_u, ↓BG_u, ↓CG_u, ↓IG_u, ↓VGtt, ↓VGtf, ↓VGft, ↓VGff, ↓UGtt, ↓UGtf, ↓UGft, ↓UGff, ↓MGtt, ↓MGtf, ↓MGft, ↓MGff, ↓NGtt, ↓NGtf, ↓NGft, ↓NGff, ↓PGtt, ↓PGtf, ↓PGft, ↓PGff, ↓BGtt, ↓BGtf, ↓BGft, ↓BGff, ↓CGtt, ↓CGtf, ↓CGft, ↓CGff, ↓IGtt, ↓IGtf, ↓IGft, ↓IGff, ↓PKt, ↓PKf, ↓CDt, ↓CDf, ↓NOTt, ↓NOTf, ↓NK_ptr]
        by_cases c3 : r.tag = -1
        · rw [EQt c3]
          try simp only [↓VG_u, ↓UG_u, ↓MG_u, ↓NG_u, ↓PG_u, ↓BG_u, ↓CG_u, ↓IG_u, ↓VGtt, ↓VGtf, ↓VGft, ↓VGff, ↓UGtt, ↓UGtf, ↓UGft, ↓UGff, ↓MGtt, ↓MGtf, ↓MGft, ↓MGff, ↓NGtt, ↓NGtf, ↓NGft, ↓NGff, ↓PGtt, ↓PGtf, ↓PGft, ↓PGff, ↓BGtt, ↓BGtf, ↓BGft, ↓BGff, ↓CGtt, ↓CGtf, ↓CGft, ↓CGff, ↓IGtt, ↓IGtf, ↓IGft, ↓IGff, ↓PKt, ↓PKf, ↓CDt, ↓CDf, ↓NOTt, ↓NOTf, ↓NK_ptr]
          exact fin true (by rw [last, decide_eq_true c2, decide_eq_true c3]; rfl)
        · rw [EQf c3]
          try simp only [↓VG_u, ↓UG_u, ↓MG_u, ↓NG_u, ↓PG_u, ↓BG_u, ↓CG_u, ↓IG_u, ↓VGtt, ↓VGtf, ↓VGft, ↓VGff, ↓UGtt, ↓UGtf, ↓UGft, ↓UGff, ↓MGtt, ↓MGtf, ↓MGft, ↓MGff, ↓NGtt, ↓NGtf, ↓NGft, ↓NGff, ↓PGtt, ↓PGtf, ↓PGft, ↓PGff, ↓BGtt, ↓BGtf, ↓BGft, ↓BGff, ↓CGtt, ↓CGtf, ↓CGft, ↓CGff, ↓IGtt, ↓IGtf, ↓IGft, ↓IGff, ↓PKt, ↓PKf, ↓CDt, ↓CDf, ↓NOTt, ↓NOTf, ↓NK_ptr]
          rw [k4.e]
          try simp only [↓VG_u, ↓UG_u, ↓MG_u, ↓NG_u, ↓PG_u, ↓BG_u, ↓CG_u, ↓IG_u, ↓VGtt, ↓VGtf, ↓VGft, ↓VGff, ↓UGtt, ↓UGtf, ↓UGft, ↓UGff, ↓MGtt, ↓MGtf, ↓MGft, ↓MGff, ↓NGtt, ↓NGtf, ↓NGft, ↓NGff, ↓PGtt, ↓PGtf, ↓PGft, ↓PGff, ↓BGtt, ↓BGtf, ↓BGft, ↓BGff, ↓CGtt, ↓CGtf, ↓CGft, ↓CGff, ↓IGtt, ↓IGtf, ↓IGft, ↓IGff, ↓PKt, ↓PKf, ↓CDt, ↓CDf, ↓NOTt, ↓NOTf, ↓NK_ptr]
          rw [g4.e]
          try simp only [↓VG_u, ↓UG_u, ↓MG_u, ↓NG_u, ↓PG_u, ↓BG_u, ↓CG_u, ↓IG_u, ↓VGtt, ↓VGtf, ↓VGft, ↓VGff, ↓UGtt, ↓UGtf, ↓UGft, ↓UGff, ↓MGtt, ↓MGtf, ↓MGft, ↓MGff, ↓NGtt, ↓NGtf, ↓NGft, ↓NGff, ↓PGtt, ↓PGtf, ↓PGft, ↓PGff, ↓BGtt, ↓BGtf, ↓BGft, ↓BGff, ↓CGtt, ↓CGtf, ↓CGft, ↓CGff, ↓IGtt, ↓IGtf, ↓IGft, ↓IGff, ↓PKt, ↓PKf, ↓CDt, ↓CDf, ↓NOTt, ↓NOTf, ↓NK_ptr]
          rw [BK_eql]
          try simp only [↓VG_u, ↓UG_u, ↓MG_u, ↓NG_u, ↓PG_u, ↓BG_u, ↓CG_u, ↓IG_u, ↓VGtt, ↓VGtf, ↓VGft, ↓VGff, ↓UGtt, ↓UGtf, ↓UGft, ↓UGff, ↓MGtt, ↓MGtf, ↓MGft, ↓MGff, ↓NGtt, ↓NGtf, ↓NGft, ↓NGff, ↓PGtt, ↓PGtf, ↓PGft, ↓PGff, ↓BGtt, ↓BGtf, ↓BGft, ↓BGff, ↓CGtt, ↓CGtf, ↓CGft, ↓CGff, ↓IGtt, ↓IGtf, ↓IGft, ↓IGff, ↓PKt, ↓PKf, ↓CDt, ↓CDf, ↓NOTt, ↓NOTf, ↓NK_ptr]
          refine fin _ ?_
          rw [last, decide_eq_true c2, decide_eq_false c3]
          rfl
      · rw [EQf c2]
        try simp only [↓VG_u, ↓UG_u, ↓MG_u, ↓NG_u, ↓PG_u, ↓BG_u, ↓CG_u, ↓IG_u, ↓VGtt, ↓VGtf, ↓VGft, ↓VGff, ↓UGtt, ↓UGtf, ↓UGft, ↓UGff, ↓MGtt, ↓MGtf, ↓MGft, ↓MGff, ↓NGtt, ↓NGtf, ↓NGft, ↓NGff, ↓PGtt, ↓PGtf, ↓PGft, ↓PGff, ↓BGtt, ↓BGtf, ↓BGft, ↓BGff, ↓CGtt, ↓CGtf, ↓CGft, ↓CGff, ↓IGtt, ↓IGtf, ↓IGft, ↓IGff, ↓PKt, ↓PKf, ↓CDt, ↓CDf, ↓NOTt, ↓NOTf, ↓NK_ptr]
        rw [k3.e]
        try simp only [↓VG_u, ↓UG_u, ↓MG_u, ↓NG_u, ↓PG_u, ↓BG_u, ↓CG_u, ↓IG_u, ↓VGtt, ↓VGtf, ↓VGft, ↓VGff, ↓UGtt, ↓UGtf, ↓UGft, ↓UGff, ↓MGtt, ↓MGtf, ↓MGft, ↓MGff, ↓NGtt, ↓NGtf, ↓NGft, ↓NGff, ↓PGtt, ↓PGtf, ↓PGft, ↓PGff, ↓BGtt, ↓BGtf, ↓BGft, ↓BGff, ↓CGtt, ↓CGtf, ↓CGft, ↓CGff, ↓IGtt, ↓IGtf, ↓IGft, ↓IGff, ↓PKt, ↓PKf, ↓CDt, ↓CDf, ↓NOTt, ↓NOTf, ↓NK_ptr]
        rw [g1.e]
        try simp only [↓VG_u, ↓UG_u, ↓MG_u, ↓NG_u, ↓PG_u, ↓BG_u, ↓CG_u, ↓IG_u, ↓VGtt, ↓VGtf, ↓VGft, ↓VGff, ↓UGtt, ↓UGtf, ↓UGft, ↓UGff, ↓MGtt, ↓MGtf, ↓MGft, ↓MGff, ↓NGtt, ↓NGtf, ↓NGft, ↓NGff, ↓PGtt, ↓PGtf, ↓PGft, ↓PGff, ↓BGtt, ↓BGtf, ↓BGft, ↓BGff, ↓CGtt, ↓CGtf, ↓CGft, ↓CGff, ↓IGtt, ↓IGtf, ↓IGft, ↓IGff, ↓PKt, ↓PKf, ↓CDt, ↓CDf, ↓NOTt, ↓NOTf, ↓NK_ptr]
        by_cases c4 : r.peer = m.frm
        · rw [EQt c4]
          try simp only [↓VG_u, ↓UG_u, ↓MG_u, ↓NG_u, ↓PG_u, ↓BG_u, ↓CG_u, ↓IG_u, ↓VGtt, ↓VGtf, ↓VGft, ↓VGff, ↓UGtt, ↓UGtf, ↓UGft, ↓UGff, ↓MGtt, ↓MGtf, ↓MGft, ↓MGff, ↓NGtt, ↓NGtf, ↓NGft, ↓NGff, ↓PGtt, ↓PGtf, ↓PGft, ↓PGff, ↓BGtt, ↓BGtf, ↓BGft, ↓BGff, ↓CGtt, ↓CGtf, ↓CGft, ↓CGff, ↓IGtt, ↓IGtf, ↓IGft, ↓IGff, ↓PKt, ↓PKf, ↓CDt, ↓CDf, ↓NOTt, ↓NOTf, ↓NK_ptr]
          rw [k4.e]
          try simp only [↓VG_u, ↓UG_u, ↓MG_u, ↓NG_u, ↓PG_u, ↓BG_u, ↓CG_u, ↓IG_u, ↓VGtt, ↓VGtf, ↓VGft, ↓VGff, ↓UGtt, ↓UGtf, ↓UGft, ↓UGff, ↓MGtt, ↓MGtf, ↓MGft, ↓MGff, ↓NGtt, ↓NGtf, ↓NGft, ↓NGff, ↓PGtt, ↓PGtf, ↓PGft, ↓PGff, ↓BGtt, ↓BGtf, ↓BGft, ↓BGff, ↓CGtt, ↓CGtf, ↓CGft, ↓CGff, ↓IGtt, ↓IGtf, ↓IGft, ↓IGff, ↓PKt, ↓PKf, ↓CDt, ↓CDf, ↓NOTt, ↓NOTf, ↓NK_ptr]
          by_cases c3 : r.tag = -1
          · rw [EQt c3]
            try simp only [↓VG_u, ↓UG_u, ↓MG_u, ↓NG_u, ↓PG_u, ↓BG_u, ↓CG_u, ↓IG_u, ↓VGtt, ↓VGtf, ↓VGft, ↓VGff, ↓UGtt, ↓UGtf, ↓UGft, ↓UGff, ↓MGtt, ↓MGtf, ↓MGft, ↓MGff, ↓NGtt, ↓NGtf, ↓NGft, ↓NGff, ↓PGtt, ↓PGtf, ↓PGft, ↓PGff, ↓BGtt, ↓BGtf, ↓BGft, ↓BGff, ↓CGtt, ↓CGtf, ↓CGft, ↓CGff, ↓IGtt, ↓IGtf, ↓IGft, ↓IGff, ↓PKt, ↓PKf, ↓CDt, ↓CDf, ↓NOTt, ↓NOTf, ↓NK_ptr]
            exact fin true (by rw [last, decide_eq_true c4, decide_eq_true c3, Bool.or_true]; rfl)
          · rw [EQf c3]
            try simp only [↓VG_u, ↓UG_u, ↓MG_u, ↓NG_u, ↓PG_u, ↓BG_u, ↓CG_u, ↓IG_u, ↓VGtt, ↓VGtf, ↓VGft, ↓VGff, ↓UGtt, ↓UGtf, ↓UGft, ↓UGff, ↓MGtt, ↓MGtf, ↓MGft, ↓MGff, ↓NGtt, ↓NGtf, ↓NGft, ↓NGff, ↓PGtt, ↓PGtf, ↓PGft, ↓PGff, ↓BGtt, ↓BGtf, ↓BGft, ↓BGff, ↓CGtt, ↓CGtf, ↓CGft, ↓CGff, ↓IGtt, ↓IGtf, ↓IGft, ↓IGff, ↓PKt, ↓PKf, ↓CDt, ↓CDf, ↓NOTt, ↓NOTf, ↓NK_ptr]
            rw [k4.e]
            try simp only [↓VG_u, ↓UG_u, ↓MG_u, ↓NG_u, ↓PG_u, ↓BG_u, ↓CG_u, ↓IG_u, ↓VGtt, ↓VGtf, ↓VGft, ↓VGff, ↓UGtt, ↓UGtf, ↓UGft, ↓UGff, ↓MGtt, ↓MGtf, ↓MGft, ↓MGff, ↓NGtt, ↓NGtf, ↓NGft, ↓NGff, ↓PGtt, ↓PGtf, ↓PGft, ↓PGff, ↓BGtt, ↓BGtf, ↓BGft, ↓BGff, ↓CGtt, ↓CGtf, ↓CGft, ↓CGff, ↓IGtt, ↓IGtf, ↓IGft, ↓IGff, ↓PKt, ↓PKf, ↓CDt, ↓CDf, ↓NOTt, ↓NOTf, ↓NK_ptr]
            rw [g4.e]
            try simp only [↓VG_u, ↓UG_u, ↓MG_u, ↓NG_u, ↓PG_u, ↓BG_u, ↓CG_u, ↓IG_u, ↓VGtt, ↓VGtf, ↓VGft, ↓VGff, ↓UGtt, ↓UGtf, ↓UGft, ↓UGff, ↓MGtt, ↓MGtf, ↓MGft, ↓MGff, ↓NGtt, ↓NGtf, ↓NGft, ↓NGff, ↓PGtt, ↓PGtf, ↓PGft, ↓PGff, ↓BGtt, ↓BGtf, ↓BGft, ↓BGff, ↓CGtt, ↓CGtf, ↓CGft, ↓CGff, ↓IGtt, ↓IGtf, ↓IGft, ↓IGff, ↓PKt, ↓PKf, ↓CDt, ↓CDf, ↓NOTt, ↓NOTf, ↓NK_ptr]
            rw [BK_eql]
            try simp only [↓VG_u, ↓UG_u, ↓MG_u, ↓NG_u, ↓PG_u, ↓BG_u, ↓CG_u, ↓IG_u, ↓VGtt, ↓VGtf, ↓VGft, ↓VGff, ↓UGtt, ↓UGtf, ↓UGft, ↓UGff, ↓MGtt, ↓MGtf, ↓MGft, ↓MGff, ↓NGtt, ↓NGtf, ↓NGft, ↓NGff, ↓PGtt, ↓PGtf, ↓PGft, ↓PGff, ↓BGtt, ↓BGtf, ↓BGft, ↓BGff, ↓CGtt, ↓CGtf, ↓CGft, ↓CGff, ↓IGtt, ↓IGtf, ↓IGft, ↓IGff, ↓PKt, ↓PKf, ↓CDt, ↓CDf, ↓NOTt, ↓NOTf, ↓NK_ptr]
            refine fin _ ?_
            rw [last, decide_eq_true c4, decide_eq_false c3, Bool.or_true]
            rfl
        · rw [EQf c4]
          try simp only [↓VG_u, ↓UG_u, ↓MG_u, ↓NG_u, ↓PG_u, ↓BG_u, ↓CG_u, ↓IG_u, ↓VGtt, ↓VGtf, ↓VGft, ↓VGff, ↓UGtt, ↓UGtf, ↓UGft, ↓UGff, ↓MGtt, ↓MGtf, ↓MGft, ↓MGff, ↓NGtt, ↓NGtf, ↓NGft, ↓NGff, ↓PGtt, ↓PGtf, ↓PGft, ↓PGff, ↓BGtt, ↓BGtf, ↓BGft, ↓BGff, ↓CGtt, ↓CGtf, ↓CGft, ↓CGff, ↓IGtt, ↓IGtf, ↓IGft, ↓IGff, ↓PKt, ↓PKf, ↓CDt, ↓CDf, ↓NOTt, ↓NOTf, ↓NK_ptr]
          exact fin false (by rw [last, decide_eq_false c2, decide_eq_false c4]; rfl)
    · rw [EQf c1]
      try simp only [↓VG_u, ↓UG_u, ↓MG_u, ↓NG_u, ↓PG_u, ↓BG_u, ↓CG_u, ↓IG_u, ↓VGtt, ↓VGtf, ↓VGft, ↓VGff, ↓UGtt, ↓UGtf, ↓UGft, ↓UGff, ↓MGtt, ↓MGtf, ↓MGft, ↓MGff, ↓NGtt, ↓NGtf, ↓NGft, ↓NGff, ↓PGtt, ↓PGtf, ↓PGft, ↓PGff, ↓BGtt, ↓BGtf, ↓BGft, ↓BGff, ↓CGtt, ↓CGtf, ↓CGft, ↓CGff, ↓IGtt, ↓IGtf, ↓IGft, ↓IGff, ↓PKt, ↓PKf, ↓CDt, ↓CDf, ↓NOTt, ↓NOTf, ↓NK_ptr]
      exact fin false (by unfold fitsV; rw [decide_eq_true c0, decide_eq_false c1]; rfl)
  · rw [decide_eq_false c0]
    try simp only [↓VG_u, ↓UG_u, ↓MG_u, ↓NG_u, ↓PG_u, ↓BG_u, ↓CG_u, ↓IG_u, ↓VGtt, ↓VGtf, ↓VGft, ↓VGff, ↓UGtt, ↓UGtf, ↓UGft, ↓UGff, ↓MGtt, ↓MGtf, ↓MGft, ↓MGff, ↓NGtt, ↓NGtf, ↓NGft, ↓NGff, ↓PGtt, ↓PGtf, ↓PGft, ↓PGff, ↓BGtt, ↓BGtf, ↓BGft, ↓BGff, ↓CGtt, ↓CGtf, ↓CGft, ↓CGff, ↓IGtt, ↓IGtf, ↓IGft, ↓IGff, ↓PKt, ↓PKf, ↓CDt, ↓CDf, ↓NOTt, ↓NOTf, ↓NK_ptr]
    exact fin false (by unfold fitsV; rw [decide_eq_false c0]; rfl)
end Go.Proofs.Ytmnkedgmpbcicaa.Que
set_option linter.unusedVariables false
set_option linter.unusedSimpArgs false
set_option maxRecDepth 8000
namespace Go.Proofs.Ytmnkedgmpbcicaa.Que
open Go Go.X Go.RowKit Go.Proofs.Ytmnkedgmpbcicaa.XF Go.Proofs.Ytmnkedgmpbcicaa.XG Go.Proofs.Ytmnkedgmpbcicaa.XK
theorem kept_R2 {w : World} {K : Exit → Sl → World → Prop} {ρ : Sl} {n : Nat} (hn : n ≤ 1000000) (e10 : ρ 10 = .int .i64 n) (hk : ∀ ρ' : Sl, ρ' 10 = .int .i64 (n + 1 : Nat) → ρ' 9 = ρ 9 → ρ' 8 = ρ 8 → ρ' 1 = ρ 1 → ρ' 5 = ρ 5 → K .normal ρ' w) : sx fn_ Try.prog 23 posted_kept_posted_Receive_R2 K ρ w := by
  rw [posted_kept_posted_Receive_R2_eq]; unfold posted_kept_posted_Receive_R2_F
  rw [e10, BK_add, wrap_i (by omega) (by omega)]
  exact hk _ rfl rfl rfl rfl rfl
theorem kept_ok {w : World} {v : Value} {l : List Rc} (h : RcRow w v l) (hl : l.length ≤ 1000000) : Rt Try.prog 46 #[v, .func (.func 47) #[] #[]] w (RowR w (l.filter wt)) := by
  obtain ⟨A, c, hs, _⟩ := reads_cap h
  refine posted_kept_posted_Receive_calls ?_
  unfold posted_kept_posted_Receive_F
  rw [hs, len_sl vRcS, ← hs]
  refine W_loop posted_kept_posted_Receive_L0_ok (fun ρ w' => ∃ (n : Nat) (o : Value), n ≤ l.length ∧ ρ 10 = .int .i64 n ∧ ρ 9 = .int .i64 l.length ∧ ρ 8 = v ∧ ρ 1 = .func (.func 47) #[] #[] ∧ ρ 5 = o ∧ w'.ownsRow w.heap.size tRc 9 o ((l.take n).filter wt).length (((l.take n).filter wt).flatMap Rc.enc) ∧ Mod none_ w w') (fun ρ _ => l.length - (intOf (ρ 10)).toNat)
    ⟨0, .slice none 0 0, Nat.zero_le _, rfl, rfl, rfl, rfl, rfl, World.ownsRow_nil _ _ _ _, Mod.refl _ _⟩ ?_
  rintro ρ w1 ⟨n, o, hn, e10, e9, e8, e1, e5, hO, hm⟩
  rw [posted_kept_posted_Receive_L0_eq]; unfold posted_kept_posted_Receive_L0_F
  rw [e10, e9, e8, e1, e5, BK_lss]
  have hsz := hm.size
  by_cases hlt : n < l.length
  · rw [decide_eq_true (by omega)]
    refine condT ?_
    have hx : l[n]? = some l[n] := List.getElem?_eq_getElem hlt
    have etk : l.take (n + 1) = l.take n ++ [l[n]] := by rw [List.take_add_one, hx]; rfl
    generalize l[n] = x at *
    have hlen : ((l.take n).filter wt).length ≤ n := Nat.le_trans (List.length_filter_le _ _) (by rw [List.length_take]; omega)
    refine ixRc (h.calm hm) hx rfl fun y => ?_
    refine rcSlot_k fun w2 hb2 hm2 hz2 => ?_
    refine ldS rfl Try.underlying24 rfl (by rw [iRc]; rfl) hb2 ?_
    refine CK_st Try.func47 rfl rfl (waits_ok w2 x) ?_
    rintro _ w3 ⟨rfl, hm3⟩
    have hm13 := hm2.trans hm3
    refine caseC (fun q => ?_) (fun q => ?_)
    · refine ldS rfl Try.underlying24 rfl (by rw [iRc]; rfl) (hm3.blk hb2 id) ?_
      refine appR (owns_mod hO hm13 fun _ _ => id) (by have := hm13.size; omega) (by omega) fun _ o' w4 hO4 hm4 => ?_
      have ef : (l.take (n + 1)).filter wt = (l.take n).filter wt ++ [x] := by rw [etk, List.filter_append, List.filter_cons_of_pos q, List.filter_nil]
      rw [← ef] at hO4
      refine kept_R2 (by omega) (by first | exact e10 | rfl) fun ρ2 q10 q9 q8 q1 q5 => ⟨⟨n + 1, o', hlt, q10, q9.trans (by first | exact e9 | rfl), q8.trans (by first | exact e8 | rfl), q1.trans (by first | exact e1 | rfl), q5, hO4, (hm.trans hm13).then hm4 fun i hi z => by omega⟩, ?_⟩
      rw [q10]
      simp only [intOf]; omega
    · have ef : (l.take (n + 1)).filter wt = (l.take n).filter wt := by rw [etk, List.filter_append, List.filter_cons_of_neg (by rw [q]; decide), List.filter_nil, List.append_nil]
      rw [← ef] at hO
      refine kept_R2 (by omega) (by first | exact e10 | rfl) fun ρ2 q10 q9 q8 q1 q5 => ⟨⟨n + 1, o, hlt, q10, q9.trans (by first | exact e9 | rfl), q8.trans (by first | exact e8 | rfl), q1.trans (by first | exact e1 | rfl), q5.trans (by first | exact e5 | rfl), owns_mod hO hm13 fun _ _ => id, hm.trans hm13⟩, ?_⟩
      rw [q10]
      simp only [intOf]; omega
  · obtain rfl : n = l.length := by omega
    rw [decide_eq_false (by omega)]
    refine condF ?_
    rw [sq_x, bk_x, sq_n, posted_kept_posted_Receive_R1_eq]; unfold posted_kept_posted_Receive_R1_F
    rw [List.take_length] at hO
    have key : ∀ ρ0 : Sl, ρ0 5 = o → retK Try.prog [ResultVar.tmp 4] (RowR w (l.filter wt)) .ret (up (up ρ0 22 (ρ0 5)) 4 (ρ0 5)) w1 := by
      intro ρ0 q
      show RowR w (l.filter wt) (ρ0 5) w1
      rw [q]
      exact ⟨hO, hm⟩
    exact key _ (by first | exact e5 | rfl)
theorem IndexFuncRc_ok {w : World} {s : Value} {l : List Rc} {p : Rc → Bool} {fv : Value} (h : RcRow w s l) (hlen : l.length ≤ 1099511627776)
    (hf : ∀ a ∈ l, ∀ w', Mod none_ w w' → ∀ K : Value → World → Prop, (∀ w'', Mod none_ w' w'' → K (.bool (p a)) w'') → CK Try.prog fv [.agg a.enc.toArray] w' K) :
    Rt Try.prog 66 #[s, fv] w fun v w' => v = .int .i64 (idxR p l) ∧ Mod none_ w w' := by
  obtain ⟨A, c, hs, _⟩ := reads_cap h
  refine slices_IndexFunc_posted_Receive_posted_Receive_calls ?_
  unfold slices_IndexFunc_posted_Receive_posted_Receive_F
  rw [hs, len_sl vRcS]
  refine W_loop slices_IndexFunc_posted_Receive_posted_Receive_L0_ok (fun ρ w' => ∃ n : Nat, n ≤ l.length ∧ ρ 8 = .int .i64 n ∧ ρ 7 = .int .i64 l.length ∧ ρ 0 = .slice A l.length c ∧ ρ 1 = fv ∧ (∀ a ∈ l.take n, p a = false) ∧ Mod none_ w w') (fun ρ _ => l.length - (intOf (ρ 8)).toNat)
    ⟨0, Nat.zero_le _, rfl, rfl, rfl, rfl, by simp, Mod.refl _ _⟩ ?_
  rintro ρ w1 ⟨n, hn, h8, h7, h0, h1, hno, hm⟩
  rw [slices_IndexFunc_posted_Receive_posted_Receive_L0_eq]
  unfold slices_IndexFunc_posted_Receive_posted_Receive_L0_F
  rw [h8, h7, h0, h1, BK_lss]
  by_cases hlt : n < l.length
  · rw [decide_eq_true (by omega)]
    refine condT ?_
    have hx : l[n]? = some l[n] := List.getElem?_eq_getElem hlt
    have hmem : l[n] ∈ l := List.getElem_mem hlt
    have h2 := h.calm hm
    rw [hs] at h2
    refine ixRc h2 hx rfl fun y => ?_
    refine hf _ hmem w1 hm _ fun w2 hm2 => ?_
    refine caseC (fun hp => ?_) (fun hp => ?_)
    · refine ⟨?_, hm.trans hm2⟩
      unfold idxR
      rw [show l.findIdx? p = some n from List.findIdx?_eq_some_iff_getElem.2 ⟨hlt, hp, fun j hj => by
        have := hno l[j] (List.mem_take_iff_getElem.2 ⟨j, by omega, rfl⟩)
        simp [this]⟩]
      rfl
    · rw [BK_add, wrap_i (by omega) (by omega)]
      refine ⟨⟨n + 1, hlt, rfl, h7, h0, h1, ?_, hm.trans hm2⟩, ?_⟩
      · rw [List.take_add_one, hx, Option.toList_some]
        intro a q
        rcases List.mem_append.1 q with q | q
        · exact hno a q
        · rw [List.mem_singleton.1 q]; exact hp
      · simp only [sq_n, sq_x, sq_r, bk_n, bk_r, bk_x, rt_r, rt_n, rs_0, rs_t, pk_1, pk_2, up_at, reduceIte, Nat.reduceEqDiff, intOf]; omega
  · obtain rfl : n = l.length := by omega
    rw [decide_eq_false (by omega)]
    refine condF ?_
    rw [sq_x, bk_x, sq_n, slices_IndexFunc_posted_Receive_posted_Receive_R1_eq]
    unfold slices_IndexFunc_posted_Receive_posted_Receive_R1_F
    refine ⟨?_, hm⟩
    rw [List.take_length] at hno
    unfold idxR
    rw [List.findIdx?_eq_none_iff.2 hno]
    rfl
theorem ContainsFuncRc_ok {w : World} {s : Value} {l : List Rc} {p : Rc → Bool} {fv : Value} (h : RcRow w s l) (hlen : l.length ≤ 1099511627776)
    (hf : ∀ a ∈ l, ∀ w', Mod none_ w w' → ∀ K : Value → World → Prop, (∀ w'', Mod none_ w' w'' → K (.bool (p a)) w'') → CK Try.prog fv [.agg a.enc.toArray] w' K) :
    Rt Try.prog 64 #[s, fv] w fun v w' => v = .bool (l.any p) ∧ Mod none_ w w' := by
  refine slices_ContainsFunc_posted_Receive_posted_Receive_calls ?_
  unfold slices_ContainsFunc_posted_Receive_posted_Receive_F
  refine CK_st Try.func66 rfl rfl (IndexFuncRc_ok h hlen hf) ?_
  rintro _ w1 ⟨rfl, hm⟩
  rw [BK_geq]
  refine ⟨?_, hm⟩
  congr 1
  unfold idxR
  cases hq : l.findIdx? p with
  | none =>
    rw [List.findIdx?_eq_none_iff] at hq
    rw [show l.any p = false by simpa using hq]
    rfl
  | some j =>
    rw [List.findIdx?_eq_some_iff_getElem] at hq
    obtain ⟨hj, hp, _⟩ := hq
    rw [show l.any p = true from List.any_eq_true.2 ⟨l[j], List.getElem_mem hj, hp⟩]
    simp
end Go.Proofs.Ytmnkedgmpbcicaa.Que
set_option linter.unusedVariables false
set_option linter.unusedSimpArgs false
set_option maxRecDepth 8000
namespace Go.X
open Go Go.RowKit
abbrev Rks := Nat → List Rc
def rowP (R : Rks) (rk : Int) : List Rc := if 0 ≤ rk ∧ rk ≤ 63 then R rk.toNat else []
def PF (p : Nat) (vs : List Value) (b : Nat) : Prop := b = p ∨ ∃ v ∈ vs, sb v b
def badR (r : Rc) (l : List Rc) : Bool := !(decide (0 ≤ r.rank) && decide (r.rank ≤ 63)) || !(decide (-1 ≤ r.peer) && decide (r.peer ≤ 63)) || !(decide (-1 ≤ r.tag) && decide (r.tag ≤ 32767)) || decide (r.req < -1) || decide (r.call < 0) || (match l.getLast? with | none => false | some x => decide (r.call ≤ x.call))
def Rc.new (r : Rc) : Rc := { r with done := false, frm := 0, seq := 0 }
def putR (R : Rks) (k : Nat) (l : List Rc) : Rks := fun i => if i = k then l else R i
def postV (R : Rks) (r : Rc) : Rks × Int := if badR r (rowP R r.rank) then (R, 2) else (putR R r.rank.toNat (rowP R r.rank ++ [r.new]), 0)
end Go.X
namespace Go.Proofs.Ytmnkedgmpbcicaa.Que
open Go Go.X Go.RowKit Go.Proofs.Ytmnkedgmpbcicaa.XF Go.Proofs.Ytmnkedgmpbcicaa.XG Go.Proofs.Ytmnkedgmpbcicaa.XK
abbrev tPd : TypeId := 61
abbrev tArr : TypeId := 59
theorem uPd : Try.prog.underlying 28 = some (.pointer tPd) := by kernel_rfl
structure PAt (w : World) (p : Nat) (R : Rks) (vs : List Value) : Prop where
  blk : w.heap[p]? = some (.cells (.bool true :: vs).toArray tPd (0, 0))
  len : vs.length = 64
  rows : ∀ (i : Nat) v, vs[i]? = some v → w.ownsRow 0 tRc 9 v (R i).length ((R i).flatMap Rc.enc)
  ne : ∀ v ∈ vs, ¬ sb v p
  dist : ∀ (i j : Nat) v u, vs[i]? = some v → vs[j]? = some u → i ≠ j → ∀ g, sb v g → ¬ sb u g
structure PFr (p : Nat) (w : World) (vs : List Value) (w' : World) (vs' : List Value) : Prop where
  mod : Mod (PF p vs) w w'
  f : ∀ b, PF p vs' b → PF p vs b ∨ w.heap.size ≤ b
theorem PFr.calm {p : Nat} {w w' : World} {vs : List Value} (h : Mod none_ w w') : PFr p w vs w' vs := ⟨h.mono fun _ _ q => q.elim, fun _ q => .inl q⟩
theorem PFr.trans {p : Nat} {w w1 w2 : World} {V V1 V2 : List Value} (h : PFr p w V w1 V1) (k : PFr p w1 V1 w2 V2) : PFr p w V w2 V2 := by
  have hs := h.mod.size
  refine ⟨h.mod.then k.mod fun i hi q => ?_, fun b q => ?_⟩
  · rcases h.f i q with z | z
    · exact z
    · omega
  · rcases k.f b q with z | z
    · exact h.f b z
    · right; omega
theorem PAt.mod {w w' : World} {p : Nat} {R : Rks} {vs : List Value} {S : Nat → Prop} (h : PAt w p R vs) (hm : Mod S w w') (hS : ∀ b, PF p vs b → ¬ S b) : PAt w' p R vs :=
  ⟨hm.blk h.blk (hS _ (.inl rfl)), h.len, fun i v hv => owns_mod (h.rows i v hv) hm fun k q => hS k (.inr ⟨v, List.mem_of_getElem? hv, q⟩), h.ne, h.dist⟩
theorem PAt.calm {w w' : World} {p : Nat} {R : Rks} {vs : List Value} (h : PAt w p R vs) (hm : Mod none_ w w') : PAt w' p R vs := h.mod hm fun _ _ q => q
theorem PAt.old {w : World} {p : Nat} {R : Rks} {vs : List Value} (h : PAt w p R vs) : ∀ b, PF p vs b → b < w.heap.size := by
  rintro b (rfl | ⟨v, hv, hb⟩)
  · exact X.blk_lt h.blk
  · obtain ⟨i, hi⟩ := List.getElem?_of_mem hv
    exact (owns_bd (h.rows i v hi) b hb).2
section
variable {w : World} {p : Nat} {R : Rks} {vs : List Value}
theorem f_made (h : PAt w p R vs) : FO Try.prog w tPd 0 0 ⟨p, 0, none⟩ 4 (.bool true) := FO.blk h.blk (by kernel_rfl) vB rfl rfl
theorem run_arr {b o : Nat} {k : IntKind} {i : Int} (h0 : 0 ≤ i) (h1 : i ≤ 63) (w : World) : (Instr.indexAt tArr (.pointer (some ⟨b, o, none⟩)) (.int k i)).run Try.prog w = .ok (.pointer (some ⟨b, o + i.toNat, none⟩)) w := by
  rw [run_indexAt_array w tArr _ k i (by kernel_rfl), if_pos ⟨h0, by rw [show Try.prog.arrayLen tArr = 64 by kernel_rfl]; omega⟩, show Try.prog.elem tArr = tRcS by kernel_rfl, Try.sizeOf41]
  simp [add_pl]
theorem ixArr {b o : Nat} {k : IntKind} {i : Int} (h0 : 0 ≤ i) (h1 : i ≤ 63) {K : Value → World → Prop} : VK Try.prog (Instr.indexAt tArr (.pointer (some ⟨b, o, none⟩)) (.int k i)) w K = K (.pointer (some ⟨b, o + i.toNat, none⟩)) w := VK_eq_of (run_arr h0 h1 w)
theorem inP_ok (n a b : Int) (w : World) : Rt Try.prog 41 #[.int .i64 n, .int .i64 a, .int .i64 b] w fun v w' => v = .bool (decide (a ≤ n) && decide (n ≤ b)) ∧ w' = w := by
  refine posted_in_calls ?_
  unfold posted_in_F
  rw [BK_geq]
  cases hz : decide (a ≤ n) with
  | true =>
    try simp only [↓VG_u, ↓UG_u, ↓MG_u, ↓NG_u, ↓PG_u, ↓BG_u, ↓CG_u, ↓IG_u, ↓VGtt, ↓VGtf, ↓VGft, ↓VGff, ↓UGtt, ↓UGtf, ↓UGft, ↓UGff, ↓MGtt, ↓MGtf, ↓MGft, ↓MGff, ↓NGtt, ↓NGtf, ↓NGft, ↓NGff, ↓PGtt, ↓PGtf, ↓PGft, ↓PGff, ↓BGtt, ↓BGtf, ↓BGft, ↓BGff, ↓CGtt, ↓CGtf, ↓CGft, ↓CGff, ↓IGtt, ↓IGtf, ↓IGft, ↓IGff, ↓PKt, ↓PKf, ↓CDt, ↓CDf, ↓NOTt, ↓NOTf, ↓NK_ptr]
    rw [BK_leq]
    try simp only [↓VG_u, ↓UG_u, ↓MG_u, ↓NG_u, ↓PG_u, ↓BG_u, ↓CG_u, ↓IG_u, ↓VGtt, ↓VGtf, ↓VGft, ↓VGff, ↓UGtt, ↓UGtf, ↓UGft, ↓UGff, ↓MGtt, ↓MGtf, ↓MGft, ↓MGff, ↓NGtt, ↓NGtf, ↓NGft, ↓NGff, ↓PGtt, ↓PGtf, ↓PGft, ↓PGff, ↓BGtt, ↓BGtf, ↓BGft, ↓BGff, ↓CGtt, ↓CGtf, ↓CGft, ↓CGff, ↓IGtt, ↓IGtf, ↓IGft, ↓IGff, ↓PKt, ↓PKf, ↓CDt, ↓CDf, ↓NOTt, ↓NOTf, ↓NK_ptr]
    exact ⟨by first | rfl | simp, by trivial⟩
  | false =>
    try simp only [↓VG_u, ↓UG_u, ↓MG_u, ↓NG_u, ↓PG_u, ↓BG_u, ↓CG_u, ↓IG_u, ↓VGtt, ↓VGtf, ↓VGft, ↓VGff, ↓UGtt, ↓UGtf, ↓UGft, ↓UGff, ↓MGtt, ↓MGtf, ↓MGft, ↓MGff, ↓NGtt, ↓NGtf, ↓NGft, ↓NGff, ↓PGtt, ↓PGtf, ↓PGft, ↓PGff, ↓BGtt, ↓BGtf, ↓BGft, ↓BGff, ↓CGtt, ↓CGtf, ↓CGft, ↓CGff, ↓IGtt, ↓IGtf, ↓IGft, ↓IGff, ↓PKt, ↓PKf, ↓CDt, ↓CDf, ↓NOTt, ↓NOTf, ↓NK_ptr]
    exact ⟨by first | trivial | rfl | simp, by trivial⟩
theorem PAt.at (h : PAt w p R vs) {rk : Int} (h0 : 0 ≤ rk) (h1 : rk ≤ 63) : ∃ v, vs[rk.toNat]? = some v ∧ w.cell? ⟨p, 1 + rk.toNat, none⟩ = some v ∧ RcRow w v (rowP R rk) := by
  have hl := h.len
  have hx : vs[rk.toNat]? = some vs[rk.toNat] := List.getElem?_eq_getElem (by omega)
  refine ⟨_, hx, ?_, ?_⟩
  · rw [cell_blk h.blk]
    rw [show (1 + rk.toNat) = rk.toNat + 1 by omega]
    simp
  · unfold rowP
    rw [if_pos ⟨h0, h1⟩]
    exact reads_of_owns (h.rows _ _ hx)
theorem of_ok' (h : PAt w p R vs) (rk : Int) : Rt Try.prog 40 #[.pointer (some ⟨p, 0, none⟩), .int .i64 rk] w fun v w' => w' = w ∧ RcRow w v (rowP R rk) ∧ (0 ≤ rk ∧ rk ≤ 63 → vs[rk.toNat]? = some v) := by
  refine posted_Posted_of_calls ?_
  unfold posted_Posted_of_F
  rw [BK_eqlP uPd]
  simp only [Option.isNone_some, ↓VG_u, ↓UG_u, ↓MG_u, ↓NG_u, ↓PG_u, ↓BG_u, ↓CG_u, ↓IG_u, ↓VGtt, ↓VGtf, ↓VGft, ↓VGff, ↓UGtt, ↓UGtf, ↓UGft, ↓UGff, ↓MGtt, ↓MGtf, ↓MGft, ↓MGff, ↓NGtt, ↓NGtf, ↓NGft, ↓NGff, ↓PGtt, ↓PGtf, ↓PGft, ↓PGff, ↓BGtt, ↓BGtf, ↓BGft, ↓BGff, ↓CGtt, ↓CGtf, ↓CGft, ↓CGff, ↓IGtt, ↓IGtf, ↓IGft, ↓IGff, ↓PKt, ↓PKf, ↓CDt, ↓CDf, ↓NOTt, ↓NOTf, ↓NK_ptr]
  rw [(f_made h).e]
  try simp only [↓VG_u, ↓UG_u, ↓MG_u, ↓NG_u, ↓PG_u, ↓BG_u, ↓CG_u, ↓IG_u, ↓VGtt, ↓VGtf, ↓VGft, ↓VGff, ↓UGtt, ↓UGtf, ↓UGft, ↓UGff, ↓MGtt, ↓MGtf, ↓MGft, ↓MGff, ↓NGtt, ↓NGtf, ↓NGft, ↓NGff, ↓PGtt, ↓PGtf, ↓PGft, ↓PGff, ↓BGtt, ↓BGtf, ↓BGft, ↓BGff, ↓CGtt, ↓CGtf, ↓CGft, ↓CGff, ↓IGtt, ↓IGtf, ↓IGft, ↓IGff, ↓PKt, ↓PKf, ↓CDt, ↓CDf, ↓NOTt, ↓NOTf, ↓NK_ptr]
  refine CK_st Try.func41 rfl rfl (inP_ok rk 0 63 w) ?_
  rintro _ w1 ⟨rfl, rfl⟩
  by_cases hr : 0 ≤ rk ∧ rk ≤ 63
  · rw [decide_eq_true hr.1, decide_eq_true hr.2]
    obtain ⟨v, hv, hc, hrow⟩ := h.at hr.1 hr.2
    try simp only [Bool.true_and, Bool.and_true, ↓VG_u, ↓UG_u, ↓MG_u, ↓NG_u, ↓PG_u, ↓BG_u, ↓CG_u, ↓IG_u, ↓VGtt, ↓VGtf, ↓VGft, ↓VGff, ↓UGtt, ↓UGtf, ↓UGft, ↓UGff, ↓MGtt, ↓MGtf, ↓MGft, ↓MGff, ↓NGtt, ↓NGtf, ↓NGft, ↓NGff, ↓PGtt, ↓PGtf, ↓PGft, ↓PGff, ↓BGtt, ↓BGtf, ↓BGft, ↓BGff, ↓CGtt, ↓CGtf, ↓CGft, ↓CGff, ↓IGtt, ↓IGtf, ↓IGft, ↓IGff, ↓PKt, ↓PKf, ↓CDt, ↓CDf, ↓NOTt, ↓NOTf, ↓NK_ptr]
    rw [fo (show fieldOff Try.prog tPd 1 = some 1 by kernel_rfl), add_pl, ixArr hr.1 hr.2]
    refine ld1 vRcS rfl (by rw [Nat.zero_add]; exact hc) ?_
    exact ⟨rfl, hrow, fun _ => hv⟩
  · rw [show (decide (0 ≤ rk) && decide (rk ≤ 63)) = false by
      rw [Bool.and_eq_false_iff]; simp only [decide_eq_false_iff_not]; omega]
    try simp only [↓VG_u, ↓UG_u, ↓MG_u, ↓NG_u, ↓PG_u, ↓BG_u, ↓CG_u, ↓IG_u, ↓VGtt, ↓VGtf, ↓VGft, ↓VGff, ↓UGtt, ↓UGtf, ↓UGft, ↓UGff, ↓MGtt, ↓MGtf, ↓MGft, ↓MGff, ↓NGtt, ↓NGtf, ↓NGft, ↓NGff, ↓PGtt, ↓PGtf, ↓PGft, ↓PGff, ↓BGtt, ↓BGtf, ↓BGft, ↓BGff, ↓CGtt, ↓CGtf, ↓CGft, ↓CGff, ↓IGtt, ↓IGtf, ↓IGft, ↓IGff, ↓PKt, ↓PKf, ↓CDt, ↓CDf, ↓NOTt, ↓NOTf, ↓NK_ptr]
    refine ⟨by trivial, ?_, fun z => absurd z hr⟩
    unfold rowP
    rw [if_neg hr]
    exact RcRow.nil _
theorem New_ok' (w : World) : Rt Try.prog 24 #[] w fun v w' => ∃ p vs, v = .pointer (some ⟨p, 0, none⟩) ∧ PAt w' p (fun _ => []) vs ∧ (∀ b, PF p vs b → w.heap.size ≤ b) ∧ Mod none_ w w' := by
  refine posted_New_calls ?_
  unfold posted_New_F
  rw [build_ok (cs := (.bool true :: List.replicate 64 (.slice none 0 0)).toArray) (by kernel_rfl)]
  refine box_k (cs := (.bool true :: List.replicate 64 (.slice none 0 0)).toArray) rfl fun w1 hb1 hm1 hz1 => ?_
  have hall : ∀ v ∈ List.replicate 64 (Value.slice none 0 0), v = .slice none 0 0 := fun v hv => (List.mem_replicate.1 hv).2
  refine ⟨_, List.replicate 64 (.slice none 0 0), rfl, ⟨hb1, List.length_replicate .., fun i v hv => ?_, fun v hv z => ?_, fun i j v u hv hu _ g z => ?_⟩, ?_, hm1⟩
  · rw [hall v (List.mem_of_getElem? hv)]
    exact World.ownsRow_nil _ _ _ _
  · rw [hall v hv] at z; cases z
  · rw [hall v (List.mem_of_getElem? hv)] at z; cases z
  · rintro b (rfl | ⟨v, hv, hb⟩)
    · exact Nat.le_refl _
    · rw [hall v hv] at hb; cases hb
end
end Go.Proofs.Ytmnkedgmpbcicaa.Que
set_option linter.unusedVariables false
set_option linter.unusedSimpArgs false
set_option maxRecDepth 8000
namespace Go.Proofs.Ytmnkedgmpbcicaa.Que
open Go Go.X Go.RowKit Go.Proofs.Ytmnkedgmpbcicaa.XF Go.Proofs.Ytmnkedgmpbcicaa.XG Go.Proofs.Ytmnkedgmpbcicaa.XK
theorem up_lo {ρ : Sl} {d : Nat} {v : Value} {k n : Nat} (hk : k < n) (hd : n ≤ d) : up ρ d v k = ρ k := by rw [up_at, if_neg (by omega)]
theorem Qnot {C : World → Prop} {b : Bool} {K : Value → Prop} (hk : K (.bool (!b))) : QK Try.prog C (do pure (Next.value (← Op.unary UnOp.not (.bool b)))) K := QV_of (fun w _ => rfl) hk
section
variable {w : World} {p : Nat} {R : Rks} {vs : List Value}
theorem post_R0 {b3 : Nat} {r : Rc} {l : List Rc} {v : Value} {K : Exit → Sl → World → Prop} {ρ : Sl} (hb : w.heap[b3]? = some (.cells r.enc.toArray tRc (0, 0))) (hl : RcRow w v l) (hlen : l.length ≤ 1000000) (e3 : ρ 3 = .pointer (some ⟨b3, 0, none⟩)) (e5 : ρ 5 = v)
    (hk : ∀ (ρ' : Sl) (w' : World), ρ' 61 = .bool (badR r l) → (∀ k, k < 19 → ρ' k = ρ k) → Mod none_ w w' → K .normal ρ' w') : W fn_ Try.prog 75 posted_Posted_Post_R0 K ρ w := by
  refine posted_Posted_Post_R0_quiet (D := []) (fun w' => Mod none_ w w') ((Mod.refl _ w).drawn _) ?_
  unfold posted_Posted_Post_R0_Q
  rw [e3, e5]
  have hc : ∀ (k : Nat) (u : Value), r.enc.toArray[k]? = some u → ∀ w', Mod none_ w w' → w'.cell? (Addr.add ⟨b3, 0, none⟩ k) = some u := fun k u hu w' hm => by
    rw [add_pl, Nat.zero_add, cell_blk (hm.blk hb id)]; exact hu
  have hl' := hl
  have fin : ∀ (ρ' : Sl) (b : Bool), badR r l = b → ρ' 61 = .bool b → (∀ k, k < 19 → ρ' k = ρ k) → ∀ w', Mod none_ w w' → K .normal ρ' w' := fun ρ' b hb h61 hlo w' hm => hk ρ' w' (by rw [h61, hb]) hlo hm
  have hin : ∀ (n a b : Int) (K : Value → Prop), K (.bool (decide (a ≤ n) && decide (n ≤ b))) → QK Try.prog (fun w' => Mod none_ w w') (do let d ← Deferred.ofValue (.func (.func 41) #[] #[]) [.int .i64 n, .int .i64 a, .int .i64 b].toArray; invoke d.target d.args) K := fun n a b K hK =>
    QC_rt Try.func41 rfl rfl (fun w' _ => inP_ok n a b w') (fun w' u w'' hw h => ⟨h.1, by rw [h.2]; exact hw⟩) hK
  refine Qfo (show fieldOff Try.prog tRc 1 = some 1 by kernel_rfl) ?_
  refine Qld vI rfl (hc 1 (.int .i64 r.rank) rfl) ?_
  refine hin _ _ _ _ ?_
  refine Qnot ?_
  cases c1 : (decide (0 ≤ r.rank) && decide (r.rank ≤ 63)) with
  | false =>
    rw [Bool.not_false]
    repeat (first | rw [QG_b, if_neg (by decide)] | rw [QG_u] | (refine QP_of ?_; rw [if_pos rfl]))
    exact fin _ true (by unfold badR; rw [c1]; rfl) rfl (fun k hk => by repeat rw [up_lo hk (by decide)])
  | true =>
    rw [Bool.not_true, QG_b, if_pos rfl]
    refine Qfo (show fieldOff Try.prog tRc 3 = some 3 by kernel_rfl) ?_
    rw [QG_b, if_pos rfl]
    refine Qld vI rfl (hc 3 (.int .i64 r.peer) rfl) ?_
    rw [QG_b, if_pos rfl]
    refine hin _ _ _ _ ?_
    rw [QG_b, if_pos rfl]
    refine Qnot ?_
    refine QP_of ?_
    rw [if_neg (by decide)]
    cases c2 : (decide (-1 ≤ r.peer) && decide (r.peer ≤ 63)) with
    | false =>
      rw [Bool.not_false]
      repeat (first | rw [QG_b, if_neg (by decide)] | rw [QG_u] | (refine QP_of ?_; rw [if_pos rfl]))
      exact fin _ true (by unfold badR; rw [c1, c2]; rfl) rfl (fun k hk => by repeat rw [up_lo hk (by decide)])
    | true =>
      rw [Bool.not_true, QG_b, if_pos rfl]
      refine Qfo (show fieldOff Try.prog tRc 4 = some 4 by kernel_rfl) ?_
      rw [QG_b, if_pos rfl]
      refine Qld vI rfl (hc 4 (.int .i64 r.tag) rfl) ?_
      rw [QG_b, if_pos rfl]
      refine hin _ _ _ _ ?_
      rw [QG_b, if_pos rfl]
      refine Qnot ?_
      refine QP_of ?_
      rw [if_neg (by decide)]
      cases c3 : (decide (-1 ≤ r.tag) && decide (r.tag ≤ 32767)) with
      | false =>
        rw [Bool.not_false]
        repeat (first | rw [QG_b, if_neg (by decide)] | rw [QG_u] | (refine QP_of ?_; rw [if_pos rfl]))
        exact fin _ true (by unfold badR; rw [c1, c2, c3]; rfl) rfl (fun k hk => by repeat rw [up_lo hk (by decide)])
      | true =>
        rw [Bool.not_true, QG_b, if_pos rfl]
        refine Qfo (show fieldOff Try.prog tRc 5 = some 5 by kernel_rfl) ?_
        rw [QG_b, if_pos rfl]
        refine Qld vI rfl (hc 5 (.int .i64 r.req) rfl) ?_
        rw [QG_b, if_pos rfl]
        refine Qlss ?_
        refine QP_of ?_
        rw [if_neg (by decide)]
        cases c4 : decide (r.req < -1) with
        | true =>
          repeat (first | rw [QG_b, if_neg (by decide)] | rw [QG_u] | (refine QP_of ?_; rw [if_pos rfl]))
          exact fin _ true (by unfold badR; rw [c1, c2, c3, c4]; rfl) rfl (fun k hk => by repeat rw [up_lo hk (by decide)])
        | false =>
          rw [QG_b, if_pos rfl]
          refine Qfo (show fieldOff Try.prog tRc 2 = some 2 by kernel_rfl) ?_
          rw [QG_b, if_pos rfl]
          refine Qld vI rfl (hc 2 (.int .i64 r.call) rfl) ?_
          rw [QG_b, if_pos rfl]
          refine Qlss ?_
          refine QP_of ?_
          rw [if_neg (by decide)]
          cases c5 : decide (r.call < 0) with
          | true =>
            repeat (first | rw [QG_b, if_neg (by decide)] | rw [QG_u] | (refine QP_of ?_; rw [if_pos rfl]))
            exact fin _ true (by unfold badR; rw [c1, c2, c3, c4, c5]; rfl) rfl (fun k hk => by repeat rw [up_lo hk (by decide)])
          | false =>
            obtain ⟨A, c, es, _⟩ := reads_cap hl
            rw [QG_b, if_pos rfl]
            refine QM ?_
            rw [QG_b, if_pos rfl, es]
            refine QI_len vRcS _ _ _ _ ?_
            rw [QG_b, if_pos rfl]
            refine Qgtr ?_
            rw [QG_b, if_pos rfl]
            refine QM ?_
            cases hlast : l.getLast? with
            | none =>
              rw [List.getLast?_eq_none_iff] at hlast
              subst hlast
              rw [show decide ((0 : Int) < (([] : List Rc).length : Nat)) = false from rfl]
              repeat rw [QG_b, if_neg (by decide)]
              repeat rw [QG_u]
              rw [QG_b, if_pos rfl]
              refine QP_of ?_
              rw [if_neg (by decide)]
              refine QP_of ?_
              rw [if_neg (by decide)]
              exact fin _ false (by unfold badR; rw [c1, c2, c3, c4, c5]; rfl) rfl (fun k hk => by repeat rw [up_lo hk (by decide)])
            | some x =>
              have hne : 0 < l.length := by
                cases l with
                | nil => cases hlast
                | cons a l => simp
              rw [show decide ((0 : Int) < (l.length : Nat)) = true from decide_eq_true (by omega)]
              have hxl : l[l.length - 1]? = some x := by rw [← List.getLast?_eq_getElem?]; exact hlast
              have hcell : ∃ a, A = some a ∧ ∀ w', Mod none_ w w' → w'.cell? (a.add ((l.length - 1) * (8 + 1) + 2)) = some (.int .i64 x.call) := by
                have hget : (l.flatMap Rc.enc)[(l.length - 1) * (8 + 1) + 2]? = some (.int .i64 x.call) := by
                  rw [fl_get (k := 8 + 1) Rc.enc_len hxl (by decide)]; rfl
                obtain ⟨_, A', c', es', _, hr⟩ := hl
                rw [es] at es'
                cases es'
                obtain ⟨a, ha, _⟩ := hr _ _ hget
                refine ⟨a, ha, fun w' hm => ?_⟩
                obtain ⟨_, A2, c2, es2, _, hr2⟩ := RcRow.calm (l := l) (s := v) hl' hm
                rw [es] at es2
                cases es2
                obtain ⟨a2, ha2, hc2⟩ := hr2 _ _ hget
                rw [ha] at ha2
                cases ha2
                exact hc2
              obtain ⟨a, rfl, hcl⟩ := hcell
              rw [QG_b, if_pos rfl]
              refine Qfo (show fieldOff Try.prog tRc 2 = some 2 by kernel_rfl) ?_
              rw [QG_b, if_pos rfl]
              refine Qld vI rfl (hc 2 (.int .i64 r.call) rfl) ?_
              rw [QG_b, if_pos rfl]
              refine QM ?_
              rw [QG_b, if_pos rfl]
              refine QM ?_
              rw [QG_b, if_pos rfl]
              refine QI_len vRcS _ _ _ _ ?_
              rw [QG_b, if_pos rfl]
              refine Qsub ?_
              rw [wrap_i (by omega) (by omega), QG_b, if_pos rfl]
              refine QV_of (fun w _ => run_ixa vRcS cRc (by omega) (by omega) w) ?_
              rw [QG_b, if_pos rfl]
              refine Qfo (show fieldOff Try.prog tRc 2 = some 2 by kernel_rfl) ?_
              rw [QG_b, if_pos rfl]
              refine Qld vI rfl (v := .int .i64 x.call) (fun w' hm => ?_) ?_
              · have := hcl w' hm
                rw [show ((l.length : Int) - 1).toNat = l.length - 1 by omega]
                rw [add_add]
                exact this
              rw [QG_b, if_pos rfl]
              refine Qleq ?_
              rw [QG_b, if_pos rfl]
              refine QP_of ?_
              rw [if_pos rfl]
              refine QP_of ?_
              rw [if_neg (by decide)]
              exact fin _ (decide (r.call ≤ x.call)) (by unfold badR; rw [c1, c2, c3, c4, c5, hlast]; rfl) rfl (fun k hk => by repeat rw [up_lo hk (by decide)])
theorem post_R2 {b3 : Nat} {r : Rc} {v : Value} {rt : Value → World → Prop} {ρ : Sl} (h : PAt w p R vs) (h0 : 0 ≤ r.rank) (h1 : r.rank ≤ 63) (hb : w.heap[b3]? = some (.cells r.enc.toArray tRc (0, 0))) (hbp : ¬ PF p vs b3) (hv : vs[r.rank.toNat]? = some v) (hlen : (R r.rank.toNat).length ≤ 1000000)
    (e3 : ρ 3 = .pointer (some ⟨b3, 0, none⟩)) (e5 : ρ 5 = v) (e0 : ρ 0 = .pointer (some ⟨p, 0, none⟩))
    (hk : ∀ (w' : World) (vs' : List Value), PAt w' p (putR R r.rank.toNat (R r.rank.toNat ++ [r.new])) vs' → Mod (fun b => PF p vs b ∨ b = b3) w w' → (∀ b, PF p vs' b → PF p vs b ∨ w.heap.size ≤ b) → rt (.int .i64 0) w') : sx fn_ Try.prog 75 posted_Posted_Post_R2 (retK Try.prog [ResultVar.tmp 4] rt) ρ w := by
  rw [posted_Posted_Post_R2_eq]; unfold posted_Posted_Post_R2_F
  rw [e3, fo (show fieldOff Try.prog tRc 6 = some 6 by kernel_rfl), add_pl]
  refine stC rfl (by kernel_rfl) rfl hb (by simp [Rc.enc]) fun w1 hb1 hm1 hz1 => ?_
  rw [fo (show fieldOff Try.prog tRc 7 = some 7 by kernel_rfl), add_pl]
  refine stC rfl (by kernel_rfl) rfl hb1 (by simp [Rc.enc]) fun w2 hb2 hm2 hz2 => ?_
  rw [fo (show fieldOff Try.prog tRc 8 = some 8 by kernel_rfl), add_pl]
  refine stC rfl (by kernel_rfl) rfl hb2 (by simp [Rc.enc]) fun w3 hb3 hm3 hz3 => ?_
  have hm03 : Mod (fun b => b = b3) w w3 := (hm1.trans hm2).trans hm3
  have hbn : w3.heap[b3]? = some (.cells r.new.enc.toArray tRc (0, 0)) := hb3
  have h3 : PAt w3 p R vs := h.mod hm03 fun b z y => hbp (y ▸ z)
  have key : ∀ ρ1 : Sl, ρ1 3 = .pointer (some ⟨b3, 0, none⟩) → ρ1 5 = v → ρ1 0 = .pointer (some ⟨p, 0, none⟩) → W fn_ Try.prog 75 posted_Posted_Post_R3 (seqK (sx fn_ Try.prog 75 posted_Posted_Post_R4 (retK Try.prog [ResultVar.tmp 4] rt)) (retK Try.prog [ResultVar.tmp 4] rt)) ρ1 w3 := by
    intro ρ1 q3 q5 q0
    have hd : Mod none_ w3 { w3 with drawn := w3.drawn + 1 } := (Mod.refl _ w3).drawn _
    refine posted_Posted_Post_R3_held (D := []) (fun w' => w'.heap[b3]? = some (.cells r.new.enc.toArray tRc (0, 0))) (hd.blk hbn id) ?_
    have hb4 := hd.blk hbn id
    have h4 := h3.calm hd
    have hm04 := hm03.then hd fun i hi z => z.elim
    generalize ({ w3 with drawn := w3.drawn + 1 } : World) = wd at *
    unfold posted_Posted_Post_R3_H
    rw [q3, q5, q0]
    refine HV_of (fun w _ => run_fo (show fieldOff Try.prog tRc 1 = some 1 by kernel_rfl) _ w) ?_
    refine HV_of (v := .int .i64 r.rank) (fun w hw => run_ld1 vI rfl (by rw [add_pl, cell_blk hw]; rfl)) ?_
    refine HV_of (fun w hw => run_ldB Try.underlying24 rfl (by rw [iRc]; rfl) hw) ?_
    refine HN_ptr ?_
    refine HV_of (fun w _ => run_fo (show fieldOff Try.prog tPd 1 = some 1 by kernel_rfl) _ w) ?_
    refine bs_k (cs := r.new.enc.toArray) (by kernel_rfl) fun w5 hb5 hm5 hz5 => ?_
    refine ⟨hm5.blk hb4 id, ?_⟩
    have h5 := h4.calm hm5
    have hO := h5.rows _ _ hv
    refine ap_any eRcS hO (reads_blk (size := 9) (n := 1) hb5 rfl) (fun u hu => Rc.enc_mem [r.new] u (by simpa using hu)) (by unfold maxLen; omega) (by omega) (Nat.zero_le _) fun v' w6 ho6 hm6 hv6 => ?_
    have hvm := List.mem_of_getElem? hv
    have hm6' : Mod (fun b => sb v b) w5 w6 := hm6.mono fun b _ z => z.symm
    have hb6 := hm6'.blk (hm5.blk hb4 id) fun z => hbp (.inr ⟨v, hvm, z⟩)
    refine ⟨hb6, ?_⟩
    rw [add_pl]
    refine HV_of (fun w _ => run_arr h0 h1 w) ?_
    have hpb := hm6'.blk h5.blk (h5.ne v hvm)
    have hlen64 := h5.len
    have hrk : r.rank.toNat < 64 := by omega
    obtain ⟨g0, cap0, ev0, _⟩ := owns_some ho6 (by omega)
    refine stC rfl (by kernel_rfl) (by rw [ev0]; rfl) hpb (by simp; omega) fun w7 hb7 hm7 hz7 => ?_
    have hb67 := hm7.blk hb6 fun z => hbp (.inl z)
    refine ⟨hb67, ?_⟩
    rw [sq_n, posted_Posted_Post_R4_eq]; unfold posted_Posted_Post_R4_F
    show rt (.int .i64 0) w7
    have hpw5 : p < w5.heap.size := h5.old p (.inl rfl)
    have nv : ∀ g, sb v' g → sb v g ∨ g = w5.heap.size := fun g z => by
      unfold sb at z ⊢
      rcases hv6 with q | q
      · exact .inl (q ▸ z)
      · rw [q] at z; cases z; exact .inr rfl
    have nvp : ¬ sb v' p := fun z => by
      rcases nv p z with q | q
      · exact h5.ne v hvm q
      · omega
    have hm37 : Mod (fun b => PF p vs b ∨ b = b3) w w7 := by
      refine (hm04.mono fun b _ z => .inr z).then ?_ (fun i hi z => z)
      refine (hm5.mono fun b _ z => z.elim).then ?_ (fun i hi z => z)
      refine (hm6'.mono fun b _ z => .inl (.inr ⟨v, hvm, z⟩)).then ?_ (fun i hi z => z)
      exact hm7.mono fun b _ z => .inl (.inl z)
    have hs5 : w.heap.size ≤ w5.heap.size := Nat.le_trans hm04.size hm5.size
    refine hk w7 (vs.set r.rank.toNat v') ⟨?_, by rw [List.length_set]; exact hlen64, fun i u hu => ?_, fun u hu z => ?_, fun i j a b ha hb hij g za zb => ?_⟩ hm37 (fun b z => ?_)
    · rw [hb7, List.setIfInBounds_toArray, show 0 + 1 + r.rank.toNat = r.rank.toNat + 1 by omega, List.set_cons_succ]
    · unfold putR
      by_cases hi : i = r.rank.toNat
      · subst hi
        rw [if_pos rfl]
        rw [List.getElem?_set_self (by omega)] at hu
        cases hu
        have := owns_mod ho6 hm7 fun k z y => nvp (y ▸ z)
        rw [List.length_append, List.flatMap_append]
        simpa using this
      · rw [if_neg hi]
        rw [List.getElem?_set_ne (by omega)] at hu
        exact owns_mod (owns_mod (h5.rows i u hu) hm6' fun k z y => h5.dist i _ u v hu hv hi k z y) hm7 fun k z y => h5.ne u (List.mem_of_getElem? hu) (y ▸ z)
    · obtain ⟨i, hi⟩ := List.getElem?_of_mem hu
      by_cases hi' : i = r.rank.toNat
      · subst hi'
        rw [List.getElem?_set_self (by omega)] at hi
        cases hi
        exact nvp z
      · rw [List.getElem?_set_ne (by omega)] at hi
        exact h5.ne u (List.mem_of_getElem? hi) z
    · by_cases hi' : i = r.rank.toNat
      · subst hi'
        rw [List.getElem?_set_self (by omega)] at ha
        cases ha
        rw [List.getElem?_set_ne (by omega)] at hb
        rcases nv g za with q | q
        · exact h5.dist _ j v b hv hb hij g q zb
        · have := h5.old g (.inr ⟨b, List.mem_of_getElem? hb, zb⟩); omega
      · rw [List.getElem?_set_ne (by omega)] at ha
        by_cases hj' : j = r.rank.toNat
        · subst hj'
          rw [List.getElem?_set_self (by omega)] at hb
          cases hb
          rcases nv g zb with q | q
          · exact h5.dist i _ a v ha hv hi' g za q
          · have := h5.old g (.inr ⟨a, List.mem_of_getElem? ha, za⟩); omega
        · rw [List.getElem?_set_ne (by omega)] at hb
          exact h5.dist i j a b ha hb hij g za zb
    · rcases z with rfl | ⟨u, hu, hz⟩
      · exact .inl (.inl rfl)
      · obtain ⟨i, hi⟩ := List.getElem?_of_mem hu
        by_cases hi' : i = r.rank.toNat
        · subst hi'
          rw [List.getElem?_set_self (by omega)] at hi
          cases hi
          rcases nv b hz with q | q
          · exact .inl (.inr ⟨v, hvm, q⟩)
          · right; omega
        · rw [List.getElem?_set_ne (by omega)] at hi
          exact .inl (.inr ⟨u, List.mem_of_getElem? hi, hz⟩)
  exact key _ (by first | exact e3 | rfl) (by first | exact e5 | rfl) (by first | exact e0 | rfl)
end
end Go.Proofs.Ytmnkedgmpbcicaa.Que
set_option linter.unusedVariables false
set_option linter.unusedSimpArgs false
set_option maxRecDepth 8000
namespace Go.Proofs.Ytmnkedgmpbcicaa.Que
open Go Go.X Go.RowKit Go.Proofs.Ytmnkedgmpbcicaa.XF Go.Proofs.Ytmnkedgmpbcicaa.XG Go.Proofs.Ytmnkedgmpbcicaa.XK
section
variable {w : World} {p : Nat} {R : Rks} {vs : List Value}
theorem row_R {R : Rks} {n : Nat} (hlen : ∀ i, (R i).length ≤ n) (rk : Int) : (rowP R rk).length ≤ n := by
  unfold rowP
  split
  · exact hlen _
  · exact Nat.zero_le _
theorem Post_ok (h : PAt w p R vs) (hlen : ∀ i, (R i).length ≤ 1000000) (r : Rc) : Rt Try.prog 14 #[.pointer (some ⟨p, 0, none⟩), .agg r.enc.toArray] w fun v w' => v = .int .i64 (postV R r).2 ∧ ∃ vs', PAt w' p (postV R r).1 vs' ∧ PFr p w vs w' vs' := by
  refine posted_Posted_Post_calls ?_
  unfold posted_Posted_Post_F
  refine box_k (cs := r.enc.toArray) rfl fun w1 hb1 hm1 hz1 => ?_
  have h1 := h.calm hm1
  rw [BK_eqlP uPd]
  simp only [Option.isNone_some, ↓VG_u, ↓UG_u, ↓MG_u, ↓NG_u, ↓PG_u, ↓BG_u, ↓CG_u, ↓IG_u, ↓VGtt, ↓VGtf, ↓VGft, ↓VGff, ↓UGtt, ↓UGtf, ↓UGft, ↓UGff, ↓MGtt, ↓MGtf, ↓MGft, ↓MGff, ↓NGtt, ↓NGtf, ↓NGft, ↓NGff, ↓PGtt, ↓PGtf, ↓PGft, ↓PGff, ↓BGtt, ↓BGtf, ↓BGft, ↓BGff, ↓CGtt, ↓CGtf, ↓CGft, ↓CGff, ↓IGtt, ↓IGtf, ↓IGft, ↓IGff, ↓PKt, ↓PKf, ↓CDt, ↓CDf, ↓NOTt, ↓NOTf, ↓NK_ptr]
  rw [(f_made h1).e]
  try simp only [↓VG_u, ↓UG_u, ↓MG_u, ↓NG_u, ↓PG_u, ↓BG_u, ↓CG_u, ↓IG_u, ↓VGtt, ↓VGtf, ↓VGft, ↓VGff, ↓UGtt, ↓UGtf, ↓UGft, ↓UGff, ↓MGtt, ↓MGtf, ↓MGft, ↓MGff, ↓NGtt, ↓NGtf, ↓NGft, ↓NGff, ↓PGtt, ↓PGtf, ↓PGft, ↓PGff, ↓BGtt, ↓BGtf, ↓BGft, ↓BGff, ↓CGtt, ↓CGtf, ↓CGft, ↓CGff, ↓IGtt, ↓IGtf, ↓IGft, ↓IGff, ↓PKt, ↓PKf, ↓CDt, ↓CDf, ↓NOTt, ↓NOTf, ↓NK_ptr]
  have g1 : FO Try.prog w1 tRc 1 1 ⟨w.heap.size, 0, none⟩ 3 (.int .i64 r.rank) := FO.blk hb1 (by kernel_rfl) vI rfl rfl
  rw [g1.e]
  refine CK_st Try.func40 rfl rfl (of_ok' h1 r.rank) ?_
  rintro v w2 ⟨rfl, hrow, hv⟩
  have hbp : ¬ PF p vs w.heap.size := fun z => by have := h.old _ z; omega
  refine post_R0 hb1 hrow (row_R hlen _) rfl rfl ?_
  intro ρ3 w3 q61 hlo hm3
  have e3 : ρ3 3 = .pointer (some ⟨w.heap.size, 0, none⟩) := hlo 3 (by decide)
  have e5 : ρ3 5 = v := hlo 5 (by decide)
  have e0 : ρ3 0 = .pointer (some ⟨p, 0, none⟩) := hlo 0 (by decide)
  rw [sq_n, posted_Posted_Post_R1_eq]; unfold posted_Posted_Post_R1_F
  rw [q61]
  have h3 := h1.calm hm3
  unfold postV
  refine caseC (fun q => ?_) (fun q => ?_)
  · rw [q]
    exact ⟨rfl, vs, h3, PFr.calm (hm1.trans hm3)⟩
  · rw [q, sq_n]
    have hr : 0 ≤ r.rank ∧ r.rank ≤ 63 := by
      unfold badR at q
      simp only [Bool.or_eq_false_iff, Bool.not_eq_false', Bool.and_eq_true, decide_eq_true_eq] at q
      exact q.1.1.1.1.1
    have hrw : rowP R r.rank = R r.rank.toNat := by unfold rowP; rw [if_pos hr]
    refine post_R2 (r := r) h3 hr.1 hr.2 (hm3.blk hb1 id) hbp (hv hr) (hlen _) e3 e5 e0 fun w4 vs' h4 hm4 hf4 => ?_
    have s1 := hm1.size
    have s3 := hm3.size
    refine ⟨rfl, vs', ?_, ?_, ?_⟩
    · simp only [Bool.false_eq_true, if_false]
      rw [hrw]
      exact h4
    · refine (Mod.mono (hm1.trans hm3) fun b _ z => z.elim).then hm4 fun i hi z => ?_
      rcases z with z | z
      · exact z
      · omega
    · intro b z
      rcases hf4 b z with u | u
      · exact .inl u
      · right; omega
theorem place1_ok {w : World} {cb : Nat} {c : Int} (hb : w.heap[cb]? = some (.cells #[.int .i64 c] 3 (0, 0))) (r : Rc) : Rt Try.prog 67 #[.agg r.enc.toArray, .pointer (some ⟨cb, 0, none⟩)] w fun v w' => v = .bool (decide (r.call = c)) ∧ Mod none_ w w' := by
  refine posted_Posted_place_1_calls ?_
  unfold posted_Posted_place_1_F
  refine box_k (cs := r.enc.toArray) rfl fun w1 hb1 hm1 hz1 => ?_
  have g : FO Try.prog w1 tRc 2 2 ⟨w.heap.size, 0, none⟩ 3 (.int .i64 r.call) := FO.blk hb1 (by kernel_rfl) vI rfl rfl
  rw [g.e]
  refine ldOne rfl vI rfl (hm1.blk hb id) ?_
  rw [BK_eql]
  exact ⟨by by_cases e : r.call = c <;> simp [e], hm1⟩
def isC (c : Int) (r : Rc) : Bool := decide (r.call = c)
theorem place_ok' (h : PAt w p R vs) (hlen : ∀ i, (R i).length ≤ 1000000) (rk c : Int) : Rt Try.prog 42 #[.pointer (some ⟨p, 0, none⟩), .int .i64 rk, .int .i64 c] w fun v w' => v = .int .i64 (idxR (isC c) (rowP R rk)) ∧ Mod none_ w w' := by
  refine posted_Posted_place_calls ?_
  unfold posted_Posted_place_F
  refine box_k (cs := #[.int .i64 c]) rfl fun w1 hb1 hm1 hz1 => ?_
  refine CK_st Try.func40 rfl rfl (of_ok' (h.calm hm1) rk) ?_
  rintro v w2 ⟨rfl, hrow, hv⟩
  rw [mkFunc]
  have := row_R hlen rk
  refine CK_st Try.func66 rfl rfl (IndexFuncRc_ok (p := isC c) hrow (by omega) ?_) ?_
  · intro a _ w' hm K hK
    refine CK_fn Try.func67 rfl rfl (place1_ok (hm.blk hb1 id) a) ?_
    rintro _ w'' ⟨rfl, hm'⟩
    exact hK w'' hm'
  · rintro _ w3 ⟨rfl, hm3⟩
    exact ⟨rfl, hm1.trans hm3⟩
def atV (R : Rks) (rk c : Int) : Option Rc := (rowP R rk).find? (isC c)
def rcb (o : Option Rc) : Value := match o with | some r => .tuple #[.agg r.enc.toArray, .bool true] | none => .tuple #[.agg zRc.enc.toArray, .bool false]
theorem idxR_find {l : List Rc} {q : Rc → Bool} : (idxR q l < 0 ∧ l.find? q = none) ∨ ∃ (j : Nat) (r : Rc), idxR q l = (j : Int) ∧ l[j]? = some r ∧ l.find? q = some r ∧ l.findIdx? q = some j := by
  unfold idxR
  cases hq : l.findIdx? q with
  | none =>
    left
    rw [List.findIdx?_eq_none_iff] at hq
    exact ⟨by decide, List.find?_eq_none.2 fun x hx => by rw [hq x hx]; decide⟩
  | some j =>
    right
    have hq' := hq
    rw [List.findIdx?_eq_some_iff_getElem] at hq
    obtain ⟨hj, hp, hlt⟩ := hq
    refine ⟨j, l[j], rfl, List.getElem?_eq_getElem hj, ?_, rfl⟩
    rw [List.find?_eq_some_iff_getElem]
    exact ⟨hp, j, hj, rfl, fun i hi => by have := hlt i hi; simpa using this⟩
theorem At_ok (h : PAt w p R vs) (hlen : ∀ i, (R i).length ≤ 1000000) (rk c : Int) : Rt Try.prog 21 #[.pointer (some ⟨p, 0, none⟩), .int .i64 rk, .int .i64 c] w fun v w' => v = rcb (atV R rk c) ∧ Mod none_ w w' := by
  refine posted_Posted_At_calls ?_
  unfold posted_Posted_At_F
  refine al_k (cs := zRc.enc.toArray) zRc_z rfl _ fun w1 hb1 hm1 hz1 => ?_
  have h1 := h.calm hm1
  refine CK_st Try.func42 rfl rfl (place_ok' h1 hlen rk c) ?_
  rintro _ w2 ⟨rfl, hm2⟩
  rw [BK_lss]
  have hb2 := hm2.blk hb1 id
  unfold atV
  rcases idxR_find (l := rowP R rk) (q := isC c) with ⟨hn, hf⟩ | ⟨j, r, hj, hjr, hf, _⟩
  · rw [decide_eq_true hn, hf]
    refine condT ?_
    rw [build_ok (cs := zRc.enc.toArray) (by kernel_rfl)]
    refine stS (cs := zRc.enc.toArray) (old := zRc.enc.toArray) rfl rfl (by rw [iRc]; rfl) rfl (Rc.enc_one _) hb2 fun w3 hb3 hm3 hz3 => ?_
    exact ⟨_, res_ld (run_ldB Try.underlying24 rfl (by rw [iRc]; rfl) hb3), rfl, (hm1.trans hm2).fresh hm3 (Nat.le_refl _)⟩
  · rw [hj, decide_eq_false (by omega), hf]
    refine condF ?_
    refine CK_st Try.func40 rfl rfl (of_ok' (h1.calm hm2) rk) ?_
    rintro v w4 ⟨rfl, hrow, hv⟩
    refine ixRc hrow hjr rfl fun x => ?_
    refine stS (cs := r.enc.toArray) (old := zRc.enc.toArray) rfl rfl (by rw [iRc]; rfl) rfl (Rc.enc_one _) hb2 fun w3 hb3 hm3 hz3 => ?_
    exact ⟨_, res_ld (run_ldB Try.underlying24 rfl (by rw [iRc]; rfl) hb3), rfl, (hm1.trans hm2).fresh hm3 (Nat.le_refl _)⟩
theorem Waiting_ok (h : PAt w p R vs) (hlen : ∀ i, (R i).length ≤ 1000000) (rk : Int) : Rt Try.prog 18 #[.pointer (some ⟨p, 0, none⟩), .int .i64 rk] w (RowR w ((rowP R rk).filter wt)) := by
  refine posted_Posted_Waiting_calls ?_
  unfold posted_Posted_Waiting_F
  refine CK_st Try.func40 rfl rfl (of_ok' h rk) ?_
  rintro v w2 ⟨rfl, hrow, hv⟩
  refine CK_st Try.func46 rfl rfl (kept_ok hrow (row_R hlen rk)) ?_
  rintro u w3 hr
  exact hr
end
end Go.Proofs.Ytmnkedgmpbcicaa.Que
set_option linter.unusedVariables false
set_option linter.unusedSimpArgs false
set_option maxRecDepth 8000
namespace Go.Proofs.Ytmnkedgmpbcicaa.Que
open Go Go.X Go.RowKit Go.Proofs.Ytmnkedgmpbcicaa.XF Go.Proofs.Ytmnkedgmpbcicaa.XG Go.Proofs.Ytmnkedgmpbcicaa.XK
def skipV (r : Rc) (f : Int) : Bool := !decide (r.peer = -1) && !decide (r.peer = f)
def oneV (ls : List Ms) (r : Rc) (wait : List Rc) (f : Int) : Option Ms :=
  if skipV r f then none else match firstV ls (r.key, f, r.rank) r.tag with
    | none => none
    | some m => if wait.any (fun x => fitsV x m) then none else some m
def freeV (ls : List Ms) (r : Rc) (ahead : List Rc) : List Ms := (sendersV ls r.key r.rank).filterMap (oneV ls r (ahead.filter wt))
theorem free1_ok {w : World} {mb : Nat} {m : Ms} (hb : w.heap[mb]? = some (.cells m.enc.toArray tMs (0, 0))) (r : Rc) : Rt Try.prog 65 #[.agg r.enc.toArray, .pointer (some ⟨mb, 0, none⟩)] w fun v w' => v = .bool (fitsV r m) ∧ Mod none_ w w' := by
  refine posted_free_1_calls ?_
  unfold posted_free_1_F
  refine box_k (cs := r.enc.toArray) rfl fun w1 hb1 hm1 hz1 => ?_
  refine ldS rfl Try.underlying24 rfl (by rw [iRc]; rfl) hb1 ?_
  refine ldS rfl Try.underlying39 rfl (by rw [iMs]; rfl) (hm1.blk hb id) ?_
  refine CK_st Try.func48 rfl rfl (fits_ok w1 r m) ?_
  rintro _ w2 ⟨rfl, hm2⟩
  exact ⟨rfl, hm1.trans hm2⟩
section
variable {w wB : World} {q b4 : Nat} {ls : List Ms} {V : QV} {r : Rc} {wait : List Rc} {S : List Int} {vw vS : Value}
structure FIn (wB : World) (q b4 : Nat) (ls : List Ms) (V : QV) (r : Rc) (wait : List Rc) (S : List Int) (vw vS : Value) : Prop where
  q : QAt wB q ls V
  len : ls.length ≤ 1000000
  b : wB.heap[b4]? = some (.cells r.enc.toArray tRc (0, 0))
  wt : RcRow wB vw wait
  wl : wait.length ≤ 1000000
  s : wB.ownsRow 0 tI 1 vS S.length (ints S)
  sl : S.length ≤ 64
def FInv (wB : World) (q b4 : Nat) (ls : List Ms) (r : Rc) (wait : List Rc) (S : List Int) (vw vS : Value) (i : Nat) (ρ : Sl) (w' : World) : Prop :=
  ∃ o : Value, ρ 23 = .int .i64 i ∧ ρ 22 = .int .i64 S.length ∧ ρ 21 = vS ∧ ρ 4 = .pointer (some ⟨b4, 0, none⟩) ∧ ρ 0 = .pointer (some ⟨q, 0, none⟩) ∧ ρ 8 = vw ∧ ρ 7 = o ∧
    w'.ownsRow wB.heap.size tMs 8 o ((S.take i).filterMap (oneV ls r wait)).length (((S.take i).filterMap (oneV ls r wait)).flatMap Ms.enc) ∧ Mod none_ wB w'
theorem free_R2 {K : Exit → Sl → World → Prop} {ρ : Sl} {i : Nat} {x : Int} {o : Value} (hi : i < 64) (e23 : ρ 23 = .int .i64 i) (e22 : ρ 22 = .int .i64 S.length) (e21 : ρ 21 = vS) (e4 : ρ 4 = .pointer (some ⟨b4, 0, none⟩)) (e0 : ρ 0 = .pointer (some ⟨q, 0, none⟩)) (e8 : ρ 8 = vw) (e7 : ρ 7 = o)
    (hO : w.ownsRow wB.heap.size tMs 8 o ((S.take (i + 1)).filterMap (oneV ls r wait)).length (((S.take (i + 1)).filterMap (oneV ls r wait)).flatMap Ms.enc)) (hm : Mod none_ wB w)
    (hk : ∀ ρ', FInv wB q b4 ls r wait S vw vS (i + 1) ρ' w → K .normal ρ' w) : sx fn_ Try.prog 62 posted_free_R2 K ρ w := by
  rw [posted_free_R2_eq]; unfold posted_free_R2_F
  rw [e23, BK_add, wrap_i (by omega) (by omega)]
  exact hk _ ⟨o, rfl, e22, e21, e4, e0, e8, e7, hO, hm⟩
theorem take_one {S : List Int} {i : Nat} {x : Int} (h : S[i]? = some x) (g : Int → Option Ms) : (S.take (i + 1)).filterMap g = (S.take i).filterMap g ++ (match g x with | none => [] | some m => [m]) := by
  rw [List.take_add_one, h, Option.toList_some, List.filterMap_append]
  congr 1
  cases hg : g x <;> simp [hg]
theorem free_R3 {K : Exit → Sl → World → Prop} {ρ : Sl} {i mb : Nat} {x : Int} {o : Value} {fs : Option Ms} (h : FIn wB q b4 ls V r wait S vw vS) (hx : S[i]? = some x) (hsk : skipV r x = false) (hfs : firstV ls (r.key, x, r.rank) r.tag = fs)
    (hb : w.heap[mb]? = some (.cells (fs.getD zMs).enc.toArray tMs (0, 0))) (hbn : mb < w.heap.size)
    (hO : w.ownsRow wB.heap.size tMs 8 o ((S.take i).filterMap (oneV ls r wait)).length (((S.take i).filterMap (oneV ls r wait)).flatMap Ms.enc)) (hm : Mod none_ wB w) (hmo : ¬ sb o mb)
    (e11 : ρ 11 = .pointer (some ⟨mb, 0, none⟩)) (e12 : ρ 12 = .bool fs.isSome)
    (e23 : ρ 23 = .int .i64 i) (e22 : ρ 22 = .int .i64 S.length) (e21 : ρ 21 = vS) (e4 : ρ 4 = .pointer (some ⟨b4, 0, none⟩)) (e0 : ρ 0 = .pointer (some ⟨q, 0, none⟩)) (e8 : ρ 8 = vw) (e7 : ρ 7 = o)
    (hk : ∀ ρ' w', FInv wB q b4 ls r wait S vw vS (i + 1) ρ' w' → K .normal ρ' w') : sx fn_ Try.prog 62 posted_free_R3 (blkK 1 (seqK (sx fn_ Try.prog 62 posted_free_R2 K) K)) ρ w := by
  have hil := (List.getElem?_eq_some_iff.1 hx).1
  have hsl := h.sl
  rw [posted_free_R3_eq]; unfold posted_free_R3_F
  rw [e11, e12, e8, e7, mkFunc]
  have htk := take_one hx (oneV ls r wait)
  have hlen : ((S.take i).filterMap (oneV ls r wait)).length ≤ 64 := Nat.le_trans (List.length_filterMap_le _ _) (by rw [List.length_take]; omega)
  refine CK_st Try.func64 rfl rfl (ContainsFuncRc_ok (p := fun y => fitsV y (fs.getD zMs)) (h.wt.calm hm) (by have := h.wl; omega) ?_) ?_
  · intro a _ w' hm' K hK
    refine CK_fn Try.func65 rfl rfl (free1_ok (hm'.blk hb id) a) ?_
    rintro _ w'' ⟨rfl, hm''⟩
    exact hK w'' hm''
  rintro _ w1 ⟨rfl, hm1⟩
  have hO1 := owns_mod hO hm1 fun _ _ => id
  have hm01 := hm.trans hm1
  cases fs with
  | none =>
    have hone : oneV ls r wait x = none := by unfold oneV; rw [hsk, hfs]; rfl
    simp only [Option.isSome_none, ↓VG_u, ↓UG_u, ↓MG_u, ↓NG_u, ↓PG_u, ↓BG_u, ↓CG_u, ↓IG_u, ↓VGtt, ↓VGtf, ↓VGft, ↓VGff, ↓UGtt, ↓UGtf, ↓UGft, ↓UGff, ↓MGtt, ↓MGtf, ↓MGft, ↓MGff, ↓NGtt, ↓NGtf, ↓NGft, ↓NGff, ↓PGtt, ↓PGtf, ↓PGft, ↓PGff, ↓BGtt, ↓BGtf, ↓BGft, ↓BGff, ↓CGtt, ↓CGtf, ↓CGft, ↓CGff, ↓IGtt, ↓IGtf, ↓IGft, ↓IGff, ↓PKt, ↓PKf, ↓CDt, ↓CDf, ↓NOTt, ↓NOTf, ↓NK_ptr]
    rw [bk_n, sq_n]
    have : (S.take (i + 1)).filterMap (oneV ls r wait) = (S.take i).filterMap (oneV ls r wait) := by rw [htk, hone]; exact List.append_nil _
    rw [← this] at hO1
    exact free_R2 (x := x) (by omega) (by first | exact e23 | rfl) (by first | exact e22 | rfl) (by first | exact e21 | rfl) (by first | exact e4 | rfl) (by first | exact e0 | rfl) (by first | exact e8 | rfl) (by first | exact e7 | rfl) hO1 hm01 fun ρ' hF => hk ρ' w1 hF
  | some m =>
    have hone : oneV ls r wait x = if wait.any (fun y => fitsV y m) then none else some m := by unfold oneV; rw [hsk, hfs]; rfl
    simp only [Option.isSome_some, Option.getD_some, ↓VG_u, ↓UG_u, ↓MG_u, ↓NG_u, ↓PG_u, ↓BG_u, ↓CG_u, ↓IG_u, ↓VGtt, ↓VGtf, ↓VGft, ↓VGff, ↓UGtt, ↓UGtf, ↓UGft, ↓UGff, ↓MGtt, ↓MGtf, ↓MGft, ↓MGff, ↓NGtt, ↓NGtf, ↓NGft, ↓NGff, ↓PGtt, ↓PGtf, ↓PGft, ↓PGff, ↓BGtt, ↓BGtf, ↓BGft, ↓BGff, ↓CGtt, ↓CGtf, ↓CGft, ↓CGff, ↓IGtt, ↓IGtf, ↓IGft, ↓IGff, ↓PKt, ↓PKf, ↓CDt, ↓CDf, ↓NOTt, ↓NOTf, ↓NK_ptr] at hb ⊢
    cases hcl : wait.any (fun y => fitsV y m) with
    | true =>
      try simp only [↓VG_u, ↓UG_u, ↓MG_u, ↓NG_u, ↓PG_u, ↓BG_u, ↓CG_u, ↓IG_u, ↓VGtt, ↓VGtf, ↓VGft, ↓VGff, ↓UGtt, ↓UGtf, ↓UGft, ↓UGff, ↓MGtt, ↓MGtf, ↓MGft, ↓MGff, ↓NGtt, ↓NGtf, ↓NGft, ↓NGff, ↓PGtt, ↓PGtf, ↓PGft, ↓PGff, ↓BGtt, ↓BGtf, ↓BGft, ↓BGff, ↓CGtt, ↓CGtf, ↓CGft, ↓CGff, ↓IGtt, ↓IGtf, ↓IGft, ↓IGff, ↓PKt, ↓PKf, ↓CDt, ↓CDf, ↓NOTt, ↓NOTf, ↓NK_ptr]
      rw [bk_n, sq_n]
      have : (S.take (i + 1)).filterMap (oneV ls r wait) = (S.take i).filterMap (oneV ls r wait) := by rw [htk, hone, hcl]; exact List.append_nil _
      rw [← this] at hO1
      exact free_R2 (x := x) (by omega) (by first | exact e23 | rfl) (by first | exact e22 | rfl) (by first | exact e21 | rfl) (by first | exact e4 | rfl) (by first | exact e0 | rfl) (by first | exact e8 | rfl) (by first | exact e7 | rfl) hO1 hm01 fun ρ' hF => hk ρ' w1 hF
    | false =>
      try simp only [↓VG_u, ↓UG_u, ↓MG_u, ↓NG_u, ↓PG_u, ↓BG_u, ↓CG_u, ↓IG_u, ↓VGtt, ↓VGtf, ↓VGft, ↓VGff, ↓UGtt, ↓UGtf, ↓UGft, ↓UGff, ↓MGtt, ↓MGtf, ↓MGft, ↓MGff, ↓NGtt, ↓NGtf, ↓NGft, ↓NGff, ↓PGtt, ↓PGtf, ↓PGft, ↓PGff, ↓BGtt, ↓BGtf, ↓BGft, ↓BGff, ↓CGtt, ↓CGtf, ↓CGft, ↓CGff, ↓IGtt, ↓IGtf, ↓IGft, ↓IGff, ↓PKt, ↓PKf, ↓CDt, ↓CDf, ↓NOTt, ↓NOTf, ↓NK_ptr]
      have hb1 := hm1.blk hb id
      refine ldS rfl Try.underlying39 rfl (by rw [iMs]; rfl) hb1 ?_
      refine app1 hO1 hm01.size (by omega) fun _ o' w2 hO2 hm2 => ?_
      have : (S.take (i + 1)).filterMap (oneV ls r wait) = (S.take i).filterMap (oneV ls r wait) ++ [m] := by rw [htk, hone, hcl]; rfl
      rw [← this] at hO2
      rw [bk_n, sq_n]
      exact free_R2 (x := x) (by omega) (by first | exact e23 | rfl) (by first | exact e22 | rfl) (by first | exact e21 | rfl) (by first | exact e4 | rfl) (by first | exact e0 | rfl) (by first | exact e8 | rfl) rfl hO2 (hm01.then hm2 fun i hi z => by omega) fun ρ' hF => hk ρ' w2 hF
end
end Go.Proofs.Ytmnkedgmpbcicaa.Que
set_option linter.unusedVariables false
set_option linter.unusedSimpArgs false
set_option maxRecDepth 8000
namespace Go.Proofs.Ytmnkedgmpbcicaa.Que
open Go Go.X Go.RowKit Go.Proofs.Ytmnkedgmpbcicaa.XF Go.Proofs.Ytmnkedgmpbcicaa.XG Go.Proofs.Ytmnkedgmpbcicaa.XK
theorem free_ok {w : World} {q : Nat} {ls : List Ms} {V : QV} {ahead : List Rc} {va : Value} (hq : QAt w q ls V) (hg : FrmOk ls) (hL : ls.length ≤ 500000) (r : Rc) (ha : RcRow w va ahead) (hal : ahead.length ≤ 1000000) : Rt Try.prog 39 #[.pointer (some ⟨q, 0, none⟩), .agg r.enc.toArray, va] w (RowP w (freeV ls r ahead)) := by
  refine posted_free_calls ?_
  unfold posted_free_F
  refine box_k (cs := r.enc.toArray) rfl fun w1 hb1 hm1 hz1 => ?_
  refine CK_st Try.func46 rfl rfl (kept_ok (ha.calm hm1) hal) ?_
  rintro vw w2 ⟨hO2, hm2⟩
  have hb2 := hm2.blk hb1 id
  have g0 : FO Try.prog w2 tRc 0 0 ⟨w.heap.size, 0, none⟩ 9 (strV r.key) := FO.blk hb2 (by kernel_rfl) vS rfl rfl
  have g1 : FO Try.prog w2 tRc 1 1 ⟨w.heap.size, 0, none⟩ 3 (.int .i64 r.rank) := FO.blk hb2 (by kernel_rfl) vI rfl rfl
  rw [g0.e, g1.e]
  have hm12 := hm1.trans hm2
  refine CK_st Try.func62 rfl rfl (Senders_ok (hq.calm hm12) hg hL r.key r.rank) ?_
  rintro vZ w3 ⟨hO3, hm3⟩
  obtain ⟨A, c, es, _⟩ := reads_cap (reads_of_owns hO3)
  rw [es, len_sl vIs, ← es]
  have hm13 := hm12.trans hm3
  have hwl : (ahead.filter wt).length ≤ 1000000 := Nat.le_trans (List.length_filter_le _ _) hal
  have hin : FIn w3 q w.heap.size ls V r (ahead.filter wt) (sendersV ls r.key r.rank) vw vZ := ⟨hq.calm hm13, by omega, hm3.blk hb2 id, RcRow.calm (reads_of_owns hO2) hm3, hwl, owns_base hO3 (Nat.zero_le _), upto_len ls r.key r.rank 64⟩
  have s3 := hm13.size
  unfold freeV
  generalize sendersV ls r.key r.rank = S at *
  generalize ahead.filter wt = wait at *
  refine W_loop posted_free_L0_ok (fun ρ w' => ∃ i : Nat, i ≤ S.length ∧ FInv w3 q w.heap.size ls r wait S vw vZ i ρ w') (fun ρ _ => S.length - (intOf (ρ 23)).toNat)
    ⟨0, Nat.zero_le _, .slice none 0 0, rfl, rfl, rfl, rfl, rfl, rfl, rfl, World.ownsRow_nil _ _ _ _, Mod.refl _ _⟩ ?_
  rintro ρ w4 ⟨i, hi, o, e23, e22, e21, e4, e0, e8, e7, hO, hm⟩
  rw [posted_free_L0_eq]; unfold posted_free_L0_F
  rw [e23, e22, e21, e4, e0, BK_lss]
  have hsl := hin.sl
  by_cases hlt : i < S.length
  · rw [decide_eq_true (by omega)]
    refine condT ?_
    have hx : S[i]? = some S[i] := List.getElem?_eq_getElem hlt
    generalize S[i] = x at *
    obtain ⟨a, ha1, hl1⟩ := ixI hin.s hx
    rw [VK_eq_of (ha1 w4), VK_eq_of (hl1 w4 hm)]
    have hb4 := hm.blk hin.b id
    have k3 : FO Try.prog w4 tRc 3 3 ⟨w.heap.size, 0, none⟩ 3 (.int .i64 r.peer) := FO.blk hb4 (by kernel_rfl) vI rfl rfl
    have fin : ∀ (ρ' : Sl) (w' : World), FInv w3 q w.heap.size ls r wait S vw vZ (i + 1) ρ' w' → (∃ i : Nat, i ≤ S.length ∧ FInv w3 q w.heap.size ls r wait S vw vZ i ρ' w') ∧ S.length - (intOf (ρ' 23)).toNat < S.length - (intOf (.int .i64 (i : Int))).toNat := by
      intro ρ' w' hI
      refine ⟨⟨i + 1, hlt, hI⟩, ?_⟩
      obtain ⟨_, q23, _⟩ := hI
      rw [q23]
      simp only [intOf]; omega
    rw [k3.e]
    have k0 : FO Try.prog w4 tRc 0 0 ⟨w.heap.size, 0, none⟩ 9 (strV r.key) := FO.blk hb4 (by kernel_rfl) vS rfl rfl
    have k1 : FO Try.prog w4 tRc 1 1 ⟨w.heap.size, 0, none⟩ 3 (.int .i64 r.rank) := FO.blk hb4 (by kernel_rfl) vI rfl rfl
    have k4 : FO Try.prog w4 tRc 4 4 ⟨w.heap.size, 0, none⟩ 3 (.int .i64 r.tag) := FO.blk hb4 (by kernel_rfl) vI rfl rfl
    have hq4 := (hin.q).calm hm
    by_cases c1 : r.peer = -1
    · have hsk : skipV r x = false := by unfold skipV; rw [decide_eq_true c1]; rfl
      rw [NEf c1]
      try simp only [↓VG_u, ↓UG_u, ↓MG_u, ↓NG_u, ↓PG_u, ↓BG_u, ↓CG_u, ↓IG_u, ↓VGtt, ↓VGtf, ↓VGft, ↓VGff, ↓UGtt, ↓UGtf, ↓UGft, ↓UGff, ↓MGtt, ↓MGtf, ↓MGft, ↓MGff, ↓NGtt, ↓NGtf, ↓NGft, ↓NGff, ↓PGtt, ↓PGtf, ↓PGft, ↓PGff, ↓BGtt, ↓BGtf, ↓BGft, ↓BGff, ↓CGtt, ↓CGtf, ↓CGft, ↓CGff, ↓IGtt, ↓IGtf, ↓IGft, ↓IGff, ↓PKt, ↓PKf, ↓CDt, ↓CDf, ↓NOTt, ↓NOTf, ↓NK_ptr]
      rw [k0.e]
      try simp only [↓VG_u, ↓UG_u, ↓MG_u, ↓NG_u, ↓PG_u, ↓BG_u, ↓CG_u, ↓IG_u, ↓VGtt, ↓VGtf, ↓VGft, ↓VGff, ↓UGtt, ↓UGtf, ↓UGft, ↓UGff, ↓MGtt, ↓MGtf, ↓MGft, ↓MGff, ↓NGtt, ↓NGtf, ↓NGft, ↓NGff, ↓PGtt, ↓PGtf, ↓PGft, ↓PGff, ↓BGtt, ↓BGtf, ↓BGft, ↓BGff, ↓CGtt, ↓CGtf, ↓CGft, ↓CGff, ↓IGtt, ↓IGtf, ↓IGft, ↓IGff, ↓PKt, ↓PKf, ↓CDt, ↓CDf, ↓NOTt, ↓NOTf, ↓NK_ptr]
      rw [k1.e]
      try simp only [↓VG_u, ↓UG_u, ↓MG_u, ↓NG_u, ↓PG_u, ↓BG_u, ↓CG_u, ↓IG_u, ↓VGtt, ↓VGtf, ↓VGft, ↓VGff, ↓UGtt, ↓UGtf, ↓UGft, ↓UGff, ↓MGtt, ↓MGtf, ↓MGft, ↓MGff, ↓NGtt, ↓NGtf, ↓NGft, ↓NGff, ↓PGtt, ↓PGtf, ↓PGft, ↓PGff, ↓BGtt, ↓BGtf, ↓BGft, ↓BGff, ↓CGtt, ↓CGtf, ↓CGft, ↓CGff, ↓IGtt, ↓IGtf, ↓IGft, ↓IGff, ↓PKt, ↓PKf, ↓CDt, ↓CDf, ↓NOTt, ↓NOTf, ↓NK_ptr]
      rw [k4.e]
      refine CK_st Try.func63 rfl rfl (First_ok hq4 (by omega) r.key x r.rank r.tag) ?_
      rintro _ w5 ⟨rfl, hm5⟩
      rw [msb_get]
      generalize hfs : firstV ls (r.key, x, r.rank) r.tag = fs
      rw [extract_ok (v := .agg (fs.getD zMs).enc.toArray) rfl, extract_ok (v := .bool fs.isSome) rfl]
      refine slot_k fun w6 hb6 hm6 hz6 => ?_
      have hm46 := hm5.trans hm6
      refine free_R3 hin hx hsk hfs hb6 (by omega) (owns_mod hO hm46 fun _ _ => id) (hm.trans hm46) (fun z => by have := (owns_bd hO _ z).2; have := hm5.size; omega) rfl rfl (by first | exact e23 | rfl) (by first | exact e22 | rfl) (by first | exact e21 | rfl) (by first | exact e4 | rfl) (by first | exact e0 | rfl) (by first | exact e8 | rfl) (by first | exact e7 | rfl) ?_
      intro ρ' w' hI
      exact fin ρ' w' hI
    · rw [NEt c1]
      try simp only [↓VG_u, ↓UG_u, ↓MG_u, ↓NG_u, ↓PG_u, ↓BG_u, ↓CG_u, ↓IG_u, ↓VGtt, ↓VGtf, ↓VGft, ↓VGff, ↓UGtt, ↓UGtf, ↓UGft, ↓UGff, ↓MGtt, ↓MGtf, ↓MGft, ↓MGff, ↓NGtt, ↓NGtf, ↓NGft, ↓NGff, ↓PGtt, ↓PGtf, ↓PGft, ↓PGff, ↓BGtt, ↓BGtf, ↓BGft, ↓BGff, ↓CGtt, ↓CGtf, ↓CGft, ↓CGff, ↓IGtt, ↓IGtf, ↓IGft, ↓IGff, ↓PKt, ↓PKf, ↓CDt, ↓CDf, ↓NOTt, ↓NOTf, ↓NK_ptr]
      rw [k3.e]
      try simp only [↓VG_u, ↓UG_u, ↓MG_u, ↓NG_u, ↓PG_u, ↓BG_u, ↓CG_u, ↓IG_u, ↓VGtt, ↓VGtf, ↓VGft, ↓VGff, ↓UGtt, ↓UGtf, ↓UGft, ↓UGff, ↓MGtt, ↓MGtf, ↓MGft, ↓MGff, ↓NGtt, ↓NGtf, ↓NGft, ↓NGff, ↓PGtt, ↓PGtf, ↓PGft, ↓PGff, ↓BGtt, ↓BGtf, ↓BGft, ↓BGff, ↓CGtt, ↓CGtf, ↓CGft, ↓CGff, ↓IGtt, ↓IGtf, ↓IGft, ↓IGff, ↓PKt, ↓PKf, ↓CDt, ↓CDf, ↓NOTt, ↓NOTf, ↓NK_ptr]
      by_cases c2 : r.peer = x
      · have hsk : skipV r x = false := by unfold skipV; rw [decide_eq_true c2, Bool.not_true, Bool.and_false]
        rw [NEf c2]
        try simp only [↓VG_u, ↓UG_u, ↓MG_u, ↓NG_u, ↓PG_u, ↓BG_u, ↓CG_u, ↓IG_u, ↓VGtt, ↓VGtf, ↓VGft, ↓VGff, ↓UGtt, ↓UGtf, ↓UGft, ↓UGff, ↓MGtt, ↓MGtf, ↓MGft, ↓MGff, ↓NGtt, ↓NGtf, ↓NGft, ↓NGff, ↓PGtt, ↓PGtf, ↓PGft, ↓PGff, ↓BGtt, ↓BGtf, ↓BGft, ↓BGff, ↓CGtt, ↓CGtf, ↓CGft, ↓CGff, ↓IGtt, ↓IGtf, ↓IGft, ↓IGff, ↓PKt, ↓PKf, ↓CDt, ↓CDf, ↓NOTt, ↓NOTf, ↓NK_ptr]
        rw [k0.e]
        try simp only [↓VG_u, ↓UG_u, ↓MG_u, ↓NG_u, ↓PG_u, ↓BG_u, ↓CG_u, ↓IG_u, ↓VGtt, ↓VGtf, ↓VGft, ↓VGff, ↓UGtt, ↓UGtf, ↓UGft, ↓UGff, ↓MGtt, ↓MGtf, ↓MGft, ↓MGff, ↓NGtt, ↓NGtf, ↓NGft, ↓NGff, ↓PGtt, ↓PGtf, ↓PGft, ↓PGff, ↓BGtt, ↓BGtf, ↓BGft, ↓BGff, ↓CGtt, ↓CGtf, ↓CGft, ↓CGff, ↓IGtt, ↓IGtf, ↓IGft, ↓IGff, ↓PKt, ↓PKf, ↓CDt, ↓CDf, ↓NOTt, ↓NOTf, ↓NK_ptr]
        rw [k1.e]
        try simp only [↓VG_u, ↓UG_u, ↓MG_u, ↓NG_u, ↓PG_u, ↓BG_u, ↓CG_u, ↓IG_u, ↓VGtt, ↓VGtf, ↓VGft, ↓VGff, ↓UGtt, ↓UGtf, ↓UGft, ↓UGff, ↓MGtt, ↓MGtf, ↓MGft, ↓MGff, ↓NGtt, ↓NGtf, ↓NGft, ↓NGff, ↓PGtt, ↓PGtf, ↓PGft, ↓PGff, ↓BGtt, ↓BGtf, ↓BGft, ↓BGff, ↓CGtt, ↓CGtf, ↓CGft, ↓CGff, ↓IGtt, ↓IGtf, ↓IGft, ↓IGff, ↓PKt, ↓PKf, ↓CDt, ↓CDf, ↓NOTt, ↓NOTf, ↓NK_ptr]
        rw [k4.e]
        refine CK_st Try.func63 rfl rfl (First_ok hq4 (by omega) r.key x r.rank r.tag) ?_
        rintro _ w5 ⟨rfl, hm5⟩
        rw [msb_get]
        generalize hfs : firstV ls (r.key, x, r.rank) r.tag = fs
        rw [extract_ok (v := .agg (fs.getD zMs).enc.toArray) rfl, extract_ok (v := .bool fs.isSome) rfl]
        refine slot_k fun w6 hb6 hm6 hz6 => ?_
        have hm46 := hm5.trans hm6
        refine free_R3 hin hx hsk hfs hb6 (by omega) (owns_mod hO hm46 fun _ _ => id) (hm.trans hm46) (fun z => by have := (owns_bd hO _ z).2; have := hm5.size; omega) rfl rfl (by first | exact e23 | rfl) (by first | exact e22 | rfl) (by first | exact e21 | rfl) (by first | exact e4 | rfl) (by first | exact e0 | rfl) (by first | exact e8 | rfl) (by first | exact e7 | rfl) ?_
        intro ρ' w' hI
        exact fin ρ' w' hI
      · have hsk : skipV r x = true := by unfold skipV; rw [decide_eq_false c1, decide_eq_false c2]; rfl
        rw [NEt c2]
        try simp only [↓VG_u, ↓UG_u, ↓MG_u, ↓NG_u, ↓PG_u, ↓BG_u, ↓CG_u, ↓IG_u, ↓VGtt, ↓VGtf, ↓VGft, ↓VGff, ↓UGtt, ↓UGtf, ↓UGft, ↓UGff, ↓MGtt, ↓MGtf, ↓MGft, ↓MGff, ↓NGtt, ↓NGtf, ↓NGft, ↓NGff, ↓PGtt, ↓PGtf, ↓PGft, ↓PGff, ↓BGtt, ↓BGtf, ↓BGft, ↓BGff, ↓CGtt, ↓CGtf, ↓CGft, ↓CGff, ↓IGtt, ↓IGtf, ↓IGft, ↓IGff, ↓PKt, ↓PKf, ↓CDt, ↓CDf, ↓NOTt, ↓NOTf, ↓NK_ptr]
        have hone : oneV ls r wait x = none := by unfold oneV; rw [hsk]; rfl
        have : (S.take (i + 1)).filterMap (oneV ls r wait) = (S.take i).filterMap (oneV ls r wait) := by rw [take_one hx, hone]; exact List.append_nil _
        rw [← this] at hO
        exact free_R2 (x := x) (by omega) (by first | exact e23 | rfl) (by first | exact e22 | rfl) (by first | exact e21 | rfl) (by first | exact e4 | rfl) (by first | exact e0 | rfl) (by first | exact e8 | rfl) (by first | exact e7 | rfl) hO hm fun ρ' hF => fin ρ' w4 hF
  · obtain rfl : i = S.length := by omega
    rw [decide_eq_false (by omega)]
    refine condF ?_
    rw [List.take_length] at hO
    rw [sq_x, bk_x, sq_n, posted_free_R1_eq]; unfold posted_free_R1_F
    have key : ∀ ρ0 : Sl, ρ0 7 = o → retK Try.prog [ResultVar.tmp 6] (RowP w (S.filterMap (oneV ls r wait))) .ret (up (up ρ0 61 (ρ0 7)) 6 (ρ0 7)) w4 := by
      intro ρ0 z
      show RowP w _ (ρ0 7) w4
      rw [z]
      exact ⟨owns_base hO s3, hm13.trans hm⟩
    exact key _ (by first | exact e7 | rfl)
section
variable {w : World} {p q : Nat} {R : Rks} {vs : List Value} {ls : List Ms} {V : QV}
def mayV (R : Rks) (ls : List Ms) (rk c : Int) : List Ms := match (rowP R rk).findIdx? (isC c) with
  | none => []
  | some i => match (rowP R rk)[i]? with
    | none => []
    | some r => if r.done then [] else freeV ls r ((rowP R rk).take i)
theorem May_ok (h : PAt w p R vs) (hlen : ∀ i, (R i).length ≤ 1000000) (hq : QAt w q ls V) (hg : FrmOk ls) (hL : ls.length ≤ 500000) (rk c : Int) : Rt Try.prog 16 #[.pointer (some ⟨p, 0, none⟩), .pointer (some ⟨q, 0, none⟩), .int .i64 rk, .int .i64 c] w (RowP w (mayV R ls rk c)) := by
  refine posted_Posted_May_calls ?_
  unfold posted_Posted_May_F
  refine CK_st Try.func42 rfl rfl (place_ok' h hlen rk c) ?_
  rintro _ w1 ⟨rfl, hm1⟩
  rw [BK_lss]
  have h1 := h.calm hm1
  have hnil : RowP w [] (.slice none 0 0) w1 := ⟨World.ownsRow_nil _ _ _ _, hm1⟩
  unfold mayV
  rcases idxR_find (l := rowP R rk) (q := isC c) with ⟨hn, hf⟩ | ⟨j, r, hj, hjr, hf, hfi⟩
  · rw [decide_eq_true hn]
    refine condT ?_
    have : (rowP R rk).findIdx? (isC c) = none := by
      rw [List.findIdx?_eq_none_iff]
      intro x hx
      have := List.find?_eq_none.1 hf x hx
      simpa using this
    rw [this]
    exact hnil
  · rw [hj, decide_eq_false (by omega), hfi]
    refine condF ?_
    refine CK_st Try.func40 rfl rfl (of_ok' h1 rk) ?_
    rintro v w1 ⟨rfl, hrow, hv⟩
    have hrl := row_R hlen rk
    have hjl := (List.getElem?_eq_some_iff.1 hjr).1
    dsimp only
    rw [hjr]
    dsimp only
    generalize hL0 : rowP R rk = row at *
    refine ixRcA hrow hjr rfl fun a ha => ?_
    rw [fo (show fieldOff Try.prog tRc 6 = some 6 by kernel_rfl)]
    refine ld1 vB rfl (ha 6 (.bool r.done) rfl) ?_
    cases hd : r.done with
    | true =>
      refine condT ?_
      exact hnil
    | false =>
      refine condF ?_
      refine posted_Posted_May_R0_tail (D := []) ?_
      have hmd : Mod none_ w1 { w1 with drawn := w1.drawn + 1 } := (Mod.refl _ w1).drawn _
      generalize ({ w1 with drawn := w1.drawn + 1 } : World) = wd at *
      have hrd := hrow.calm hmd
      have key : ∀ (ρ0 : Sl) (K : Exit → Sl → World → Prop), ρ0 10 = v → ρ0 9 = .int .i64 (j : Int) → ρ0 1 = .pointer (some ⟨q, 0, none⟩) → (∀ (ρ' : Sl) (u : Value) (w' : World), ρ' 8 = u → RowP wd (freeV ls r (row.take j)) u w' → K .normal ρ' w') → posted_Posted_May_R0_T K ρ0 wd := by
        intro ρ0 K q10 q9 q1 hK
        unfold posted_Posted_May_R0_T
        rw [q10, q9, q1]
        obtain ⟨A, c, es, hnc⟩ := reads_cap hrd
        intro C
        have hat : ∃ a, A = some a ∧ ∀ k u, r.enc[k]? = some u → wd.cell? ((a.add (j * (8 + 1))).add k) = some u := by
          obtain ⟨_, A', c', es', _, hr⟩ := hrd
          rw [es] at es'
          cases es'
          have h0 : (row.flatMap Rc.enc)[j * (8 + 1) + 0]? = some (strV r.key) := by rw [fl_get (k := 8 + 1) Rc.enc_len hjr (by decide)]; rfl
          obtain ⟨a, ha', _⟩ := hr _ _ h0
          refine ⟨a, ha', fun k u hu => ?_⟩
          have hk : k < 8 + 1 := (List.getElem?_eq_some_iff.1 hu).1
          obtain ⟨a2, ha2, hc2⟩ := hr (j * (8 + 1) + k) u (by rw [fl_get (k := 8 + 1) Rc.enc_len hjr hk]; exact hu)
          rw [ha'] at ha2
          cases ha2
          rw [add_add]
          exact hc2
        obtain ⟨a, rfl, hcl⟩ := hat
        rw [es]
        refine QV_of (fun w' _ => run_ixa vRcS cRc (by omega) (by omega) w') ?_
        refine QV_of (v := .agg r.enc.toArray) (fun w' hw => ?_) ?_
        · cases (show w' = wd from hw)
          rw [show ((j : Int)).toNat = j by omega]
          exact run_ldA Try.underlying24 rfl (by rw [iRc]; rfl) hcl
        refine QV_of (fun w' _ => run_cut vRcS cRc (by omega) (by omega) (by omega) w') ?_
        have hcut : RcRow wd (sliced (some a) 0 (j : Int).toNat c (8 + 1)) (row.take j) := by
          have hlj : (row.take j).length = j := by rw [List.length_take]; omega
          unfold RcRow
          rw [hlj, show ((j : Int)).toNat = j by omega]
          have := reads_cut (m := j) (es ▸ hrd) (by omega) (8 + 1)
          rw [fl_take (k := 8 + 1) Rc.enc_len] at this
          exact this
        refine CK_st Try.func39 rfl rfl (free_ok ((hq.calm hm1).calm hmd) hg hL r hcut (by rw [List.length_take]; omega)) ?_
        rintro u w3 hr3
        exact hK _ u w3 rfl hr3
      refine key _ _ rfl rfl rfl ?_
      intro ρ' u w' q8 hr
      rw [sq_n, posted_Posted_May_R1_eq]; unfold posted_Posted_May_R1_F
      show RowP w _ (ρ' 8) w'
      rw [q8]
      have s1 := hm1.size
      have sd := hmd.size
      exact ⟨owns_base hr.1 (by omega), (hm1.trans hmd).trans hr.2⟩
theorem Probe_ok (h : PAt w p R vs) (hlen : ∀ i, (R i).length ≤ 1000000) (hq : QAt w q ls V) (hg : FrmOk ls) (hL : ls.length ≤ 500000) (r : Rc) : Rt Try.prog 13 #[.pointer (some ⟨p, 0, none⟩), .pointer (some ⟨q, 0, none⟩), .agg r.enc.toArray] w (RowP w (freeV ls r (rowP R r.rank))) := by
  refine posted_Posted_Probe_calls ?_
  unfold posted_Posted_Probe_F
  refine box_k (cs := r.enc.toArray) rfl fun w1 hb1 hm1 hz1 => ?_
  have h1 := h.calm hm1
  rw [BK_eqlP uPd]
  simp only [Option.isNone_some, ↓VG_u, ↓UG_u, ↓MG_u, ↓NG_u, ↓PG_u, ↓BG_u, ↓CG_u, ↓IG_u, ↓VGtt, ↓VGtf, ↓VGft, ↓VGff, ↓UGtt, ↓UGtf, ↓UGft, ↓UGff, ↓MGtt, ↓MGtf, ↓MGft, ↓MGff, ↓NGtt, ↓NGtf, ↓NGft, ↓NGff, ↓PGtt, ↓PGtf, ↓PGft, ↓PGff, ↓BGtt, ↓BGtf, ↓BGft, ↓BGff, ↓CGtt, ↓CGtf, ↓CGft, ↓CGff, ↓IGtt, ↓IGtf, ↓IGft, ↓IGff, ↓PKt, ↓PKf, ↓CDt, ↓CDf, ↓NOTt, ↓NOTf, ↓NK_ptr]
  rw [(f_made h1).e]
  try simp only [↓VG_u, ↓UG_u, ↓MG_u, ↓NG_u, ↓PG_u, ↓BG_u, ↓CG_u, ↓IG_u, ↓VGtt, ↓VGtf, ↓VGft, ↓VGff, ↓UGtt, ↓UGtf, ↓UGft, ↓UGff, ↓MGtt, ↓MGtf, ↓MGft, ↓MGff, ↓NGtt, ↓NGtf, ↓NGft, ↓NGff, ↓PGtt, ↓PGtf, ↓PGft, ↓PGff, ↓BGtt, ↓BGtf, ↓BGft, ↓BGff, ↓CGtt, ↓CGtf, ↓CGft, ↓CGff, ↓IGtt, ↓IGtf, ↓IGft, ↓IGff, ↓PKt, ↓PKf, ↓CDt, ↓CDf, ↓NOTt, ↓NOTf, ↓NK_ptr]
  have hmd : Mod none_ w1 { w1 with drawn := w1.drawn + 1 } := (Mod.refl _ w1).drawn _
  refine posted_Posted_Probe_R0_held (D := []) (fun w' => Mod none_ w1 w') hmd ?_
  generalize ({ w1 with drawn := w1.drawn + 1 } : World) = wd at *
  have key : ∀ (ρ0 : Sl) (K : Exit → Sl → World → Prop), ρ0 5 = .pointer (some ⟨w.heap.size, 0, none⟩) → ρ0 0 = .pointer (some ⟨p, 0, none⟩) → ρ0 1 = .pointer (some ⟨q, 0, none⟩) → (∀ (ρ' : Sl) (u : Value) (w' : World), ρ' 6 = u → RowP wd (freeV ls r (rowP R r.rank)) u w' → K .normal ρ' w') → posted_Posted_Probe_R0_H (fun w' => Mod none_ w1 w') K ρ0 wd := by
    intro ρ0 K q5 q0 q1 hK
    unfold posted_Posted_Probe_R0_H
    rw [q5, q0, q1]
    refine HV_of (fun w' hw => run_ldB Try.underlying24 rfl (by rw [iRc]; rfl) (hw.blk hb1 id)) ?_
    refine HV_of (fun w _ => run_fo (show fieldOff Try.prog tRc 1 = some 1 by kernel_rfl) _ w) ?_
    refine HV_of (v := .int .i64 r.rank) (fun w' hw => run_ld1 vI rfl (by rw [add_pl, cell_blk (hw.blk hb1 id)]; rfl)) ?_
    refine CK_st Try.func40 rfl rfl (of_ok' (h1.calm hmd) r.rank) ?_
    rintro v wd ⟨rfl, hrow, hv⟩
    refine ⟨hmd, ?_⟩
    refine CK_st Try.func39 rfl rfl (free_ok ((hq.calm hm1).calm hmd) hg hL r hrow (row_R hlen _)) ?_
    rintro u w3 hr3
    exact ⟨hmd.trans hr3.2, hK _ u w3 rfl hr3⟩
  refine key _ _ rfl rfl rfl ?_
  intro ρ' u w' q6 hr
  rw [sq_n, posted_Posted_Probe_R1_eq]; unfold posted_Posted_Probe_R1_F
  show RowP w _ (ρ' 6) w'
  rw [q6]
  have s1 := hm1.size
  have sd := hmd.size
  exact ⟨owns_base hr.1 (by omega), (hm1.trans hmd).trans hr.2⟩
end
end Go.Proofs.Ytmnkedgmpbcicaa.Que
set_option linter.unusedVariables false
set_option linter.unusedSimpArgs false
set_option maxRecDepth 8000
namespace Go.X
open Go Go.RowKit
def Rc.got (f s : Int) (r : Rc) : Rc := { r with done := true, frm := f, seq := s }
end Go.X
namespace Go.Proofs.Ytmnkedgmpbcicaa.Que
open Go Go.X Go.RowKit Go.Proofs.Ytmnkedgmpbcicaa.XF Go.Proofs.Ytmnkedgmpbcicaa.XG Go.Proofs.Ytmnkedgmpbcicaa.XK
def setV (R : Rks) (rk c f s : Int) : Rks := match (rowP R rk).findIdx? (isC c) with
  | none => R
  | some j => match (rowP R rk)[j]? with
    | none => R
    | some r => putR R rk.toNat ((rowP R rk).set j (r.got f s))
def matchV (R : Rks) (ls : List Ms) (rk c f s : Int) : (Rks × List Ms) × Int :=
  if (mayV R ls rk c).any (Ms.isAt f s) then (if (takeV ls f s).2 = 0 then ((setV R rk c f s, (takeV ls f s).1), 0) else ((R, (takeV ls f s).1), 2)) else ((R, ls), 2)
structure PP (w0 w : World) (q p : Nat) (ls : List Ms) (V : QV) (R : Rks) (vs : List Value) : Prop where
  qa : QAt w q ls V
  pa : PAt w p R vs
  dj : ∀ b, V.F q b → ¬ PF p vs b
  fq : ∀ b, V.F q b → w0.heap.size ≤ b
  fp : ∀ b, PF p vs b → w0.heap.size ≤ b
  mod : Mod none_ w0 w
section
variable {w0 w w1 : World} {q p : Nat} {ls ls' : List Ms} {V V1 : QV} {R R' : Rks} {vs vs' : List Value}
theorem PP.move {S : Nat → Prop} (h : PP w0 w q p ls V R vs) (hm : Mod S w w1) (hS : ∀ b, S b → ¬ V.F q b ∧ ¬ PF p vs b ∧ w0.heap.size ≤ b) : PP w0 w1 q p ls V R vs :=
  ⟨h.qa.mod hm fun b z y => (hS b y).1 z, h.pa.mod hm fun b z y => (hS b y).2.1 z, h.dj, h.fq, h.fp, h.mod.then hm fun i hi z => by have := (hS i z).2.2; omega⟩
theorem PP.calm (h : PP w0 w q p ls V R vs) (hm : Mod none_ w w1) : PP w0 w1 q p ls V R vs := h.move hm fun _ z => z.elim
theorem PP.onQ (h : PP w0 w q p ls V R vs) (h1 : QAt w1 q ls' V1) (f : QFr q w V w1 V1) : PP w0 w1 q p ls' V1 R vs := by
  have hs := h.mod.size
  refine ⟨h1, h.pa.mod f.mod fun b z y => h.dj b y z, fun b z y => ?_, fun b z => ?_, h.fp, h.mod.then f.mod fun i hi z => by have := h.fq i z; omega⟩
  · rcases f.f b z with u | u
    · exact h.dj b u y
    · have := h.pa.old b y; omega
  · rcases f.f b z with u | u
    · exact h.fq b u
    · omega
theorem PP.onP (h : PP w0 w q p ls V R vs) (h1 : PAt w1 p R' vs') (f : PFr p w vs w1 vs') : PP w0 w1 q p ls V R' vs' := by
  have hs := h.mod.size
  refine ⟨h.qa.mod f.mod fun b z y => h.dj b z y, h1, fun b z y => ?_, h.fq, fun b z => ?_, h.mod.then f.mod fun i hi z => by have := h.fp i z; omega⟩
  · rcases f.f b y with u | u
    · exact h.dj b z u
    · have := h.qa.old b z; omega
  · rcases f.f b z with u | u
    · exact h.fp b u
    · omega
theorem match1_ok {w : World} {fb cb : Nat} {f c : Int} (hf : w.heap[fb]? = some (.cells #[.int .i64 f] 3 (0, 0))) (hb : w.heap[cb]? = some (.cells #[.int .i64 c] 3 (0, 0))) (m : Ms) : Rt Try.prog 43 #[.agg m.enc.toArray, .pointer (some ⟨fb, 0, none⟩), .pointer (some ⟨cb, 0, none⟩)] w fun v w' => v = .bool (m.isAt f c) ∧ Mod none_ w w' := by
  refine posted_Posted_Match_1_calls ?_
  unfold posted_Posted_Match_1_F
  refine box_k (cs := m.enc.toArray) rfl fun w1 hb1 hm1 hz1 => ?_
  have g1 : FO Try.prog w1 tMs 1 1 ⟨w.heap.size, 0, none⟩ 3 (.int .i64 m.frm) := FO.blk hb1 (by kernel_rfl) vI rfl rfl
  have g3 : FO Try.prog w1 tMs 3 3 ⟨w.heap.size, 0, none⟩ 3 (.int .i64 m.call) := FO.blk hb1 (by kernel_rfl) vI rfl rfl
  rw [g1.e]
  refine ldOne rfl vI rfl (hm1.blk hf id) ?_
  unfold Ms.isAt
  by_cases c1 : m.frm = f
  · rw [EQt c1, decide_eq_true c1]
    try simp only [↓VG_u, ↓UG_u, ↓MG_u, ↓NG_u, ↓PG_u, ↓BG_u, ↓CG_u, ↓IG_u, ↓VGtt, ↓VGtf, ↓VGft, ↓VGff, ↓UGtt, ↓UGtf, ↓UGft, ↓UGff, ↓MGtt, ↓MGtf, ↓MGft, ↓MGff, ↓NGtt, ↓NGtf, ↓NGft, ↓NGff, ↓PGtt, ↓PGtf, ↓PGft, ↓PGff, ↓BGtt, ↓BGtf, ↓BGft, ↓BGff, ↓CGtt, ↓CGtf, ↓CGft, ↓CGff, ↓IGtt, ↓IGtf, ↓IGft, ↓IGff, ↓PKt, ↓PKf, ↓CDt, ↓CDf, ↓NOTt, ↓NOTf, ↓NK_ptr]
    rw [g3.e]
    try simp only [↓VG_u, ↓UG_u, ↓MG_u, ↓NG_u, ↓PG_u, ↓BG_u, ↓CG_u, ↓IG_u, ↓VGtt, ↓VGtf, ↓VGft, ↓VGff, ↓UGtt, ↓UGtf, ↓UGft, ↓UGff, ↓MGtt, ↓MGtf, ↓MGft, ↓MGff, ↓NGtt, ↓NGtf, ↓NGft, ↓NGff, ↓PGtt, ↓PGtf, ↓PGft, ↓PGff, ↓BGtt, ↓BGtf, ↓BGft, ↓BGff, ↓CGtt, ↓CGtf, ↓CGft, ↓CGff, ↓IGtt, ↓IGtf, ↓IGft, ↓IGff, ↓PKt, ↓PKf, ↓CDt, ↓CDf, ↓NOTt, ↓NOTf, ↓NK_ptr]
    refine ldOne rfl vI rfl (hm1.blk hb id) ?_
    rw [BK_eql]
    try simp only [↓VG_u, ↓UG_u, ↓MG_u, ↓NG_u, ↓PG_u, ↓BG_u, ↓CG_u, ↓IG_u, ↓VGtt, ↓VGtf, ↓VGft, ↓VGff, ↓UGtt, ↓UGtf, ↓UGft, ↓UGff, ↓MGtt, ↓MGtf, ↓MGft, ↓MGff, ↓NGtt, ↓NGtf, ↓NGft, ↓NGff, ↓PGtt, ↓PGtf, ↓PGft, ↓PGff, ↓BGtt, ↓BGtf, ↓BGft, ↓BGff, ↓CGtt, ↓CGtf, ↓CGft, ↓CGff, ↓IGtt, ↓IGtf, ↓IGft, ↓IGff, ↓PKt, ↓PKf, ↓CDt, ↓CDf, ↓NOTt, ↓NOTf, ↓NK_ptr]
    exact ⟨by by_cases e : m.call = c <;> simp [e], hm1⟩
  · rw [EQf c1, decide_eq_false c1]
    try simp only [↓VG_u, ↓UG_u, ↓MG_u, ↓NG_u, ↓PG_u, ↓BG_u, ↓CG_u, ↓IG_u, ↓VGtt, ↓VGtf, ↓VGft, ↓VGff, ↓UGtt, ↓UGtf, ↓UGft, ↓UGff, ↓MGtt, ↓MGtf, ↓MGft, ↓MGff, ↓NGtt, ↓NGtf, ↓NGft, ↓NGff, ↓PGtt, ↓PGtf, ↓PGft, ↓PGff, ↓BGtt, ↓BGtf, ↓BGft, ↓BGff, ↓CGtt, ↓CGtf, ↓CGft, ↓CGff, ↓IGtt, ↓IGtf, ↓IGft, ↓IGff, ↓PKt, ↓PKf, ↓CDt, ↓CDf, ↓NOTt, ↓NOTf, ↓NK_ptr]
    exact ⟨by first | rfl | simp, hm1⟩
theorem match_R1 {K : Value → World → Prop} {ρ : Sl} {rk c f s : Int} {j b10 b11 : Nat} {r : Rc} (h : PAt w p R vs) (hlen : ∀ i, (R i).length ≤ 1000000) (h0 : 0 ≤ rk) (h1 : rk ≤ 63) (hj : (R rk.toNat).findIdx? (isC c) = some j) (hr : (R rk.toNat)[j]? = some r)
    (hb10 : w.heap[b10]? = some (.cells #[.int .i64 f] 3 (0, 0))) (hb11 : w.heap[b11]? = some (.cells #[.int .i64 s] 3 (0, 0)))
    (hp10 : ¬ PF p vs b10) (hp11 : ¬ PF p vs b11)
    (e0 : ρ 0 = .pointer (some ⟨p, 0, none⟩)) (e2 : ρ 2 = .int .i64 rk) (e3 : ρ 3 = .int .i64 c) (e10 : ρ 10 = .pointer (some ⟨b10, 0, none⟩)) (e11 : ρ 11 = .pointer (some ⟨b11, 0, none⟩))
    (hk : ∀ w', PAt w' p (putR R rk.toNat ((R rk.toNat).set j (r.got f s))) vs → Mod (PF p vs) w w' → K (.int .i64 0) w') : sx fn_ Try.prog 62 posted_Posted_Match_R1 (retK Try.prog [ResultVar.tmp 12] K) ρ w := by
  rw [posted_Posted_Match_R1_eq]; unfold posted_Posted_Match_R1_F
  have hmd : Mod none_ w { w with drawn := w.drawn + 1 } := (Mod.refl _ w).drawn _
  refine posted_Posted_Match_R2_held (D := []) (fun w' => Mod none_ w w') hmd ?_
  generalize ({ w with drawn := w.drawn + 1 } : World) = wd at *
  have hrow : rowP R rk = R rk.toNat := by unfold rowP; rw [if_pos ⟨h0, h1⟩]
  have hjl := (List.getElem?_eq_some_iff.1 hr).1
  obtain ⟨v, hv, _, _⟩ := h.at h0 h1
  have hO := h.rows _ _ hv
  obtain ⟨g, cap, ev, _⟩ := owns_some hO (by omega)
  have hvm := List.mem_of_getElem? hv
  have hgv : sb v g := by rw [ev]; rfl
  unfold posted_Posted_Match_R2_H
  rw [e0, e2, e3]
  refine HN_ptr ?_
  refine HV_of (fun w _ => run_fo (show fieldOff Try.prog tPd 1 = some 1 by kernel_rfl) _ w) ?_
  rw [add_pl]
  refine HV_of (fun w _ => run_arr h0 h1 w) ?_
  refine HV_of (v := v) (fun w' hw => run_ld1 vRcS rfl ?_) ?_
  · obtain ⟨v', hv', hc', _⟩ := (h.calm hw).at h0 h1
    rw [hv] at hv'
    cases hv'
    rw [Nat.zero_add]
    exact hc'
  refine CK_st Try.func42 rfl rfl (place_ok' (h.calm hmd) hlen rk c) ?_
  rintro _ w2 ⟨rfl, hm2⟩
  have hw2 := hmd.trans hm2
  refine ⟨hw2, ?_⟩
  rw [hrow, show idxR (isC c) (R rk.toNat) = (j : Int) by unfold idxR; rw [hj], ev]
  refine HV_of (fun w _ => run_ixa vRcS cRc (by omega) (by omega) w) ?_
  rw [sq_n, posted_Posted_Match_R3_eq]; unfold posted_Posted_Match_R3_F
  have hb10' := hw2.blk hb10 id
  have hb11' := hw2.blk hb11 id
  have h2 := h.calm hw2
  have key : ∀ (ρ1 : Sl), ρ1 14 = .pointer (some ⟨g, j * 9, none⟩) → ρ1 10 = .pointer (some ⟨b10, 0, none⟩) → ρ1 11 = .pointer (some ⟨b11, 0, none⟩) → W fn_ Try.prog 62 posted_Posted_Match_R4 (seqK (sx fn_ Try.prog 62 posted_Posted_Match_R5 (retK Try.prog [ResultVar.tmp 12] K)) (retK Try.prog [ResultVar.tmp 12] K)) ρ1 w2 := by
    intro ρ1 q14 q10 q11
    have hmd2 : Mod none_ w2 { w2 with drawn := w2.drawn + 1 } := (Mod.refl _ w2).drawn _
    refine posted_Posted_Match_R4_held (D := []) (fun w' => w'.heap[b10]? = some (.cells #[.int .i64 f] 3 (0, 0)) ∧ w'.heap[b11]? = some (.cells #[.int .i64 s] 3 (0, 0))) ⟨hmd2.blk hb10' id, hmd2.blk hb11' id⟩ ?_
    have hb10'' := hmd2.blk hb10' id
    have hb11'' := hmd2.blk hb11' id
    have h3 := h2.calm hmd2
    have hw3 := hw2.trans hmd2
    generalize ({ w2 with drawn := w2.drawn + 1 } : World) = w3 at *
    unfold posted_Posted_Match_R4_H posted_Posted_Match_R4_H0
    rw [q14, q10, q11]
    refine HV_of (v := .int .i64 f) (fun w hw => run_ld1 vI rfl (by rw [cell_blk hw.1]; rfl)) ?_
    refine HV_of (v := .int .i64 s) (fun w hw => run_ld1 vI rfl (by rw [cell_blk hw.2]; rfl)) ?_
    refine HN_ptr ?_
    refine HV_of (fun w _ => run_fo (show fieldOff Try.prog tRc 6 = some 6 by kernel_rfl) _ w) ?_
    rw [add_pl]
    have hO3 := h3.rows _ _ hv
    rw [ev] at hO3
    have hn10 : ¬ b10 = g := fun z => hp10 (.inr ⟨v, hvm, z ▸ hgv⟩)
    have hn11 : ¬ b11 = g := fun z => hp11 (.inr ⟨v, hvm, z ▸ hgv⟩)
    have s1 : ((R rk.toNat).flatMap Rc.enc).set (j * 9 + 6) (.bool true) = ((R rk.toNat).set j { r with done := true }).flatMap Rc.enc := fl_set (k := 8 + 1) Rc.enc_len hr (by decide) rfl
    have s2 : (((R rk.toNat).set j { r with done := true }).flatMap Rc.enc).set (j * 9 + 7) (.int .i64 f) = (((R rk.toNat).set j { r with done := true }).set j { r with done := true, frm := f }).flatMap Rc.enc := fl_set (k := 8 + 1) Rc.enc_len (List.getElem?_set_self hjl) (by decide) rfl
    have s3 : (((R rk.toNat).set j { r with done := true, frm := f }).flatMap Rc.enc).set (j * 9 + 8) (.int .i64 s) = (((R rk.toNat).set j { r with done := true, frm := f }).set j (r.got f s)).flatMap Rc.enc := fl_set (k := 8 + 1) Rc.enc_len (List.getElem?_set_self hjl) (by decide) rfl
    rw [List.set_set] at s2 s3
    refine st_row (by kernel_rfl) rfl hO3 (by omega) fun w4 hO4 hm4 => ?_
    rw [s1] at hO4
    have hb4 := hm4.blk hb10'' hn10
    have hc4 := hm4.blk hb11'' hn11
    refine ⟨⟨hb4, hc4⟩, ?_⟩
    refine HN_ptr ?_
    refine HV_of (fun w _ => run_fo (show fieldOff Try.prog tRc 7 = some 7 by kernel_rfl) _ w) ?_
    rw [add_pl]
    refine st_row (by kernel_rfl) rfl hO4 (by omega) fun w5 hO5 hm5 => ?_
    rw [s2] at hO5
    have hb5 := hm5.blk hb4 hn10
    have hc5 := hm5.blk hc4 hn11
    refine ⟨⟨hb5, hc5⟩, ?_⟩
    refine HN_ptr ?_
    have key2 : ∀ ρ2 : Sl, ρ2 60 = .pointer (some ⟨g, j * 9, none⟩) → ρ2 55 = .int .i64 s → posted_Posted_Match_R4_H1 (fun w' => w'.heap[b10]? = some (.cells #[.int .i64 f] 3 (0, 0)) ∧ w'.heap[b11]? = some (.cells #[.int .i64 s] 3 (0, 0))) (seqK (sx fn_ Try.prog 62 posted_Posted_Match_R5 (retK Try.prog [ResultVar.tmp 12] K)) (retK Try.prog [ResultVar.tmp 12] K) .normal) ρ2 w5 := by
      intro ρ2 q60 q55
      unfold posted_Posted_Match_R4_H1
      rw [q60, q55]
      refine HV_of (fun w _ => run_fo (show fieldOff Try.prog tRc 8 = some 8 by kernel_rfl) _ w) ?_
      rw [add_pl]
      refine st_row (by kernel_rfl) rfl hO5 (by omega) fun w6 hO6 hm6 => ?_
      rw [s3] at hO6
      refine ⟨⟨hm6.blk hb5 hn10, hm6.blk hc5 hn11⟩, ?_⟩
      rw [sq_n, posted_Posted_Match_R5_eq]; unfold posted_Posted_Match_R5_F
      show K (.int .i64 0) w6
      have hm36 : Mod (fun b => b = g) w3 w6 := (hm4.trans hm5).trans hm6
      refine hk w6 ⟨hm36.blk h3.blk fun z => h3.ne v hvm (z ▸ hgv), h3.len, fun i u hu => ?_, h3.ne, h3.dist⟩ ((hw3.mono fun b _ z => z.elim).then hm36 fun i hi z => .inr ⟨v, hvm, z ▸ hgv⟩)
      unfold putR
      by_cases hi : i = rk.toNat
      · subst hi
        rw [if_pos rfl]
        rw [hv] at hu
        cases hu
        rw [List.length_set, ev]
        exact hO6
      · rw [if_neg hi]
        exact owns_mod (h3.rows i u hu) hm36 fun k z y => h3.dist i _ u v hu hv hi k z (y ▸ hgv)
    exact key2 _ rfl rfl
  exact key _ (by show Value.pointer (some (Addr.add ⟨g, 0, none⟩ _)) = _; rw [add_pl]; simp) (by first | exact e10 | rfl) (by first | exact e11 | rfl)
end
end Go.Proofs.Ytmnkedgmpbcicaa.Que
set_option linter.unusedVariables false
set_option linter.unusedSimpArgs false
set_option maxRecDepth 8000
namespace Go.Proofs.Ytmnkedgmpbcicaa.Que
open Go Go.X Go.RowKit Go.Proofs.Ytmnkedgmpbcicaa.XF Go.Proofs.Ytmnkedgmpbcicaa.XG Go.Proofs.Ytmnkedgmpbcicaa.XK
theorem may_some {R : Rks} {ls : List Ms} {rk c : Int} {m : Ms} (h : m ∈ mayV R ls rk c) : (0 ≤ rk ∧ rk ≤ 63) ∧ ∃ j r, (R rk.toNat).findIdx? (isC c) = some j ∧ (R rk.toNat)[j]? = some r ∧ r.done = false ∧ m ∈ freeV ls r ((R rk.toNat).take j) := by
  unfold mayV at h
  by_cases hr : 0 ≤ rk ∧ rk ≤ 63
  · have e : rowP R rk = R rk.toNat := by unfold rowP; rw [if_pos hr]
    rw [e] at h
    refine ⟨hr, ?_⟩
    cases hj : (R rk.toNat).findIdx? (isC c) with
    | none => rw [hj] at h; cases h
    | some j =>
      rw [hj] at h
      dsimp only at h
      cases hx : (R rk.toNat)[j]? with
      | none => rw [hx] at h; cases h
      | some r =>
        rw [hx] at h
        dsimp only at h
        cases hd : r.done with
        | true => rw [hd] at h; cases h
        | false =>
          rw [hd] at h
          exact ⟨j, r, rfl, hx, hd, h⟩
  · have e : rowP R rk = [] := by unfold rowP; rw [if_neg hr]
    rw [e] at h
    cases h
theorem setV_eq {R : Rks} {rk c f s : Int} {j : Nat} {r : Rc} (hr : 0 ≤ rk ∧ rk ≤ 63) (hj : (R rk.toNat).findIdx? (isC c) = some j) (hx : (R rk.toNat)[j]? = some r) : setV R rk c f s = putR R rk.toNat ((R rk.toNat).set j (r.got f s)) := by
  unfold setV
  have e : rowP R rk = R rk.toNat := by unfold rowP; rw [if_pos hr]
  rw [e, hj]
  dsimp only
  rw [hx]
theorem may_len (R : Rks) (ls : List Ms) (rk c : Int) : (mayV R ls rk c).length ≤ 64 := by
  have hf : ∀ (r : Rc) (a : List Rc), (freeV ls r a).length ≤ 64 := fun r a => Nat.le_trans (List.length_filterMap_le _ _) (upto_len ls r.key r.rank 64)
  unfold mayV
  split
  · exact Nat.zero_le _
  · split
    · exact Nat.zero_le _
    · split
      · exact Nat.zero_le _
      · exact hf _ _
section
variable {w0 w : World} {q p : Nat} {ls : List Ms} {V : QV} {R : Rks} {vs : List Value}
theorem Match_ok (h : PP w0 w q p ls V R vs) (hlen : ∀ i, (R i).length ≤ 1000000) (hg : FrmOk ls) (hL : ls.length ≤ 500000) (rk c f s : Int) :
    Rt Try.prog 17 #[.pointer (some ⟨p, 0, none⟩), .pointer (some ⟨q, 0, none⟩), .int .i64 rk, .int .i64 c, .int .i64 f, .int .i64 s] w fun v w' => v = .int .i64 (matchV R ls rk c f s).2 ∧ PP w0 w' q p (matchV R ls rk c f s).1.2 V (matchV R ls rk c f s).1.1 vs ∧ Mod (fun b => V.F q b ∨ PF p vs b) w w' := by
  refine posted_Posted_Match_calls ?_
  unfold posted_Posted_Match_F
  refine box_k (cs := #[.int .i64 f]) rfl fun w1 hb1 hm1 hz1 => ?_
  refine box_k (cs := #[.int .i64 s]) rfl fun w2 hb2 hm2 hz2 => ?_
  have hb1' := hm2.blk hb1 id
  have h2 := (h.calm hm1).calm hm2
  have hm12 := hm1.trans hm2
  rw [BK_eqlP uPd]
  simp only [Option.isNone_some, ↓VG_u, ↓UG_u, ↓MG_u, ↓NG_u, ↓PG_u, ↓BG_u, ↓CG_u, ↓IG_u, ↓VGtt, ↓VGtf, ↓VGft, ↓VGff, ↓UGtt, ↓UGtf, ↓UGft, ↓UGff, ↓MGtt, ↓MGtf, ↓MGft, ↓MGff, ↓NGtt, ↓NGtf, ↓NGft, ↓NGff, ↓PGtt, ↓PGtf, ↓PGft, ↓PGff, ↓BGtt, ↓BGtf, ↓BGft, ↓BGff, ↓CGtt, ↓CGtf, ↓CGft, ↓CGff, ↓IGtt, ↓IGtf, ↓IGft, ↓IGff, ↓PKt, ↓PKf, ↓CDt, ↓CDf, ↓NOTt, ↓NOTf, ↓NK_ptr]
  rw [(f_made h2.pa).e]
  try simp only [↓VG_u, ↓UG_u, ↓MG_u, ↓NG_u, ↓PG_u, ↓BG_u, ↓CG_u, ↓IG_u, ↓VGtt, ↓VGtf, ↓VGft, ↓VGff, ↓UGtt, ↓UGtf, ↓UGft, ↓UGff, ↓MGtt, ↓MGtf, ↓MGft, ↓MGff, ↓NGtt, ↓NGtf, ↓NGft, ↓NGff, ↓PGtt, ↓PGtf, ↓PGft, ↓PGff, ↓BGtt, ↓BGtf, ↓BGft, ↓BGff, ↓CGtt, ↓CGtf, ↓CGft, ↓CGff, ↓IGtt, ↓IGtf, ↓IGft, ↓IGff, ↓PKt, ↓PKf, ↓CDt, ↓CDf, ↓NOTt, ↓NOTf, ↓NK_ptr]
  rw [mkFunc]
  refine CK_st Try.func16 rfl rfl (May_ok h2.pa hlen h2.qa hg hL rk c) ?_
  rintro vm w3 ⟨hO, hm3⟩
  have hml := may_len R ls rk c
  refine CK_st Try.func44 rfl rfl (ContainsFuncMs_ok (p := Ms.isAt f s) (reads_of_owns hO) (by omega) ?_) ?_
  · intro a _ w' hm' K hK
    refine CK_fn Try.func43 rfl rfl (match1_ok (hm'.blk (hm3.blk hb1' id) id) (hm'.blk (hm3.blk hb2 id) id) a) ?_
    rintro _ w'' ⟨rfl, hm''⟩
    exact hK w'' hm''
  rintro _ w4 ⟨rfl, hm4⟩
  have hm24 := hm3.trans hm4
  have h4 := h2.calm hm24
  have hm04 := hm12.trans hm24
  unfold matchV
  cases ha : (mayV R ls rk c).any (Ms.isAt f s) with
  | false =>
    simp only [↓VG_u, ↓UG_u, ↓MG_u, ↓NG_u, ↓PG_u, ↓BG_u, ↓CG_u, ↓IG_u, ↓VGtt, ↓VGtf, ↓VGft, ↓VGff, ↓UGtt, ↓UGtf, ↓UGft, ↓UGff, ↓MGtt, ↓MGtf, ↓MGft, ↓MGff, ↓NGtt, ↓NGtf, ↓NGft, ↓NGff, ↓PGtt, ↓PGtf, ↓PGft, ↓PGff, ↓BGtt, ↓BGtf, ↓BGft, ↓BGff, ↓CGtt, ↓CGtf, ↓CGft, ↓CGff, ↓IGtt, ↓IGtf, ↓IGft, ↓IGff, ↓PKt, ↓PKf, ↓CDt, ↓CDf, ↓NOTt, ↓NOTf, ↓NK_ptr]
    rw [posted_Posted_Match_R0_eq]; unfold posted_Posted_Match_R0_F
    refine caseC (fun z => ?_) (fun z => ?_)
    · exact ⟨rfl, h4, hm04.mono fun b _ z => z.elim⟩
    · cases z
  | true =>
    simp only [↓VG_u, ↓UG_u, ↓MG_u, ↓NG_u, ↓PG_u, ↓BG_u, ↓CG_u, ↓IG_u, ↓VGtt, ↓VGtf, ↓VGft, ↓VGff, ↓UGtt, ↓UGtf, ↓UGft, ↓UGff, ↓MGtt, ↓MGtf, ↓MGft, ↓MGff, ↓NGtt, ↓NGtf, ↓NGft, ↓NGff, ↓PGtt, ↓PGtf, ↓PGft, ↓PGff, ↓BGtt, ↓BGtf, ↓BGft, ↓BGff, ↓CGtt, ↓CGtf, ↓CGft, ↓CGff, ↓IGtt, ↓IGtf, ↓IGft, ↓IGff, ↓PKt, ↓PKf, ↓CDt, ↓CDf, ↓NOTt, ↓NOTf, ↓NK_ptr]
    have hb1'' := hm24.blk hb1' id
    have hb2'' := hm24.blk hb2 id
    refine ldOne rfl vI rfl hb1'' ?_
    try simp only [↓VG_u, ↓UG_u, ↓MG_u, ↓NG_u, ↓PG_u, ↓BG_u, ↓CG_u, ↓IG_u, ↓VGtt, ↓VGtf, ↓VGft, ↓VGff, ↓UGtt, ↓UGtf, ↓UGft, ↓UGff, ↓MGtt, ↓MGtf, ↓MGft, ↓MGff, ↓NGtt, ↓NGtf, ↓NGft, ↓NGff, ↓PGtt, ↓PGtf, ↓PGft, ↓PGff, ↓BGtt, ↓BGtf, ↓BGft, ↓BGff, ↓CGtt, ↓CGtf, ↓CGft, ↓CGff, ↓IGtt, ↓IGtf, ↓IGft, ↓IGff, ↓PKt, ↓PKf, ↓CDt, ↓CDf, ↓NOTt, ↓NOTf, ↓NK_ptr]
    refine ldOne rfl vI rfl hb2'' ?_
    try simp only [↓VG_u, ↓UG_u, ↓MG_u, ↓NG_u, ↓PG_u, ↓BG_u, ↓CG_u, ↓IG_u, ↓VGtt, ↓VGtf, ↓VGft, ↓VGff, ↓UGtt, ↓UGtf, ↓UGft, ↓UGff, ↓MGtt, ↓MGtf, ↓MGft, ↓MGff, ↓NGtt, ↓NGtf, ↓NGft, ↓NGff, ↓PGtt, ↓PGtf, ↓PGft, ↓PGff, ↓BGtt, ↓BGtf, ↓BGft, ↓BGff, ↓CGtt, ↓CGtf, ↓CGft, ↓CGff, ↓IGtt, ↓IGtf, ↓IGft, ↓IGff, ↓PKt, ↓PKf, ↓CDt, ↓CDf, ↓NOTt, ↓NOTf, ↓NK_ptr]
    refine CK_st Try.func45 rfl rfl (Take_ok h4.qa (by omega) f s) ?_
    rintro _ w5 ⟨rfl, h5, f5⟩
    have hP5 := h4.onQ h5 f5
    have fin : ∀ (ρ0 : Sl), ρ0 39 = .bool (!decide ((takeV ls f s).2 = 0)) → ρ0 0 = .pointer (some ⟨p, 0, none⟩) → ρ0 2 = .int .i64 rk → ρ0 3 = .int .i64 c → ρ0 10 = .pointer (some ⟨w.heap.size, 0, none⟩) → ρ0 11 = .pointer (some ⟨w1.heap.size, 0, none⟩) →
        ∀ (rt : Value → World → Prop), (∀ u w', (u = .int .i64 (if (takeV ls f s).2 = 0 then ((setV R rk c f s, (takeV ls f s).1), (0 : Int)) else ((R, (takeV ls f s).1), 2)).2 ∧ PP w0 w' q p (if (takeV ls f s).2 = 0 then ((setV R rk c f s, (takeV ls f s).1), (0 : Int)) else ((R, (takeV ls f s).1), 2)).1.2 V (if (takeV ls f s).2 = 0 then ((setV R rk c f s, (takeV ls f s).1), (0 : Int)) else ((R, (takeV ls f s).1), 2)).1.1 vs ∧ Mod (fun b => V.F q b ∨ PF p vs b) w w') → rt u w') →
        sx fn_ Try.prog 62 posted_Posted_Match_R0 (seqK (sx fn_ Try.prog 62 posted_Posted_Match_R1 (retK Try.prog [ResultVar.tmp 12] rt)) (retK Try.prog [ResultVar.tmp 12] rt)) ρ0 w5 := by
      intro ρ0 q39 q0 q2 q3 q10 q11 rt hrt
      rw [posted_Posted_Match_R0_eq]; unfold posted_Posted_Match_R0_F
      rw [q39]
      have hm05 : Mod (fun b => V.F q b ∨ PF p vs b) w w5 := (hm04.mono fun b _ z => z.elim).then f5.mod fun i hi z => .inl z
      by_cases ht : (takeV ls f s).2 = 0
      · rw [decide_eq_true ht]
        refine condF ?_
        rw [sq_n]
        obtain ⟨m, hmm, _⟩ := List.any_eq_true.1 ha
        obtain ⟨hr, j, r, hj, hx, hd, _⟩ := may_some hmm
        have nF : ∀ b, w.heap.size ≤ b → ¬ PF p vs b := fun b hb z => by have := h.pa.old b z; omega
        have nV : ∀ b, w.heap.size ≤ b → ¬ V.F q b := fun b hb z => by have := h.qa.old b z; omega
        have s1 := hm1.size
        refine match_R1 (r := r) hP5.pa hlen hr.1 hr.2 hj hx (f5.mod.blk hb1'' (nV _ (Nat.le_refl _))) (f5.mod.blk hb2'' (nV _ s1)) (nF _ (Nat.le_refl _)) (nF _ s1) q0 q2 q3 q10 q11 fun w6 h6 hm6 => ?_
        refine hrt _ _ ?_
        rw [if_pos ht, setV_eq hr hj hx]
        exact ⟨rfl, hP5.onP h6 ⟨hm6, fun b z => .inl z⟩, hm05.then hm6 fun i hi z => .inr z⟩
      · rw [decide_eq_false ht]
        refine condT ?_
        refine hrt _ _ ?_
        rw [if_neg ht]
        exact ⟨rfl, hP5, hm05⟩
    by_cases ht : (takeV ls f s).2 = 0
    · rw [NEf ht]
      try simp only [↓VG_u, ↓UG_u, ↓MG_u, ↓NG_u, ↓PG_u, ↓BG_u, ↓CG_u, ↓IG_u, ↓VGtt, ↓VGtf, ↓VGft, ↓VGff, ↓UGtt, ↓UGtf, ↓UGft, ↓UGff, ↓MGtt, ↓MGtf, ↓MGft, ↓MGff, ↓NGtt, ↓NGtf, ↓NGft, ↓NGff, ↓PGtt, ↓PGtf, ↓PGft, ↓PGff, ↓BGtt, ↓BGtf, ↓BGft, ↓BGff, ↓CGtt, ↓CGtf, ↓CGft, ↓CGff, ↓IGtt, ↓IGtf, ↓IGft, ↓IGff, ↓PKt, ↓PKf, ↓CDt, ↓CDf, ↓NOTt, ↓NOTf, ↓NK_ptr]
      exact fin _ (by rw [decide_eq_true ht]; rfl) rfl rfl rfl rfl rfl _ (fun u w' z => by simpa using z)
    · rw [NEt ht]
      try simp only [↓VG_u, ↓UG_u, ↓MG_u, ↓NG_u, ↓PG_u, ↓BG_u, ↓CG_u, ↓IG_u, ↓VGtt, ↓VGtf, ↓VGft, ↓VGff, ↓UGtt, ↓UGtf, ↓UGft, ↓UGff, ↓MGtt, ↓MGtf, ↓MGft, ↓MGff, ↓NGtt, ↓NGtf, ↓NGft, ↓NGff, ↓PGtt, ↓PGtf, ↓PGft, ↓PGff, ↓BGtt, ↓BGtf, ↓BGft, ↓BGff, ↓CGtt, ↓CGtf, ↓CGft, ↓CGff, ↓IGtt, ↓IGtf, ↓IGft, ↓IGff, ↓PKt, ↓PKf, ↓CDt, ↓CDf, ↓NOTt, ↓NOTf, ↓NK_ptr]
      exact fin _ (by rw [decide_eq_false ht]; rfl) rfl rfl rfl rfl rfl _ (fun u w' z => by simpa using z)
end
end Go.Proofs.Ytmnkedgmpbcicaa.Que
