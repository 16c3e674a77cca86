/- Several texts of this repo, one behind the other, without what is not used here. -/
import Derived.Maps.RangeRun
import Derived.Test.YtmnkedgmpbcicaaUW2
set_option linter.unusedVariables false
set_option linter.unusedSimpArgs false
set_option maxRecDepth 4000
namespace Go.Proofs.Ytmnkedgmpbcicaa.Que
open Go Go.X Go.RowKit Go.Proofs.Ytmnkedgmpbcicaa.XF Go.Proofs.Ytmnkedgmpbcicaa.XK
section
variable {w : World} {p : Nat} {l : List Ms} {V : QV}
theorem Send_ok (h : QAt w p l V) (hL : l.length ≤ 1000000) (m : Ms) : Rt Try.prog 25 #[.pointer (some ⟨p, 0, none⟩), .agg m.enc.toArray] w fun v w' => v = .int .i64 (sendV l m).2 ∧ ∃ V', QAt w' p (sendV l m).1 V' ∧ QFr p w V w' V' := by
  refine queue_Queue_Send_calls ?_
  unfold queue_Queue_Send_F
  refine box_k (cs := m.enc.toArray) rfl fun w1 hb1 hm1 hz1 => ?_
  have h1 := h.calm hm1
  refine CK_st Try.func49 rfl rfl (none_ok h1) ?_
  rintro _ w2 ⟨rfl, rfl⟩
  refine condF ?_
  refine queue_Queue_Send_R0_held (D := []) (fun w' => Mod none_ w2 w') ((Mod.refl _ w2).drawn _) ?_
  have hd : Mod none_ w2 { w2 with drawn := w2.drawn + 1 } := (Mod.refl _ w2).drawn _
  have hdz : ({ w2 with drawn := w2.drawn + 1 } : World).heap.size = w2.heap.size := rfl
  generalize ({ w2 with drawn := w2.drawn + 1 } : World) = wd at *
  unfold queue_Queue_Send_R0_H
  simp only [sq_n, sq_x, sq_r, bk_n, bk_r, bk_x, rt_r, rt_n, rs_0, rs_t, pk_1, pk_2, up_at, reduceIte, Nat.reduceEqDiff]
  refine HN_ptr (HV_of (v := .pointer (some ⟨p, 1, none⟩)) (fun w' _ => by rw [run_fo (off := 1) (by kernel_rfl), add_pl]) ?_)
  refine HV_of (v := .map (some V.ab)) (fun w' hw => run_ld1 uA rfl (by rw [cell_blk (h1.calm hw).blk]; rfl)) ?_
  refine HV_of (v := .pointer (some ⟨w.heap.size, 1, none⟩)) (fun w' _ => by rw [run_fo (off := 1) (by kernel_rfl), add_pl, Nat.zero_add]) ?_
  refine HV_of (v := .int .i64 m.frm) (fun w' hw => run_ld1 vI rfl (by rw [cell_blk (hw.blk hb1 id)]; rfl)) ?_
  refine HV_of (v := .pointer (some ⟨w.heap.size, 3, none⟩)) (fun w' _ => by rw [run_fo (off := 3) (by kernel_rfl), add_pl, Nat.zero_add]) ?_
  refine HV_of (v := .int .i64 m.call) (fun w' hw => run_ld1 vI rfl (by rw [cell_blk (hw.blk hb1 id)]; rfl)) ?_
  refine HV_of (v := encSt (m.frm, m.call)) (fun w' _ => run_build (P := Try.prog) w' _ _ _ (by kernel_rfl)) ?_
  have hlk : ∀ w', Mod none_ w2 w' → _ := fun w' hw => run_look KS uA (h1.calm hw).am zC_z (m.frm, m.call) true
  have hat := h.inv.at_ (m.frm, m.call)
  have hmF : ∀ {w' : World}, ¬ V.F p w.heap.size := fun z => by have := h.old _ z; omega
  have fin : ∀ (ρ : Sl) (w' : World) (had : Bool), had = (l.find? (Ms.isAt m.frm m.call)).isSome → Mod none_ w2 w' → ρ 0 = .pointer (some ⟨p, 0, none⟩) → ρ 3 = .pointer (some ⟨w.heap.size, 0, none⟩) → ρ 6 = .bool had →
      sx fn_ Try.prog 85 queue_Queue_Send_R1 (retK Try.prog [ResultVar.tmp 4] fun v w' => v = .int .i64 (sendV l m).2 ∧ ∃ V', QAt w' p (sendV l m).1 V' ∧ QFr p w V w' V') ρ w' := fun ρ w' had e hm q0 q3 q6 =>
    Send_R1 (QFr.calm (hm1.trans hm)) (h1.calm hm) hL (hm.blk hb1 id) (hmF (w' := w')) e q0 q3 q6
  cases hq : l.find? (Ms.isAt m.frm m.call) with
  | none =>
    rw [hq] at hat
    have hfe : findE (m.frm, m.call) V.ea 0 = none := by simpa using hat
    refine HV_of (v := .tuple #[encC ([], 0, 0), .bool false]) (fun w' hw => by rw [hlk w' hw, hfe]; try rfl) ?_
    refine HV_of (v := encC ([], 0, 0)) (fun _ _ => rfl) (HV_of (v := .bool false) (fun _ _ => rfl) ?_)
    refine al_k (cs := #[strV [], .int .i64 0, .int .i64 0]) zC_z rfl _ fun w3 hb3 hm3 hz3 => ⟨hd.trans hm3, ?_⟩
    refine stS (cs := #[strV [], .int .i64 0, .int .i64 0]) (old := #[strV [], .int .i64 0, .int .i64 0]) rfl rfl (by kernel_rfl) rfl (by simp [Value.oneCell', strV]) hb3 fun w4 hb4 hm4 hz4 => ⟨(hd.trans hm3).then hm4 fun i hi q => by omega, ?_⟩
    try rw [sq_n]
    exact fin _ w4 false (by rw [hq]; rfl) ((hd.trans hm3).then hm4 fun i hi q => by omega) rfl rfl rfl
  | some x =>
    rw [hq] at hat
    obtain ⟨⟨i, u⟩, hfe, hu⟩ : ∃ x', findE (m.frm, m.call) V.ea 0 = some x' ∧ x'.2 = encC x.ch := by
      cases hz : findE (m.frm, m.call) V.ea 0 with
      | none => rw [hz] at hat; cases hat
      | some x => rw [hz] at hat; exact ⟨x, rfl, by simpa using hat⟩
    dsimp only at hu
    subst hu
    refine HV_of (v := .tuple #[encC x.ch, .bool true]) (fun w' hw => by rw [hlk w' hw, hfe]; try rfl) ?_
    refine HV_of (v := encC x.ch) (fun _ _ => rfl) (HV_of (v := .bool true) (fun _ _ => rfl) ?_)
    refine al_k (cs := #[strV [], .int .i64 0, .int .i64 0]) zC_z rfl _ fun w3 hb3 hm3 hz3 => ⟨hd.trans hm3, ?_⟩
    refine stS (cs := #[strV x.key, .int .i64 x.frm, .int .i64 x.to]) (old := #[strV [], .int .i64 0, .int .i64 0]) rfl rfl (by kernel_rfl) rfl (by simp [Value.oneCell', strV]) hb3 fun w4 hb4 hm4 hz4 => ⟨(hd.trans hm3).then hm4 fun i hi q => by omega, ?_⟩
    try rw [sq_n]
    exact fin _ w4 true (by rw [hq]; rfl) ((hd.trans hm3).then hm4 fun i hi q => by omega) rfl rfl rfl
end
theorem QInv.nil (rb ab : Nat) : QInv [] ⟨rb, ab, [], [], 0, 0⟩ := ⟨by simp, by simp, by simp, by simp, by simp, by simp [findE], by simp, by simp, by simp, by simp⟩
theorem New_ok (w : World) : Rt Try.prog 23 #[] w fun v w' => ∃ p V, v = .pointer (some ⟨p, 0, none⟩) ∧ QAt w' p [] V ∧ (∀ b, V.F p b → w.heap.size ≤ b) ∧ Mod none_ w w' := by
  refine queue_New_calls ?_
  unfold queue_New_F
  refine make_ok (enc := encC) _ fun w1 h1 hm1 hz1 => ?_
  refine make_ok (enc := encSt) _ fun w2 h2 hm2 hz2 => ?_
  rw [build_ok (cs := #[.map (some w.heap.size), .map (some w1.heap.size)]) (by kernel_rfl)]
  refine box_k (cs := #[.map (some w.heap.size), .map (some w1.heap.size)]) rfl fun w3 hb3 hm3 hz3 => ?_
  refine ⟨w2.heap.size, ⟨w.heap.size, w1.heap.size, [], [], 0, 0⟩, rfl, ⟨hb3, (h1.mod hm2 id).mod hm3 id, h2.mod hm3 id, by simp, by show w.heap.size ≠ w1.heap.size; omega, QInv.nil _ _⟩, fun b q => ?_, (hm1.trans hm2).trans hm3⟩
  rcases q with q | q | q | ⟨e, he, _⟩
  · omega
  · dsimp only at q; omega
  · dsimp only at q; omega
  · cases he
end Go.Proofs.Ytmnkedgmpbcicaa.Que
set_option linter.unusedVariables false
set_option linter.unusedSimpArgs false
namespace Go.X
structure WO {α : Type} (lt : α → α → Bool) : Prop where
  irr : ∀ a, lt a a = false
  asym : ∀ a b, lt a b = true → lt b a = false
  tr : ∀ a b c, lt b a = false → lt c b = false → lt c a = false
section
variable {α : Type} {lt : α → α → Bool}
def eqv (lt : α → α → Bool) (a b : α) : Bool := !lt a b && !lt b a
def SortedL (lt : α → α → Bool) (l : List α) : Prop := l.Pairwise fun a b => lt b a = false
structure Stab (lt : α → α → Bool) (l s : List α) : Prop where
  so : SortedL lt s
  eq : ∀ x, s.filter (eqv lt x) = l.filter (eqv lt x)
theorem eqv_refl (W : WO lt) (a : α) : eqv lt a a = true := by simp [eqv, W.irr]
theorem SameF.mem (W : WO lt) {l s : List α} (h : ∀ x, s.filter (eqv lt x) = l.filter (eqv lt x)) {a : α} : a ∈ s ↔ a ∈ l := by
  have h1 : a ∈ s ↔ a ∈ s.filter (eqv lt a) := by simp [eqv_refl W]
  have h2 : a ∈ l ↔ a ∈ l.filter (eqv lt a) := by simp [eqv_refl W]
  rw [h1, h2, h]
theorem Stab.mem (W : WO lt) {l s : List α} (h : Stab lt l s) {a : α} : a ∈ s ↔ a ∈ l := SameF.mem W h.eq
theorem stab_uniq' (W : WO lt) : ∀ {s t : List α}, SortedL lt s → SortedL lt t → (∀ x, s.filter (eqv lt x) = t.filter (eqv lt x)) → s = t
  | [], t, _, _, h => by
    cases t with
    | nil => rfl
    | cons b t =>
      have := h b
      simp [eqv_refl W] at this
  | a :: s, [], _, _, h => by
    have := h a
    simp [eqv_refl W] at this
  | a :: s, b :: t, hs, ht, h => by
    have hab : lt a b = false := by
      have : b ∈ a :: s := (SameF.mem W h).2 (by simp)
      rcases List.mem_cons.1 this with q | q
      · rw [q]; exact W.irr _
      · by_cases c : lt a b = true
        · have ha : a ∈ b :: t := (SameF.mem W h).1 (by simp)
          rcases List.mem_cons.1 ha with z | z
          · rw [z]; exact W.irr _
          · exact (List.pairwise_cons.1 ht).1 a z
        · simpa using c
    have hba : lt b a = false := by
      have : a ∈ b :: t := (SameF.mem W h).1 (by simp)
      rcases List.mem_cons.1 this with q | q
      · rw [q]; exact W.irr _
      · have hb : b ∈ a :: s := (SameF.mem W h).2 (by simp)
        rcases List.mem_cons.1 hb with z | z
        · rw [z]; exact W.irr _
        · exact (List.pairwise_cons.1 hs).1 b z
    have hx := h a
    have e : eqv lt a b = true := by simp [eqv, hab, hba]
    rw [List.filter_cons_of_pos (eqv_refl W a), List.filter_cons_of_pos e] at hx
    obtain ⟨rfl, _⟩ := List.cons.inj hx
    rw [stab_uniq' W (List.pairwise_cons.1 hs).2 (List.pairwise_cons.1 ht).2 (fun x => ?_)]
    have := h x
    by_cases c : eqv lt x a = true
    · rw [List.filter_cons_of_pos c, List.filter_cons_of_pos c] at this
      exact (List.cons.inj this).2
    · rw [List.filter_cons_of_neg c, List.filter_cons_of_neg c] at this
      exact this
theorem stab_uniq (W : WO lt) {l s t : List α} (hs : Stab lt l s) (ht : Stab lt l t) : s = t := stab_uniq' W hs.so ht.so fun x => (hs.eq x).trans (ht.eq x).symm
theorem Stab.len (W : WO lt) : ∀ {l s : List α}, (∀ x, s.filter (eqv lt x) = l.filter (eqv lt x)) → s.length = l.length := by
  intro l
  induction hn : l.length using Nat.strongRecOn generalizing l with
  | ind n ih =>
    intro s h
    cases l with
    | nil =>
      cases s with
      | nil => simpa using hn
      | cons b s => have := h b; simp [eqv_refl W] at this
    | cons a l =>
      have c1 : ∀ (m : List α), m.length = (m.filter (eqv lt a)).length + (m.filter fun x => !eqv lt a x).length := fun m => by
        induction m with
        | nil => rfl
        | cons b m ih => by_cases c : eqv lt a b = true <;> simp [c, ih] <;> omega
      have c2 := c1 s
      have c3 := c1 (a :: l)
      rw [h a] at c2
      have key : (s.filter fun x => !eqv lt a x).length = ((a :: l).filter fun x => !eqv lt a x).length := by
        refine ih _ ?_ rfl (fun x => ?_)
        · rw [← hn]
          rw [List.filter_cons_of_neg (by simp [eqv_refl W])]
          exact Nat.lt_of_le_of_lt (List.length_filter_le _ _) (by simp)
        · rw [List.filter_filter, List.filter_filter]
          have e1 : ∀ m : List α, m.filter (fun y => eqv lt x y && !eqv lt a y) = (m.filter (eqv lt x)).filter fun y => !eqv lt a y := fun m => by
            rw [List.filter_filter]
            congr 1; funext y; rw [Bool.and_comm]
          rw [e1, e1, h x]
      omega
theorem SortedL.app {s t : List α} (hs : SortedL lt s) (ht : SortedL lt t) (h : ∀ a ∈ s, ∀ b ∈ t, lt b a = false) : SortedL lt (s ++ t) := List.pairwise_append.2 ⟨hs, ht, h⟩
theorem Stab.refl {l : List α} (h : SortedL lt l) : Stab lt l l := ⟨h, fun _ => rfl⟩
theorem Stab.trans {l m s : List α} (h : ∀ x, m.filter (eqv lt x) = l.filter (eqv lt x)) (k : Stab lt m s) : Stab lt l s := ⟨k.so, fun x => (k.eq x).trans (h x)⟩
theorem Stab.app (W : WO lt) {l1 l2 s1 s2 : List α} (h1 : Stab lt l1 s1) (h2 : Stab lt l2 s2) (h : ∀ a ∈ l1, ∀ b ∈ l2, lt b a = false) : Stab lt (l1 ++ l2) (s1 ++ s2) := by
  refine ⟨h1.so.app h2.so fun a ha b hb => h a ((h1.mem W).1 ha) b ((h2.mem W).1 hb), fun x => ?_⟩
  rw [List.filter_append, List.filter_append, h1.eq, h2.eq]
theorem filt_swap (W : WO lt) {A B : List α} (h : ∀ a ∈ A, ∀ b ∈ B, lt b a = true) (x : α) : (B ++ A).filter (eqv lt x) = (A ++ B).filter (eqv lt x) := by
  rw [List.filter_append, List.filter_append]
  by_cases c : A.filter (eqv lt x) = []
  · rw [c]; simp
  · have : B.filter (eqv lt x) = [] := by
      obtain ⟨a, ha⟩ := List.exists_mem_of_ne_nil _ c
      rw [List.mem_filter] at ha
      refine List.filter_eq_nil_iff.2 fun b hb q => ?_
      have hba := h a ha.1 b hb
      have e1 := ha.2
      simp only [eqv, Bool.and_eq_true, Bool.not_eq_true'] at e1 q
      have : lt b a = false := W.tr a x b e1.1 q.2
      rw [hba] at this; cases this
    rw [this]; simp
theorem stab_ins (W : WO lt) {S1 S2 : List α} {x : α} (hs : SortedL lt (S1 ++ S2)) (h1 : ∀ a ∈ S1, lt x a = false) (h2 : ∀ b ∈ S2, lt x b = true) : Stab lt ((S1 ++ S2) ++ [x]) (S1 ++ x :: S2) := by
  refine ⟨?_, fun y => ?_⟩
  · rw [SortedL, List.pairwise_append] at hs ⊢
    refine ⟨hs.1, List.pairwise_cons.2 ⟨fun b hb => W.asym _ _ (h2 b hb), hs.2.1⟩, fun a ha b hb => ?_⟩
    rcases List.mem_cons.1 hb with rfl | hb
    · exact h1 a ha
    · exact hs.2.2 a ha b hb
  · have : S1 ++ x :: S2 = S1 ++ ([x] ++ S2) := by simp
    rw [this, List.append_assoc, List.filter_append, List.filter_append (p := eqv lt y) S1, filt_swap W (A := S2) (B := [x]) (fun a ha b hb => by rw [List.mem_singleton.1 hb]; exact h2 a ha)]
theorem stab_out (W : WO lt) {Y1 Y2 : List α} {x : α} (hs : SortedL lt (Y1 ++ Y2)) (h1 : ∀ a ∈ Y1, lt a x = true) (h2 : ∀ b ∈ Y2, lt b x = false) : Stab lt (x :: (Y1 ++ Y2)) (Y1 ++ x :: Y2) := by
  refine ⟨?_, fun y => ?_⟩
  · rw [SortedL, List.pairwise_append] at hs ⊢
    refine ⟨hs.1, List.pairwise_cons.2 ⟨h2, hs.2.1⟩, fun a ha b hb => ?_⟩
    rcases List.mem_cons.1 hb with rfl | hb
    · exact W.asym _ _ (h1 a ha)
    · exact hs.2.2 a ha b hb
  · have e1 : Y1 ++ x :: Y2 = (Y1 ++ [x]) ++ Y2 := by simp
    have e2 : x :: (Y1 ++ Y2) = ([x] ++ Y1) ++ Y2 := by simp
    rw [e1, e2, List.filter_append, List.filter_append (p := eqv lt y) ([x] ++ Y1), filt_swap W (A := [x]) (B := Y1) (fun a ha b hb => by rw [List.mem_singleton.1 ha]; exact h1 b hb)]
theorem SortedL.at_ {l : List α} (h : SortedL lt l) {i j : Nat} {a b : α} (hij : i < j) (ha : l[i]? = some a) (hb : l[j]? = some b) : lt b a = false := by
  obtain ⟨hj, rfl⟩ := List.getElem?_eq_some_iff.1 hb
  obtain ⟨hi, rfl⟩ := List.getElem?_eq_some_iff.1 ha
  exact List.pairwise_iff_getElem.1 h i j hi hj hij
theorem SortedL.le_at (W : WO lt) {l : List α} (h : SortedL lt l) {i j : Nat} {a b : α} (hij : i ≤ j) (ha : l[i]? = some a) (hb : l[j]? = some b) : lt b a = false := by
  rcases Nat.lt_or_eq_of_le hij with q | q
  · exact h.at_ q ha hb
  · subst q; rw [ha] at hb; cases hb; exact W.irr _
theorem stab_halves (W : WO lt) {X1 X2 Y1 Y2 S1 S2 : List α} (hX : SortedL lt (X1 ++ X2)) (hY : SortedL lt (Y1 ++ Y2)) (hxy : ∀ a ∈ X1, ∀ b ∈ Y2, lt b a = false) (hyx : ∀ a ∈ X2, ∀ b ∈ Y1, lt b a = true)
    (h1 : Stab lt (X1 ++ Y1) S1) (h2 : Stab lt (X2 ++ Y2) S2) : Stab lt ((X1 ++ X2) ++ (Y1 ++ Y2)) (S1 ++ S2) := by
  have hX' := List.pairwise_append.1 hX
  have hY' := List.pairwise_append.1 hY
  refine Stab.trans (m := (X1 ++ Y1) ++ (X2 ++ Y2)) (fun x => ?_) (Stab.app W h1 h2 fun a ha b hb => ?_)
  · have e1 : (X1 ++ Y1) ++ (X2 ++ Y2) = X1 ++ ((Y1 ++ X2) ++ Y2) := by simp
    have e2 : (X1 ++ X2) ++ (Y1 ++ Y2) = X1 ++ ((X2 ++ Y1) ++ Y2) := by simp
    rw [e1, e2, List.filter_append, List.filter_append (p := eqv lt x) X1, List.filter_append (p := eqv lt x) (Y1 ++ X2), List.filter_append (p := eqv lt x) (X2 ++ Y1), filt_swap W hyx]
  · rcases List.mem_append.1 ha with ha | ha <;> rcases List.mem_append.1 hb with hb | hb
    · exact hX'.2.2 a ha b hb
    · exact hxy a ha b hb
    · exact W.asym _ _ (hyx b hb a ha)
    · exact hY'.2.2 a ha b hb
end
end Go.X
set_option linter.unusedVariables false
set_option linter.unusedSimpArgs false
set_option maxRecDepth 4000
namespace Go.X
open Go Go.RowKit
theorem bl_irr : ∀ a : List UInt8, Op.bytesLess a a = false
  | [] => rfl
  | a :: x => by simp [Op.bytesLess, bl_irr x]
theorem bl_tri : ∀ {a b : List UInt8}, Op.bytesLess a b = false → Op.bytesLess b a = false → a = b
  | [], [], _, _ => rfl
  | [], _ :: _, h, _ => by simp [Op.bytesLess] at h
  | _ :: _, [], _, h => by simp [Op.bytesLess] at h
  | a :: x, b :: y, h, k => by
    simp only [Op.bytesLess, Bool.or_eq_false_iff, decide_eq_false_iff_not, Bool.and_eq_false_iff] at h k
    have e : a = b := by
      apply UInt8.le_antisymm
      · exact UInt8.not_lt.1 k.1
      · exact UInt8.not_lt.1 h.1
    subst e
    simp at h k
    rw [bl_tri h k]
theorem bl_tr : ∀ {a b c : List UInt8}, Op.bytesLess a b = true → Op.bytesLess b c = true → Op.bytesLess a c = true
  | _, [], _, h, _ => by cases ‹List UInt8› <;> simp [Op.bytesLess] at h
  | _, _ :: _, [], _, h => by simp [Op.bytesLess] at h
  | [], _ :: _, _ :: _, _, _ => by simp [Op.bytesLess]
  | a :: x, b :: y, c :: z, h, k => by
    simp only [Op.bytesLess, Bool.or_eq_true, decide_eq_true_eq, Bool.and_eq_true, beq_iff_eq] at h k ⊢
    rcases h with h | ⟨rfl, h⟩ <;> rcases k with k | ⟨rfl, k⟩
    · exact .inl (UInt8.lt_trans h k)
    · exact .inl h
    · exact .inl k
    · exact .inr ⟨rfl, bl_tr h k⟩
theorem bl_asym {a b : List UInt8} (h : Op.bytesLess a b = true) : Op.bytesLess b a = false := by
  cases k : Op.bytesLess b a with
  | false => rfl
  | true => have := bl_tr h k; rw [bl_irr] at this; cases this
def ltC (a b : Ch) : Bool := Op.bytesLess a.1 b.1 || (decide (a.1 = b.1) && (decide (a.2.1 < b.2.1) || (decide (a.2.1 = b.2.1) && decide (a.2.2 < b.2.2))))
theorem ltC_iff {a b : Ch} : ltC a b = true ↔ Op.bytesLess a.1 b.1 = true ∨ a.1 = b.1 ∧ (a.2.1 < b.2.1 ∨ a.2.1 = b.2.1 ∧ a.2.2 < b.2.2) := by simp [ltC]
theorem ltC_irr (a : Ch) : ltC a a = false := by
  cases h : ltC a a with
  | false => rfl
  | true =>
    rcases ltC_iff.1 h with q | ⟨_, q | ⟨_, q⟩⟩
    · rw [bl_irr] at q; cases q
    · omega
    · omega
theorem ltC_tr {a b c : Ch} (h : ltC a b = true) (k : ltC b c = true) : ltC a c = true := by
  rw [ltC_iff] at h k ⊢
  rcases h with h | ⟨h1, h2⟩ <;> rcases k with k | ⟨k1, k2⟩
  · exact .inl (bl_tr h k)
  · rw [← k1]; exact .inl h
  · rw [h1]; exact .inl k
  · refine .inr ⟨h1.trans k1, ?_⟩
    omega
theorem ltC_tri {a b : Ch} (h : ltC a b = false) (k : ltC b a = false) : a = b := by
  obtain ⟨a1, a2, a3⟩ := a; obtain ⟨b1, b2, b3⟩ := b
  have h' : ¬ _ := fun q => by rw [ltC_iff.2 q] at h; cases h
  have k' : ¬ _ := fun q => by rw [ltC_iff.2 q] at k; cases k
  dsimp only at h' k'
  have e : a1 = b1 := bl_tri (by cases q : Op.bytesLess a1 b1 with | false => rfl | true => exact absurd (.inl q) h') (by cases q : Op.bytesLess b1 a1 with | false => rfl | true => exact absurd (.inl q) k')
  subst e
  have h2 : ¬ (a2 < b2 ∨ a2 = b2 ∧ a3 < b3) := fun q => h' (.inr ⟨rfl, q⟩)
  have k2 : ¬ (b2 < a2 ∨ b2 = a2 ∧ b3 < a3) := fun q => k' (.inr ⟨rfl, q⟩)
  have e2 : a2 = b2 := by omega
  have e3 : a3 = b3 := by omega
  rw [e2, e3]
def ltM (a b : Ms) : Bool := ltC a.ch b.ch
theorem ltC_asym {a b : Ch} (h : ltC a b = true) : ltC b a = false := by
  cases k : ltC b a with
  | false => rfl
  | true => have := ltC_tr h k; rw [ltC_irr] at this; cases this
theorem ltM_wo : WO ltM := by
  refine ⟨fun a => ltC_irr _, fun a b h => ltC_asym h, fun a b c h k => ?_⟩
  unfold ltM at *
  cases q : ltC c.ch a.ch with
  | false => rfl
  | true =>
    cases r : ltC a.ch b.ch with
    | true => have := ltC_tr q r; rw [k] at this; cases this
    | false => rw [ltC_tri r h] at q; rw [k] at q; cases q
theorem eqv_ch {a b : Ms} : eqv ltM a b = true ↔ a.ch = b.ch := by
  unfold eqv ltM
  simp only [Bool.and_eq_true, Bool.not_eq_true']
  exact ⟨fun h => ltC_tri h.1 h.2, fun h => by rw [h]; exact ⟨ltC_irr _, ltC_irr _⟩⟩
def cmpS (a b : List UInt8) : Int := if Op.bytesLess a b then -1 else if Op.bytesLess b a then 1 else 0
def cmpI (a b : Int) : Int := if a < b then -1 else if b < a then 1 else 0
def orI (l : List Int) : Int := (l.find? (fun x => decide (x ≠ 0))).getD 0
def ordV (a b : Ms) : Int := orI [cmpS a.key b.key, cmpI a.frm b.frm, cmpI a.to b.to]
theorem cmpS_zero {a b : List UInt8} : cmpS a b = 0 ↔ a = b := by
  unfold cmpS
  constructor
  · intro h
    split at h
    · cases h
    · rename_i q
      split at h
      · cases h
      · rename_i r
        exact bl_tri (by simpa using q) (by simpa using r)
  · rintro rfl
    rw [bl_irr]; rfl
theorem cmpS_neg {a b : List UInt8} : cmpS a b < 0 ↔ Op.bytesLess a b = true := by
  unfold cmpS
  split
  · rename_i q; exact ⟨fun _ => q, fun _ => by decide⟩
  · rename_i q
    split
    · exact ⟨fun h => absurd h (by decide), fun h => absurd h q⟩
    · exact ⟨fun h => absurd h (by decide), fun h => absurd h q⟩
theorem cmpI_zero {a b : Int} : cmpI a b = 0 ↔ a = b := by
  unfold cmpI
  split
  · omega
  · split <;> omega
theorem cmpI_neg {a b : Int} : cmpI a b < 0 ↔ a < b := by
  unfold cmpI
  split
  · omega
  · split <;> omega
theorem orI3 (x y z : Int) : orI [x, y, z] = if x ≠ 0 then x else if y ≠ 0 then y else z := by
  unfold orI
  by_cases h : x = 0
  · by_cases k : y = 0
    · by_cases m : z = 0 <;> simp [h, k, m]
    · simp [h, k]
  · simp [h]
theorem ordV_lt (a b : Ms) : decide (ordV a b < 0) = ltM a b := by
  rw [Bool.eq_iff_iff, decide_eq_true_iff]
  unfold ltM
  rw [ltC_iff]
  show ordV a b < 0 ↔ Op.bytesLess a.key b.key = true ∨ a.key = b.key ∧ (a.frm < b.frm ∨ a.frm = b.frm ∧ a.to < b.to)
  unfold ordV
  rw [orI3]
  by_cases c1 : cmpS a.key b.key = 0
  · have e := cmpS_zero.1 c1
    rw [if_neg (fun q => q c1), e, bl_irr]
    by_cases c2 : cmpI a.frm b.frm = 0
    · have e2 := cmpI_zero.1 c2
      rw [if_neg (fun q => q c2), cmpI_neg, e2]
      exact ⟨fun h => .inr ⟨rfl, .inr ⟨rfl, h⟩⟩, fun h => by rcases h with h | ⟨_, h | ⟨_, h⟩⟩; cases h; omega; exact h⟩
    · rw [if_pos c2, cmpI_neg]
      have e2 : a.frm ≠ b.frm := fun q => c2 (cmpI_zero.2 q)
      exact ⟨fun h => .inr ⟨rfl, .inl h⟩, fun h => by rcases h with h | ⟨_, h | ⟨h, _⟩⟩; cases h; exact h; exact absurd h e2⟩
  · rw [if_pos c1, cmpS_neg]
    have e : a.key ≠ b.key := fun q => c1 (cmpS_zero.2 q)
    exact ⟨fun h => .inl h, fun h => by rcases h with h | ⟨h, _⟩; exact h; exact absurd h e⟩
end Go.X
namespace Go.Proofs.Ytmnkedgmpbcicaa.Que
open Go Go.X Go.RowKit Go.Proofs.Ytmnkedgmpbcicaa.XF Go.Proofs.Ytmnkedgmpbcicaa.XK
theorem isNaNS_ok (a : List UInt8) (w : World) : Rt Try.prog 84 #[strV a] w fun v w' => v = .bool false ∧ w' = w := by
  refine cmp_isNaN_string_calls ?_
  unfold cmp_isNaN_string_F strV
  rw [BK_neqS]
  exact ⟨by simp, rfl⟩
theorem isNaNI_ok (a : Int) (w : World) : Rt Try.prog 85 #[.int .i64 a] w fun v w' => v = .bool false ∧ w' = w := by
  refine cmp_isNaN_int_calls ?_
  unfold cmp_isNaN_int_F
  rw [NEf rfl]
  exact ⟨rfl, rfl⟩
theorem toL (a : List UInt8) : (⟨a.toArray⟩ : ByteArray).toList = a := by simp
theorem BK_lssS {P : Program} {w : World} {K : Value → World → Prop} (t : TypeId) (x y : Operand) (a b : List UInt8) : BK P .lss t x y (strV a) (strV b) w K = K (.bool (Op.bytesLess a b)) w := by
  unfold strV
  exact BK_of rfl (by rw [binOp_string_lss, toL, toL]; rfl)
theorem BK_gtrS {P : Program} {w : World} {K : Value → World → Prop} (t : TypeId) (x y : Operand) (a b : List UInt8) : BK P .gtr t x y (strV a) (strV b) w K = K (.bool (Op.bytesLess b a)) w := by
  unfold strV
  refine BK_of rfl ?_
  have : binOp .gtr t (.string ⟨a.toArray⟩) (.string ⟨b.toArray⟩) = pure (.bool !(Op.bytesLess a b || a == b)) := by simp [binOp, Op.stringOp]
  rw [this]
  have e : (!(Op.bytesLess a b || a == b)) = Op.bytesLess b a := by
    cases h : Op.bytesLess b a with
    | true =>
      rw [bl_asym h]
      have : a ≠ b := fun q => by rw [q, bl_irr] at h; cases h
      simp [this]
    | false =>
      cases k : Op.bytesLess a b with
      | true => rfl
      | false => rw [bl_tri k h]; simp
  rw [e]; rfl
theorem CompareS_ok (a b : List UInt8) (w : World) : Rt Try.prog 76 #[strV a, strV b] w fun v w' => v = .int .i64 (cmpS a b) ∧ w' = w := by
  refine cmp_Compare_string_calls ?_
  unfold cmp_Compare_string_F
  refine CK_st Try.func84 rfl rfl (isNaNS_ok a w) ?_
  rintro _ w' ⟨rfl, rfl⟩
  refine CK_st Try.func84 rfl rfl (isNaNS_ok b w') ?_
  rintro _ w' ⟨rfl, rfl⟩
  refine condF (condF ?_)
  rw [BK_lssS]
  unfold cmpS
  refine caseC (fun h => ?_) (fun h => ?_)
  · rw [h]; exact ⟨rfl, rfl⟩
  · rw [BK_gtrS, h]
    refine caseC (fun k => ?_) (fun k => ?_)
    · rw [k]; exact ⟨rfl, rfl⟩
    · rw [k]; exact ⟨rfl, rfl⟩
theorem CompareI_ok (a b : Int) (w : World) : Rt Try.prog 77 #[.int .i64 a, .int .i64 b] w fun v w' => v = .int .i64 (cmpI a b) ∧ w' = w := by
  refine cmp_Compare_int_calls ?_
  unfold cmp_Compare_int_F
  refine CK_st Try.func85 rfl rfl (isNaNI_ok a w) ?_
  rintro _ w' ⟨rfl, rfl⟩
  refine CK_st Try.func85 rfl rfl (isNaNI_ok b w') ?_
  rintro _ w' ⟨rfl, rfl⟩
  refine condF (condF ?_)
  rw [BK_lss]
  unfold cmpI
  refine caseC (fun h => ?_) (fun h => ?_)
  · rw [if_pos (by simpa using h)]; exact ⟨rfl, rfl⟩
  · rw [if_neg (by simpa using h), BK_gtr]
    refine caseC (fun k => ?_) (fun k => ?_)
    · rw [if_pos (by simpa using k)]; exact ⟨rfl, rfl⟩
    · rw [if_neg (by simpa using k)]; exact ⟨rfl, rfl⟩
def ints (l : List Int) : List Value := l.map (Value.int .i64)
theorem ints_get {l : List Int} {i : Nat} {x : Int} (h : l[i]? = some x) : (ints l)[i]? = some (.int .i64 x) := by unfold ints; simp [h]
theorem vIs : Try.prog.underlying 107 = some (.slice 3) := by kernel_rfl
theorem cI : Try.prog.cellsOf 3 = 1 := by kernel_rfl
theorem Or_ok {w : World} {v : Value} {l : List Int} (h : reads w 1 v l.length (ints l)) (hl : l.length ≤ 1000) : Rt Try.prog 75 #[v] w fun u w' => u = .int .i64 (orI l) ∧ w' = w := by
  obtain ⟨A, c, hs, _⟩ := reads_cap h
  refine cmp_Or_int_calls ?_
  unfold cmp_Or_int_F
  rw [hs, len_sl vIs, ← hs]
  refine W_loop cmp_Or_int_L0_ok (fun ρ w' => ∃ n : Nat, n ≤ l.length ∧ ρ 8 = .int .i64 n ∧ ρ 7 = .int .i64 l.length ∧ ρ 6 = v ∧ ρ 3 = .int .i64 0 ∧ (∀ a ∈ l.take n, a = 0) ∧ w' = w) (fun ρ _ => l.length - (intOf (ρ 8)).toNat)
    ⟨0, Nat.zero_le _, rfl, rfl, rfl, rfl, by simp, rfl⟩ ?_
  rintro ρ w1 ⟨n, hn, h8, h7, h6, h3, hno, rfl⟩
  rw [cmp_Or_int_L0_eq]; unfold cmp_Or_int_L0_F
  rw [h8, h7, h6, h3, BK_lss]
  by_cases hlt : n < l.length
  · rw [decide_eq_true (by omega)]
    refine condT ?_
    have hx : l[n]? = some l[n] := List.getElem?_eq_getElem hlt
    refine ixld vIs cI vI rfl h (by omega) (by rw [Int.toNat_natCast]; exact ints_get hx) fun y => ?_
    rw [BK_neq]
    refine caseC (fun q => ?_) (fun q => ?_)
    · refine ⟨?_, rfl⟩
      have hne : l[n] ≠ 0 := by simpa using q
      have : l.find? (fun x => decide (x ≠ 0)) = some l[n] := by
        rw [List.find?_eq_some_iff_getElem]
        exact ⟨by simpa using hne, n, hlt, rfl, fun j hj => by
          have := hno l[j] (List.mem_take_iff_getElem.2 ⟨j, by omega, rfl⟩)
          simp [this]⟩
      unfold orI; rw [this]; rfl
    · rw [BK_add, wrap_i (by omega) (by omega)]
      refine ⟨⟨n + 1, hlt, rfl, h7, h6, h3, ?_, rfl⟩, ?_⟩
      · rw [List.take_add_one, hx, Option.toList_some]
        intro a z
        rcases List.mem_append.1 z with z | z
        · exact hno a z
        · rw [List.mem_singleton.1 z]; simpa using q
      · simp only [sq_n, sq_x, sq_r, bk_n, bk_r, bk_x, rt_r, rt_n, rs_0, rs_t, pk_1, pk_2, up_at, reduceIte, Nat.reduceEqDiff, intOf]; omega
  · obtain rfl : n = l.length := by omega
    rw [decide_eq_false (by omega)]
    refine condF ?_
    rw [sq_x, bk_x, sq_n, cmp_Or_int_R1_eq]; unfold cmp_Or_int_R1_F
    refine ⟨?_, rfl⟩
    rw [List.take_length] at hno
    unfold orI
    rw [List.find?_eq_none.2 (fun a ha => by simp [hno a ha])]
    exact h3
theorem order_ok (a b : Ms) (w : World) : Rt Try.prog 60 #[.agg a.enc.toArray, .agg b.enc.toArray] w fun v w' => v = .int .i64 (ordV a b) ∧ Mod none_ w w' := by
  refine queue_order_calls ?_
  unfold queue_order_F
  refine box_k (cs := a.enc.toArray) rfl fun w1 hb1 hm1 hz1 => ?_
  refine box_k (cs := b.enc.toArray) rfl fun w2 hb2 hm2 hz2 => ?_
  refine queue_order_R0_held (D := []) (fun w' => Mod none_ w2 w') ((Mod.refl _ w2).drawn _) ?_
  have hd : Mod none_ w2 { w2 with drawn := w2.drawn + 1 } := (Mod.refl _ w2).drawn _
  generalize ({ w2 with drawn := w2.drawn + 1 } : World) = wd at *
  unfold queue_order_R0_H
  simp only [sq_n, sq_x, sq_r, bk_n, bk_r, bk_x, rt_r, rt_n, rs_0, rs_t, pk_1, pk_2, up_at, reduceIte, Nat.reduceEqDiff]
  have hb1' := hm2.blk hb1 id
  have fld : ∀ {i off : Nat} {bl : Nat} (h : fieldOff Try.prog tMs i = some off) (w' : World), (Instr.fieldAt tMs (.pointer (some ⟨bl, 0, none⟩)) i).run Try.prog w' = .ok (.pointer (some ⟨bl, off, none⟩)) w' := fun h w' => by rw [run_fo h, add_pl, Nat.zero_add]
  refine HV_of (fun w' _ => fld (off := 0) (by kernel_rfl) w') (HV_of (v := strV a.key) (fun w' hw => run_ld1 vS rfl (by rw [cell_blk (hw.blk hb1' id)]; rfl)) ?_)
  refine HV_of (fun w' _ => fld (off := 0) (by kernel_rfl) w') (HV_of (v := strV b.key) (fun w' hw => run_ld1 vS rfl (by rw [cell_blk (hw.blk hb2 id)]; rfl)) ?_)
  refine HV_of (fun w' _ => fld (off := 1) (by kernel_rfl) w') (HV_of (v := .int .i64 a.frm) (fun w' hw => run_ld1 vI rfl (by rw [cell_blk (hw.blk hb1' id)]; rfl)) ?_)
  refine HV_of (fun w' _ => fld (off := 1) (by kernel_rfl) w') (HV_of (v := .int .i64 b.frm) (fun w' hw => run_ld1 vI rfl (by rw [cell_blk (hw.blk hb2 id)]; rfl)) ?_)
  refine HV_of (fun w' _ => fld (off := 2) (by kernel_rfl) w') (HV_of (v := .int .i64 a.to) (fun w' hw => run_ld1 vI rfl (by rw [cell_blk (hw.blk hb1' id)]; rfl)) ?_)
  refine HV_of (fun w' _ => fld (off := 2) (by kernel_rfl) w') (HV_of (v := .int .i64 b.to) (fun w' hw => run_ld1 vI rfl (by rw [cell_blk (hw.blk hb2 id)]; rfl)) ?_)
  refine CK_st Try.func76 rfl rfl (CompareS_ok _ _ _) ?_
  rintro _ w' ⟨rfl, rfl⟩
  refine ⟨hd, CK_st Try.func77 rfl rfl (CompareI_ok _ _ _) ?_⟩
  rintro _ w' ⟨rfl, rfl⟩
  refine ⟨hd, CK_st Try.func77 rfl rfl (CompareI_ok _ _ _) ?_⟩
  rintro _ w' ⟨rfl, rfl⟩
  refine ⟨hd, ?_⟩
  refine bs_k (cs := #[.int .i64 (cmpS a.key b.key), .int .i64 (cmpI a.frm b.frm), .int .i64 (cmpI a.to b.to)]) (by kernel_rfl) fun w3 hb3 hm3 hz3 => ⟨hd.trans hm3, ?_⟩
  refine CK_st Try.func75 rfl rfl (Or_ok (l := [cmpS a.key b.key, cmpI a.frm b.frm, cmpI a.to b.to]) (reads_blk (size := 1) (n := 3) hb3 rfl) (by show 3 ≤ 1000; omega)) ?_
  rintro _ w' ⟨rfl, rfl⟩
  refine ⟨hd.trans hm3, ?_⟩
  rw [queue_order_R1_eq]; unfold queue_order_R1_F
  exact ⟨rfl, ((hm1.trans hm2).trans hd).trans hm3⟩
end Go.Proofs.Ytmnkedgmpbcicaa.Que
set_option linter.unusedVariables false
set_option linter.unusedSimpArgs false
set_option maxRecDepth 4000
namespace Go.X
open Go Go.RowKit
theorem fl_put {α : Type} {enc : α → List Value} {k : Nat} (hk : ∀ a, (enc a).length = k) : ∀ {xs : List α} {i : Nat} {r : α}, i < xs.length → (xs.flatMap enc).take (i * k) ++ enc r ++ (xs.flatMap enc).drop (i * k + k) = (xs.set i r).flatMap enc
  | [], i, r, h => by simp at h
  | x :: xs, 0, r, h => by
    simp only [List.flatMap_cons, Nat.zero_mul, List.take_zero, List.nil_append, Nat.zero_add, List.set_cons_zero]
    rw [List.drop_append_of_le_length (by rw [hk]; exact Nat.le_refl _), List.drop_of_length_le (by rw [hk]; exact Nat.le_refl _), List.nil_append]
  | x :: xs, i + 1, r, h => by
    have ih := fl_put hk (xs := xs) (i := i) (r := r) (by simpa using h)
    have e1 : (i + 1) * k = (enc x).length + i * k := by rw [hk, Nat.succ_mul]; omega
    have e2 : (i + 1) * k + k = (enc x).length + (i * k + k) := by omega
    simp only [List.flatMap_cons, List.set_cons_succ]
    rw [e2, e1, List.take_length_add_append, List.drop_length_add_append, ← ih]
    simp
theorem get_mid {α : Type} {A B : List α} {x : α} : (A ++ x :: B)[A.length]? = some x := by simp
theorem get_mid2 {α : Type} {A B : List α} {x y : α} : (A ++ y :: x :: B)[A.length + 1]? = some x := by
  rw [List.getElem?_append_right (by omega)]; simp
theorem swap_mid {α : Type} {A B : List α} {x y : α} : ((A ++ y :: x :: B).set (A.length + 1) y).set A.length x = A ++ x :: y :: B := by
  rw [List.set_append_right _ _ (by omega), List.set_append_right _ _ (by omega)]; simp
theorem swap_mid' {α : Type} {A B : List α} {x y : α} : ((A ++ y :: x :: B).set A.length x).set (A.length + 1) y = A ++ x :: y :: B := by
  rw [List.set_append_right _ _ (by omega), List.set_append_right _ _ (by omega)]; simp
def dv (g cap n : Nat) : Value := .slice (some ⟨g, 0, none⟩) n cap
end Go.X
namespace Go.Proofs.Ytmnkedgmpbcicaa.Que
open Go Go.X Go.RowKit Go.Proofs.Ytmnkedgmpbcicaa.XF Go.Proofs.Ytmnkedgmpbcicaa.XK
def Dat (w : World) (g cap : Nat) (l : List Ms) : Prop := w.ownsRow 0 tMs 8 (dv g cap l.length) l.length (l.flatMap Ms.enc)
theorem stO {P : Program} {w : World} {K : Value → World → Prop} {t ty : TypeId} {b o : Nat} {old : Array Value} {cs : List Value} (hi : (P.info? t).map (·.size) = some cs.length) (hfit : o + cs.length ≤ old.size) (h1 : ∀ v ∈ cs, v.oneCell' = true) (hb : w.heap[b]? = some (.cells old ty (0, 0)))
    (hk : ∀ w', w'.heap[b]? = some (.cells (old.toList.take o ++ cs ++ old.toList.drop (o + cs.length)).toArray ty (0, 0)) → Mod (fun k => k = b) w w' → w'.heap.size = w.heap.size → K undef w') : UK P (Instr.storeAt t (.pointer (some ⟨b, o, none⟩)) (.agg cs.toArray)) w K := by
  have hst := run_storeCells_at P b o ty cs 0 old w hb (by simpa using hfit) h1
  have hrun : (Instr.storeAt t (.pointer (some ⟨b, o, none⟩)) (.agg cs.toArray)).run P w = .ok () (w.setRow b (old.toList.take o ++ cs ++ old.toList.drop (o + cs.length)).toArray) := by
    cases hq : P.info? t with
    | none => rw [hq] at hi; cases hi
    | some i =>
      rw [hq] at hi
      have hs : i.size = cs.length := by injection hi
      simp only [Nat.add_zero] at hst
      simp [Instr.storeAt, Instr.sureAddr, storeVar, sizeOf, typeInfo, hq, hs, Value.cells, hst]
  refine UK_of hrun (hk _ (setRow_heap w b old _ ty _ hb) ⟨rfl, rfl, rfl, Nat.le_of_eq (size_setRow w b _).symm, fun k _ hkb => setRow_other w b k _ hkb⟩ (size_setRow w b _))
section
variable {w : World} {g cap : Nat} {l : List Ms}
theorem Dat.mod {S : Nat → Prop} {w' : World} (h : Dat w g cap l) (hm : Mod S w w') (hS : ¬ S g) : Dat w' g cap l := owns_mod h hm fun k z y => by
  have : k = g := by unfold dv at z; exact (Option.some.inj z).symm
  subst this; exact hS y
theorem Dat.calm {w' : World} (h : Dat w g cap l) (hm : Mod none_ w w') : Dat w' g cap l := h.mod hm id
theorem Dat.lt (h : Dat w g cap l) : g < w.heap.size := by
  obtain ⟨c, hc⟩ := owns_blk h (g := g) rfl
  exact X.blk_lt hc
theorem Dat.ix {i : Nat} {k : Int} (hk : k = (i : Int)) (hi : i < l.length) (w' : World) : (Instr.indexAt tMsS (dv g cap l.length) (.int .i64 k)).run Try.prog w' = .ok (.pointer (some ⟨g, i * 8, none⟩)) w' := by
  subst hk
  unfold dv
  rw [run_ixa vMsS cMs (by omega) (by omega) w', add_pl, Nat.zero_add, show ((i : Int)).toNat = i by omega]
theorem Dat.run_ld {i : Nat} {m : Ms} (h : Dat w g cap l) (hi : l[i]? = some m) : (Instr.loadAt tMs (.pointer (some ⟨g, i * 8, none⟩))).run Try.prog w = .ok (.agg m.enc.toArray) w := by
  refine run_ldA (cs := m.enc) Try.underlying39 rfl (by rw [iMs]; rfl) (fun j u hu => ?_)
  have hk : j < 7 + 1 := (List.getElem?_eq_some_iff.1 hu).1
  obtain ⟨_, A, cc, es, _, hr⟩ := reads_of_owns h
  cases es
  obtain ⟨a, ha, hc⟩ := hr (i * (7 + 1) + j) u (by rw [fl_get (k := 7 + 1) Ms.enc_len hi hk]; exact hu)
  cases ha
  rw [add_pl] at hc ⊢
  simpa using hc
theorem Dat.ld {i : Nat} {m : Ms} {K : Value → World → Prop} (h : Dat w g cap l) (hi : l[i]? = some m) (hK : K (.agg m.enc.toArray) w) : VK Try.prog (Instr.loadAt tMs (.pointer (some ⟨g, i * 8, none⟩))) w K := VK_of (h.run_ld hi) hK
theorem Dat.st {i : Nat} {m : Ms} {K : Value → World → Prop} (h : Dat w g cap l) (hi : i < l.length) (hK : ∀ w', Dat w' g cap (l.set i m) → Mod (fun b => b = g) w w' → w'.heap.size = w.heap.size → K undef w') : UK Try.prog (Instr.storeAt tMs (.pointer (some ⟨g, i * 8, none⟩)) (.agg m.enc.toArray)) w K := by
  have h' := h
  obtain ⟨hl, ⟨q, _⟩ | ⟨g', cap', cur, q, hb, hg, hn, hm, hs, ht⟩⟩ := h
  · cases q
  · cases q
    have hfit : i * 8 + m.enc.length ≤ cur.size := by
      rw [hs, Ms.enc_len]
      have : (i + 1) * 8 ≤ cap * 8 := Nat.mul_le_mul_right _ (by omega)
      omega
    refine stO (cs := m.enc) (by rw [iMs]; rfl) hfit (fun v hv => Ms.enc_mem [m] v (by simpa using hv)) hg fun w' hb' hm' hz' => ?_
    refine hK w' ⟨by rw [fl_len (k := 8) Ms.enc_len], .inr ⟨g, cap, _, by rw [List.length_set]; rfl, hb, hb', by rw [List.length_set]; exact hn, hm, ?_, ?_⟩⟩ hm' hz'
    · have hc : cur.toList.length = cur.size := Array.length_toList
      rw [Ms.enc_len] at hfit
      rw [List.size_toArray, List.length_append, List.length_append, List.length_take, List.length_drop, Ms.enc_len, hc]
      omega
    · rw [List.length_set, ← fl_put (k := 8) Ms.enc_len hi, ← ht]
      have e8 : m.enc.length = 8 := rfl
      have hlc : l.length * 8 ≤ cur.toList.length := by
        have hc : cur.toList.length = cur.size := Array.length_toList
        rw [hc, hs]
        exact Nat.mul_le_mul_right _ hn
      have hi8 : i * 8 + 8 ≤ l.length * 8 := by omega
      rw [List.toList_toArray, e8, List.take_take, Nat.min_eq_left (by omega), List.append_assoc, List.append_assoc]
      rw [List.take_append, List.length_take, Nat.min_eq_left (by omega), List.take_of_length_le (l := List.take (i * 8) cur.toList) (by rw [List.length_take]; omega)]
      congr 1
      rw [List.take_append, e8, List.take_of_length_le (l := m.enc) (by rw [e8]; omega)]
      congr 1
      rw [List.drop_take]
      congr 1
end
end Go.Proofs.Ytmnkedgmpbcicaa.Que
set_option linter.unusedVariables false
set_option linter.unusedSimpArgs false
set_option maxRecDepth 4000
namespace Go.Proofs.Ytmnkedgmpbcicaa.Que
open Go Go.X Go.RowKit Go.Proofs.Ytmnkedgmpbcicaa.XF Go.Proofs.Ytmnkedgmpbcicaa.XK
def ordF : Value := .func (.func 60) #[] #[]
theorem Qsub {P : Program} {C : World → Prop} {K : Value → Prop} {t : TypeId} {x y : Operand} {k : IntKind} {a b : Int} (hk : K (.int k (k.wrap (a - b)))) : QK P C (do pure (Next.value (← (do eqGuard .sub t x y (.int k a) (.int k b); binOp .sub t (.int k a) (.int k b))))) K := QB_of (fun _ => rfl) (fun w => by simp [go_sem]) hk
theorem Hsub {P : Program} {S : World → Prop} {K : Value → Prop} {t : TypeId} {x y : Operand} {k : IntKind} {a b : Int} (hk : K (.int k (k.wrap (a - b)))) : HK P S (do pure (Next.value (← (do eqGuard .sub t x y (.int k a) (.int k b); binOp .sub t (.int k a) (.int k b))))) K := HB_of (fun _ => rfl) (fun w => by simp [go_sem]) hk
theorem Hadd {P : Program} {S : World → Prop} {K : Value → Prop} {t : TypeId} {x y : Operand} {k : IntKind} {a b : Int} (hk : K (.int k (k.wrap (a + b)))) : HK P S (do pure (Next.value (← (do eqGuard .add t x y (.int k a) (.int k b); binOp .add t (.int k a) (.int k b))))) K := HB_of (fun _ => rfl) (fun w => by simp [go_sem]) hk
theorem QC_ord {C : World → Prop} {a b : Ms} {K : Value → Prop} (hC : ∀ w w', C w → Mod none_ w w' → C w') (hk : K (.int .i64 (ordV a b))) : QK Try.prog C (do let d ← Deferred.ofValue ordF #[.agg a.enc.toArray, .agg b.enc.toArray]; invoke d.target d.args) K :=
  QC_st (args := #[.agg a.enc.toArray, .agg b.enc.toArray]) Try.func60 rfl rfl (fun w hw => Calls.mono (order_ok a b w) fun e w' ⟨v, he, hv, hm⟩ => ⟨by rw [he, hv], hC w w' hw hm⟩) hk
section
variable {w : World} {g cap : Nat} {K : Exit → Sl → World → Prop} {ρ : Sl}
theorem ins_R6 {A B : List Ms} {x y : Ms} {n : Nat} (h : Dat w g cap (A ++ y :: x :: B)) (hn : n = (A ++ y :: x :: B).length) (hl : n ≤ 1000000) (e0 : ρ 0 = dv g cap n) (e9 : ρ 9 = .int .i64 ((A.length : Int) + 1))
    (hk : ∀ ρ' w', ρ' 0 = ρ 0 → ρ' 1 = ρ 1 → ρ' 2 = ρ 2 → ρ' 3 = ρ 3 → ρ' 8 = ρ 8 → ρ' 9 = ρ 9 → Dat w' g cap (A ++ x :: y :: B) → Mod (fun b => b = g) w w' → w'.heap.size = w.heap.size → K .normal ρ' w') : W fn_ Try.prog 53 slices_insertionSortCmpFunc_queue_Message_R6 K ρ w := by
  refine slices_insertionSortCmpFunc_queue_Message_R6_held (D := []) (fun _ => True) trivial ?_
  have hd : Mod none_ w { w with drawn := w.drawn + 1 } := (Mod.refl _ w).drawn _
  have hdz : ({ w with drawn := w.drawn + 1 } : World).heap.size = w.heap.size := rfl
  generalize ({ w with drawn := w.drawn + 1 } : World) = wd at *
  unfold slices_insertionSortCmpFunc_queue_Message_R6_H
  subst hn
  have hlen : (A ++ y :: x :: B).length = A.length + (B.length + 2) := by simp
  have hlx : (A ++ x :: y :: B).length = (A ++ y :: x :: B).length := by simp
  have hD := h.calm hd
  have s1 : IntKind.i64.wrap ((A.length : Int) + 1 - 1) = (A.length : Int) := by rw [wrap_i (by omega) (by omega)]; omega
  rw [e0, e9]
  refine Hsub (Hsub ?_)
  rw [s1]
  refine HV_of (fun w' _ => Dat.ix rfl (by omega) w') (HV_of (fun w' _ => Dat.ix (i := A.length + 1) (by omega) (by omega) w') ?_)
  have gx : (A ++ y :: x :: B)[A.length + 1]? = some x := get_mid2
  have gy : (A ++ y :: x :: B)[A.length]? = some y := get_mid
  have fin : ∀ {K' : Value → Value → Value → World → Prop} , (∀ x51 x52 w', Dat w' g cap (A ++ x :: y :: B) → Mod (fun b => b = g) w w' → w'.heap.size = w.heap.size → K' x51 x52 undef w') →
      HK Try.prog (fun _ => True) (do pure (Next.value (← Instr.indexAt tMsS (dv g cap (A ++ y :: x :: B).length) (.int .i64 ((A.length : Int) + 1))))) fun x51 => UK Try.prog (Instr.storeAt tMs x51 (.agg y.enc.toArray)) wd fun _ w => True ∧ (HK Try.prog (fun _ => True) (do pure (Next.value (← Instr.indexAt tMsS (dv g cap (A ++ y :: x :: B).length) (.int .i64 (A.length : Int))))) fun x52 => UK Try.prog (Instr.storeAt tMs x52 (.agg x.enc.toArray)) w fun u w => True ∧ K' x51 x52 u w) := fun {K'} hK => by
    refine HV_of (fun w' _ => Dat.ix (i := A.length + 1) (by omega) (by omega) w') (hD.st (by omega) fun w1 h1 hm1 hz1 => ⟨trivial, ?_⟩)
    refine HV_of (fun w' _ => Dat.ix (i := A.length) rfl (by omega) w') (h1.st (by rw [List.length_set]; omega) fun w2 h2 hm2 hz2 => ⟨trivial, ?_⟩)
    rw [swap_mid] at h2
    exact hK _ _ w2 h2 (((hd.mono fun _ _ z => z.elim).trans hm1).trans hm2) (by omega)
  refine ⟨hD.ld gy ⟨trivial, hD.ld gx ⟨trivial, ?_⟩⟩, hD.ld gx ⟨trivial, hD.ld gy ⟨trivial, ?_⟩⟩⟩
  · exact fin fun _ _ w' a b c => hk _ w' (by first | exact e0.symm | rfl) rfl rfl rfl rfl (by first | exact e9.symm | rfl) a b c
  · exact fin fun _ _ w' a b c => hk _ w' (by first | exact e0.symm | rfl) rfl rfl rfl rfl (by first | exact e9.symm | rfl) a b c
theorem ins_R3 {j a : Int} (L : List Ms) (h : Dat w g cap L) (hl : L.length ≤ 1000000) (e0 : ρ 0 = dv g cap L.length) (e1 : ρ 1 = .int .i64 a) (e3 : ρ 3 = ordF) (e9 : ρ 9 = .int .i64 j) (ha : 0 ≤ a)
    (hno : j ≤ a → ∀ ρ' w', ρ' 0 = ρ 0 → ρ' 1 = ρ 1 → ρ' 2 = ρ 2 → ρ' 3 = ρ 3 → ρ' 8 = ρ 8 → ρ' 9 = ρ 9 → ρ' 34 = .bool false → Mod none_ w w' → K .normal ρ' w')
    (hyes : a < j → ∃ (i : Nat) (x y : Ms), j = (i : Int) + 1 ∧ L[i + 1]? = some x ∧ L[i]? = some y ∧ ∀ ρ' w', ρ' 0 = ρ 0 → ρ' 1 = ρ 1 → ρ' 2 = ρ 2 → ρ' 3 = ρ 3 → ρ' 8 = ρ 8 → ρ' 9 = ρ 9 → ρ' 34 = .bool (ltM x y) → Mod none_ w w' → K .normal ρ' w') : W fn_ Try.prog 53 slices_insertionSortCmpFunc_queue_Message_R3 K ρ w := by
  refine slices_insertionSortCmpFunc_queue_Message_R3_quiet (D := []) (fun w' => Mod none_ w w') ((Mod.refl _ _).drawn _) ?_
  unfold slices_insertionSortCmpFunc_queue_Message_R3_Q
  rw [e0, e1, e3, e9]
  refine Qgtr ?_
  by_cases c : a < j
  · obtain ⟨i, x, y, rfl, hx, hy, hk⟩ := hyes c
    have hlt := (List.getElem?_eq_some_iff.1 hx).1
    rw [decide_eq_true c]
    simp only [QG_b, if_true]
    refine QM (QM (QM (QV_of (fun w' _ => Dat.ix (i := i + 1) (by omega) hlt w') (QV_of (fun w' hw => (h.calm hw).run_ld hx) (QM (QM (Qsub ?_)))))))
    rw [show IntKind.i64.wrap ((i : Int) + 1 - 1) = (i : Int) by rw [wrap_i (by omega) (by omega)]; omega]
    refine QV_of (fun w' _ => Dat.ix (i := i) rfl (by omega) w') (QV_of (fun w' hw => (h.calm hw).run_ld hy) ?_)
    refine QC_ord (fun w1 w2 h1 h2 => h1.trans h2) (Qlss (QP_of ?_))
    simp only [if_true]
    rw [ordV_lt]
    intro w' hm
    exact hk _ w' (by first | exact e0.symm | rfl) (by first | exact e1.symm | rfl) rfl (by first | exact e3.symm | rfl) rfl (by first | exact e9.symm | rfl) rfl hm
  · rw [decide_eq_false c]
    simp only [QG_b, Bool.false_eq_true, if_false]
    refine QP_of ?_
    simp only [Bool.false_eq_true, if_false]
    intro w' hm
    exact hno (by omega) _ w' (by first | exact e0.symm | rfl) (by first | exact e1.symm | rfl) rfl (by first | exact e3.symm | rfl) rfl (by first | exact e9.symm | rfl) rfl hm
end
end Go.Proofs.Ytmnkedgmpbcicaa.Que
set_option linter.unusedVariables false
set_option linter.unusedSimpArgs false
set_option maxRecDepth 4000
namespace Go.Proofs.Ytmnkedgmpbcicaa.Que
open Go Go.X Go.RowKit Go.Proofs.Ytmnkedgmpbcicaa.XF Go.Proofs.Ytmnkedgmpbcicaa.XK
section
variable {w : World} {g cap : Nat} {K : Exit → Sl → World → Prop} {ρ : Sl}
theorem ins_L1 {P T Z : List Ms} {x : Ms} {n : Nat} (hT : SortedL ltM T) (h : Dat w g cap (P ++ (T ++ x :: Z))) (hn : n = (P ++ (T ++ x :: Z)).length) (hl : n ≤ 1000000) (e0 : ρ 0 = dv g cap n) (e1 : ρ 1 = .int .i64 P.length) (e3 : ρ 3 = ordF) (e9 : ρ 9 = .int .i64 ((P.length + T.length : Nat) : Int))
    (hk : ∀ ρ' w' T1 T2, T = T1 ++ T2 → (∀ a ∈ T1, ltM x a = false) → (∀ b ∈ T2, ltM x b = true) → ρ' 0 = ρ 0 → ρ' 1 = ρ 1 → ρ' 2 = ρ 2 → ρ' 3 = ρ 3 → ρ' 8 = ρ 8 → Dat w' g cap (P ++ ((T1 ++ x :: T2) ++ Z)) → Mod (fun b => b = g) w w' → K (.exit 2) ρ' w') :
    W fn_ Try.prog 53 (Code.loop slices_insertionSortCmpFunc_queue_Message_L1) K ρ w := by
  subst hn
  refine W_loop slices_insertionSortCmpFunc_queue_Message_L1_ok (fun ρ' w' => ∃ T1 T2, T = T1 ++ T2 ∧ (∀ b ∈ T2, ltM x b = true) ∧ ρ' 0 = ρ 0 ∧ ρ' 1 = ρ 1 ∧ ρ' 2 = ρ 2 ∧ ρ' 3 = ρ 3 ∧ ρ' 8 = ρ 8 ∧ ρ' 9 = .int .i64 ((P.length + T1.length : Nat) : Int) ∧ Dat w' g cap (P ++ ((T1 ++ x :: T2) ++ Z)) ∧ Mod (fun b => b = g) w w') (fun ρ' _ => (intOf (ρ' 9)).toNat)
    ⟨T, [], by simp, by simp, rfl, rfl, rfl, rfl, rfl, e9, by simpa using h, Mod.refl _ _⟩ ?_
  rintro ρ' w' ⟨T1, T2, rfl, h2, q0, q1, q2, q3, q8, q9, hD, hm⟩
  rw [slices_insertionSortCmpFunc_queue_Message_L1_eq]; unfold slices_insertionSortCmpFunc_queue_Message_L1_F
  have hlen : (P ++ ((T1 ++ x :: T2) ++ Z)).length = (P ++ ((T1 ++ T2) ++ x :: Z)).length := by simp; omega
  have hll : (P ++ ((T1 ++ x :: T2) ++ Z)).length = P.length + T1.length + 1 + T2.length + Z.length := by simp; omega
  have xit : ∀ (ρ'' : Sl) (w'' : World), (∀ a ∈ T1, ltM x a = false) → ρ'' 0 = ρ' 0 → ρ'' 1 = ρ' 1 → ρ'' 2 = ρ' 2 → ρ'' 3 = ρ' 3 → ρ'' 8 = ρ' 8 → ρ'' 9 = ρ' 9 → ρ'' 34 = .bool false → Mod none_ w' w'' → ∀ {N : Sl → World → Prop} {KK : Exit → Sl → World → Prop}, KK (.exit 2) ρ'' w'' → sx fn_ Try.prog 53 slices_insertionSortCmpFunc_queue_Message_R4 (seqK N KK) ρ'' w'' := fun ρ'' w'' _ _ _ _ _ _ _ a34 _ N KK hK => by
    rw [slices_insertionSortCmpFunc_queue_Message_R4_eq]; unfold slices_insertionSortCmpFunc_queue_Message_R4_F
    rw [a34]
    exact condF hK
  refine ins_R3 (j := ((P.length + T1.length : Nat) : Int)) (a := (P.length : Int)) (P ++ ((T1 ++ x :: T2) ++ Z)) hD (by omega) (by rw [q0, e0, hlen]) (q1.trans e1) (q3.trans e3) q9 (by omega) ?_ ?_
  · intro hj ρ'' w'' a0 a1 a2 a3 a8 a9 a34 hm2
    have hT1 : T1 = [] := List.eq_nil_of_length_eq_zero (by omega)
    subst hT1
    rw [sq_n]
    refine xit ρ'' w'' (by simp) a0 a1 a2 a3 a8 a9 a34 hm2 ?_
    exact hk ρ'' w'' [] T2 rfl (by simp) h2 (a0.trans q0) (a1.trans q1) (a2.trans q2) (a3.trans q3) (a8.trans q8) (hD.calm hm2) (hm.trans (hm2.mono fun _ _ z => z.elim))
  · intro hj
    obtain ⟨T1', y, rfl⟩ : ∃ T1' y, T1 = T1' ++ [y] := by
      rcases List.eq_nil_or_concat T1 with z | ⟨a, b, z⟩
      · subst z; simp at hj
      · exact ⟨a, b, by simpa using z⟩
    have eL : P ++ (((T1' ++ [y]) ++ x :: T2) ++ Z) = (P ++ T1') ++ y :: x :: (T2 ++ Z) := by simp
    have eS : (P ++ T1') ++ x :: y :: (T2 ++ Z) = P ++ ((T1' ++ x :: (y :: T2)) ++ Z) := by simp
    have hPT : (P ++ T1').length = P.length + T1'.length := by simp
    refine ⟨P.length + T1'.length, x, y, by simp; omega, by rw [eL, ← hPT]; exact get_mid2, by rw [eL, ← hPT]; exact get_mid, ?_⟩
    intro ρ'' w'' a0 a1 a2 a3 a8 a9 a34 hm2
    rw [sq_n]
    cases hc : ltM x y with
    | false =>
      rw [hc] at a34
      refine xit ρ'' w'' ?_ a0 a1 a2 a3 a8 a9 a34 hm2 ?_
      · intro a ha
        rcases List.mem_append.1 ha with z | z
        · have hs := List.pairwise_append.1 (List.pairwise_append.1 hT).1
          exact ltM_wo.tr a y x (hs.2.2 a z y (by simp)) hc
        · rw [List.mem_singleton.1 z]; exact hc
      · refine hk ρ'' w'' (T1' ++ [y]) T2 rfl ?_ h2 (a0.trans q0) (a1.trans q1) (a2.trans q2) (a3.trans q3) (a8.trans q8) (hD.calm hm2) (hm.trans (hm2.mono fun _ _ z => z.elim))
        intro a ha
        rcases List.mem_append.1 ha with z | z
        · have hs := List.pairwise_append.1 (List.pairwise_append.1 hT).1
          exact ltM_wo.tr a y x (hs.2.2 a z y (by simp)) hc
        · rw [List.mem_singleton.1 z]; exact hc
    | true =>
      rw [hc] at a34
      rw [slices_insertionSortCmpFunc_queue_Message_R4_eq]; unfold slices_insertionSortCmpFunc_queue_Message_R4_F
      rw [a34]
      refine condT ?_
      rw [sq_n, slices_insertionSortCmpFunc_queue_Message_R5_eq]; unfold slices_insertionSortCmpFunc_queue_Message_R5_F
      have hD2 := hD.calm hm2
      rw [eL] at hD2
      refine ins_R6 (A := P ++ T1') (B := T2 ++ Z) (x := x) (y := y) hD2 (by rw [← eL, hlen]) hl (a0.trans (q0.trans e0)) (by rw [a9, q9]; congr 1; simp; omega) ?_
      intro ρ3 w3 b0 b1 b2 b3 b8 b9 hD3 hm3 hz3
      rw [bk_n, sq_n, slices_insertionSortCmpFunc_queue_Message_R7_eq]; unfold slices_insertionSortCmpFunc_queue_Message_R7_F
      rw [b9, a9, q9, BK_sub, wrap_i (by omega) (by omega)]
      rw [eS] at hD3
      refine ⟨⟨T1', y :: T2, by simp, ?_, b0.trans (a0.trans q0), b1.trans (a1.trans q1), b2.trans (a2.trans q2), b3.trans (a3.trans q3), b8.trans (a8.trans q8), ?_, hD3, (hm.trans (hm2.mono fun _ _ z => z.elim)).trans hm3⟩, ?_⟩
      · intro b hb
        rcases List.mem_cons.1 hb with rfl | z
        · exact hc
        · exact h2 b z
      · show Value.int .i64 _ = _
        congr 1; simp; omega
      · show (intOf (.int .i64 _)).toNat < (intOf (.int .i64 _)).toNat
        simp only [intOf, List.length_append, List.length_cons, List.length_nil]
        omega
theorem insSort_ok {P X R : List Ms} {n : Nat} (h : Dat w g cap (P ++ (X ++ R))) (hn : n = (P ++ (X ++ R)).length) (hl : n ≤ 1000000) :
    Rt Try.prog 82 #[dv g cap n, .int .i64 P.length, .int .i64 ((P.length + X.length : Nat) : Int), ordF] w fun _ w' => ∃ S, Stab ltM X S ∧ Dat w' g cap (P ++ (S ++ R)) ∧ Mod (fun b => b = g) w w' := by
  subst hn
  refine slices_insertionSortCmpFunc_queue_Message_calls ?_
  unfold slices_insertionSortCmpFunc_queue_Message_F
  have hll : (P ++ (X ++ R)).length = P.length + X.length + R.length := by simp; omega
  rw [BK_add, wrap_i (by omega) (by omega)]
  cases X with
  | nil =>
    refine W_loop slices_insertionSortCmpFunc_queue_Message_L0_ok (fun ρ' w' => ρ' 8 = .int .i64 ((P.length : Int) + 1) ∧ ρ' 2 = .int .i64 ((P.length + 0 : Nat) : Int) ∧ w' = w) (fun _ _ => 0) ⟨rfl, rfl, rfl⟩ ?_
    rintro ρ' w' ⟨q8, q2, rfl⟩
    rw [slices_insertionSortCmpFunc_queue_Message_L0_eq]; unfold slices_insertionSortCmpFunc_queue_Message_L0_F
    rw [q8, q2, BK_lss, decide_eq_false (by omega)]
    refine condF ?_
    rw [sq_x, bk_x]
    exact ⟨[], ⟨List.Pairwise.nil, fun _ => rfl⟩, h, Mod.refl _ _⟩
  | cons x0 X =>
    refine W_loop slices_insertionSortCmpFunc_queue_Message_L0_ok (fun ρ' w' => ∃ X1 X2 S1, x0 :: X = X1 ++ X2 ∧ Stab ltM X1 S1 ∧ ρ' 0 = dv g cap (P ++ (x0 :: X ++ R)).length ∧ ρ' 1 = .int .i64 P.length ∧ ρ' 2 = .int .i64 ((P.length + (x0 :: X).length : Nat) : Int) ∧ ρ' 3 = ordF ∧ ρ' 8 = .int .i64 ((P.length + X1.length : Nat) : Int) ∧ Dat w' g cap (P ++ (S1 ++ (X2 ++ R))) ∧ Mod (fun b => b = g) w w') (fun ρ' _ => (P.length + (x0 :: X).length) - (intOf (ρ' 8)).toNat)
      ⟨[x0], X, [x0], rfl, Stab.refl (List.pairwise_singleton _ _), rfl, rfl, rfl, rfl, rfl, h, Mod.refl _ _⟩ ?_
    rintro ρ' w' ⟨X1, X2, S1, hX, hS, q0, q1, q2, q3, q8, hD, hm⟩
    rw [slices_insertionSortCmpFunc_queue_Message_L0_eq]; unfold slices_insertionSortCmpFunc_queue_Message_L0_F
    rw [q8, q2, BK_lss]
    have hxl : (x0 :: X).length = X.length + 1 := rfl
    have hlX : (x0 :: X).length = X1.length + X2.length := by rw [hX, List.length_append]
    have hlS : S1.length = X1.length := Stab.len ltM_wo hS.eq
    have hnn : (P ++ (x0 :: X ++ R)).length = P.length + (x0 :: X).length + R.length := hll
    cases X2 with
    | nil =>
      rw [decide_eq_false (by simp only [List.length_nil] at hlX; omega)]
      refine condF ?_
      rw [sq_x, bk_x]
      rw [List.append_nil] at hX
      rw [List.nil_append] at hD
      exact ⟨S1, hX ▸ hS, hD, hm⟩
    | cons x X2 =>
      rw [decide_eq_true (by simp only [List.length_cons] at hlX ⊢; omega)]
      refine condT ?_
      refine ins_L1 (P := P) (T := S1) (Z := X2 ++ R) (x := x) (n := (P ++ (x0 :: X ++ R)).length) hS.so (by simpa using hD) (by simp only [List.length_append, List.length_cons] at hlX ⊢; omega) hl q0 q1 q3 (by show Value.int .i64 _ = _; rw [hlS]) ?_
      intro ρ2 w2 T1 T2 hT h1 h2 a0 a1 a2 a3 a8 hD2 hm2
      rw [bk_x, bk_n, sq_n, slices_insertionSortCmpFunc_queue_Message_R2_eq]; unfold slices_insertionSortCmpFunc_queue_Message_R2_F
      have e8 : ρ2 8 = .int .i64 ((P.length + X1.length : Nat) : Int) := a8.trans q8
      rw [e8, BK_add, wrap_i (by simp only [List.length_cons] at hlX; omega) (by simp only [List.length_cons] at hlX; omega)]
      refine ⟨⟨X1 ++ [x], X2, T1 ++ x :: T2, by rw [hX]; simp, ?_, a0.trans q0, a1.trans q1, a2.trans q2, a3.trans q3, ?_, hD2, hm.trans hm2⟩, ?_⟩
      · have hs := stab_ins ltM_wo (S1 := T1) (S2 := T2) (x := x) (hT ▸ hS.so) h1 h2
        refine Stab.trans (m := (T1 ++ T2) ++ [x]) (fun z => ?_) hs
        rw [← hT, List.filter_append, List.filter_append, hS.eq]
      · show Value.int .i64 _ = _
        congr 1; simp; omega
      · show _ - (intOf (.int .i64 _)).toNat < _ - (intOf (.int .i64 _)).toNat
        simp only [intOf, List.length_cons] at hlX ⊢
        omega
end
end Go.Proofs.Ytmnkedgmpbcicaa.Que
set_option linter.unusedVariables false
set_option linter.unusedSimpArgs false
set_option maxRecDepth 4000
namespace Go.X
theorem far_1 {α : Type} {A M B : List α} {u v : α} : (A ++ u :: (M ++ v :: B))[A.length]? = some u := by simp
theorem far_2 {α : Type} {A M B : List α} {u v : α} : (A ++ u :: (M ++ v :: B))[A.length + 1 + M.length]? = some v := by
  rw [List.getElem?_append_right (by omega), show A.length + 1 + M.length - A.length = M.length + 1 by omega]; simp
theorem far_set {α : Type} {A M B : List α} {u v : α} : ((A ++ u :: (M ++ v :: B)).set A.length v).set (A.length + 1 + M.length) u = A ++ v :: (M ++ u :: B) := by
  rw [List.set_append_right _ _ (by omega), List.set_append_right _ _ (by omega), show A.length + 1 + M.length - A.length = M.length + 1 by omega, Nat.sub_self, List.set_cons_zero, List.set_cons_succ, List.set_append_right _ _ (by omega)]
  simp
end Go.X
namespace Go.Proofs.Ytmnkedgmpbcicaa.Que
open Go Go.X Go.RowKit Go.Proofs.Ytmnkedgmpbcicaa.XF Go.Proofs.Ytmnkedgmpbcicaa.XK
section
variable {w : World} {g cap : Nat} {K : Exit → Sl → World → Prop} {ρ : Sl}
theorem swr_R1 {A M B : List Ms} {u v : Ms} {n : Nat} {a b i : Int} (h : Dat w g cap (A ++ u :: (M ++ v :: B))) (hn : n = (A ++ u :: (M ++ v :: B)).length) (hl : n ≤ 1000000) (e0 : ρ 0 = dv g cap n) (e1 : ρ 1 = .int .i64 a) (e2 : ρ 2 = .int .i64 b) (e10 : ρ 10 = .int .i64 i)
    (ha : a + i = (A.length : Int)) (hb : b + i = ((A.length + 1 + M.length : Nat) : Int))
    (hk : ∀ ρ' w', ρ' 0 = ρ 0 → ρ' 1 = ρ 1 → ρ' 2 = ρ 2 → ρ' 3 = ρ 3 → ρ' 10 = ρ 10 → Dat w' g cap (A ++ v :: (M ++ u :: B)) → Mod (fun b => b = g) w w' → K .normal ρ' w') : W fn_ Try.prog 38 slices_swapRangeCmpFunc_queue_Message_R1 K ρ w := by
  refine slices_swapRangeCmpFunc_queue_Message_R1_held (D := []) (fun _ => True) trivial ?_
  have hd : Mod none_ w { w with drawn := w.drawn + 1 } := (Mod.refl _ w).drawn _
  have hdz : ({ w with drawn := w.drawn + 1 } : World).heap.size = w.heap.size := rfl
  generalize ({ w with drawn := w.drawn + 1 } : World) = wd at *
  unfold slices_swapRangeCmpFunc_queue_Message_R1_H
  subst hn
  have hlen : (A ++ u :: (M ++ v :: B)).length = A.length + (M.length + B.length + 2) := by simp; omega
  have hD := h.calm hd
  rw [e0, e1, e2, e10]
  have sa : IntKind.i64.wrap (a + i) = (A.length : Int) := by rw [ha, wrap_i (by omega) (by omega)]
  have sb : IntKind.i64.wrap (b + i) = ((A.length + 1 + M.length : Nat) : Int) := by rw [hb, wrap_i (by omega) (by omega)]
  refine Hadd (Hadd (Hadd ?_))
  rw [sa, sb]
  refine HV_of (fun w' _ => Dat.ix rfl (by omega) w') (Hadd ?_)
  rw [sa]
  refine HV_of (fun w' _ => Dat.ix rfl (by omega) w') ?_
  have fin : ∀ {K' : Value → Value → Value → World → Prop}, (∀ x51 x52 w', Dat w' g cap (A ++ v :: (M ++ u :: B)) → Mod (fun b => b = g) w w' → K' x51 x52 undef w') →
      HK Try.prog (fun _ => True) (do pure (Next.value (← Instr.indexAt tMsS (dv g cap (A ++ u :: (M ++ v :: B)).length) (.int .i64 (A.length : Int))))) fun x51 => UK Try.prog (Instr.storeAt tMs x51 (.agg v.enc.toArray)) wd fun _ w => True ∧ (HK Try.prog (fun _ => True) (do pure (Next.value (← Instr.indexAt tMsS (dv g cap (A ++ u :: (M ++ v :: B)).length) (.int .i64 ((A.length + 1 + M.length : Nat) : Int))))) fun x52 => UK Try.prog (Instr.storeAt tMs x52 (.agg u.enc.toArray)) w fun z w => True ∧ K' x51 x52 z w) := fun {K'} hK => by
    refine HV_of (fun w' _ => Dat.ix (i := A.length) rfl (by omega) w') (hD.st (by omega) fun w1 h1 hm1 hz1 => ⟨trivial, ?_⟩)
    refine HV_of (fun w' _ => Dat.ix (i := A.length + 1 + M.length) rfl (by omega) w') (h1.st (by rw [List.length_set]; omega) fun w2 h2 hm2 hz2 => ⟨trivial, ?_⟩)
    rw [far_set] at h2
    exact hK _ _ w2 h2 (((hd.mono fun _ _ z => z.elim).trans hm1).trans hm2)
  refine ⟨hD.ld far_2 ⟨trivial, hD.ld far_1 ⟨trivial, ?_⟩⟩, hD.ld far_1 ⟨trivial, hD.ld far_2 ⟨trivial, ?_⟩⟩⟩
  · exact fin fun _ _ w' a b => hk _ w' (by first | exact e0.symm | rfl) (by first | exact e1.symm | rfl) (by first | exact e2.symm | rfl) rfl (by first | exact e10.symm | rfl) a b
  · exact fin fun _ _ w' a b => hk _ w' (by first | exact e0.symm | rfl) (by first | exact e1.symm | rfl) (by first | exact e2.symm | rfl) rfl (by first | exact e10.symm | rfl) a b
theorem swr_ok {A U M V B : List Ms} {n : Nat} {a b : Int} (h : Dat w g cap (A ++ (U ++ (M ++ (V ++ B))))) (hn : n = (A ++ (U ++ (M ++ (V ++ B)))).length) (hl : n ≤ 1000000) (hUV : U.length = V.length) (ha : a = (A.length : Int)) (hb : b = ((A.length + U.length + M.length : Nat) : Int)) :
    Rt Try.prog 101 #[dv g cap n, .int .i64 a, .int .i64 b, .int .i64 U.length, ordF] w fun _ w' => Dat w' g cap (A ++ (V ++ (M ++ (U ++ B)))) ∧ Mod (fun b => b = g) w w' := by
  refine slices_swapRangeCmpFunc_queue_Message_calls ?_
  unfold slices_swapRangeCmpFunc_queue_Message_F
  have hll : n = A.length + U.length + M.length + V.length + B.length := by rw [hn]; simp; omega
  refine W_loop slices_swapRangeCmpFunc_queue_Message_L0_ok (fun ρ' w' => ∃ U1 U2 V1 V2, U = U1 ++ U2 ∧ V = V1 ++ V2 ∧ U1.length = V1.length ∧ ρ' 0 = dv g cap n ∧ ρ' 1 = .int .i64 a ∧ ρ' 2 = .int .i64 b ∧ ρ' 3 = .int .i64 U.length ∧ ρ' 10 = .int .i64 U1.length ∧ Dat w' g cap (A ++ (V1 ++ (U2 ++ (M ++ (U1 ++ (V2 ++ B)))))) ∧ Mod (fun b => b = g) w w') (fun ρ' _ => U.length - (intOf (ρ' 10)).toNat)
    ⟨[], U, [], V, rfl, rfl, rfl, rfl, rfl, rfl, rfl, rfl, h, Mod.refl _ _⟩ ?_
  rintro ρ' w' ⟨U1, U2, V1, V2, hU, hV, h1, q0, q1, q2, q3, q10, hD, hm⟩
  rw [slices_swapRangeCmpFunc_queue_Message_L0_eq]; unfold slices_swapRangeCmpFunc_queue_Message_L0_F
  rw [q10, q3, BK_lss]
  have lU : U.length = U1.length + U2.length := by rw [hU, List.length_append]
  have lV : V.length = V1.length + V2.length := by rw [hV, List.length_append]
  cases U2 with
  | nil =>
    have : V2 = [] := List.eq_nil_of_length_eq_zero (by simp only [List.length_nil] at lU; omega)
    subst this
    rw [decide_eq_false (by simp only [List.length_nil] at lU; omega)]
    refine condF ?_
    rw [sq_x, bk_x]
    rw [List.append_nil] at hU hV
    subst hU hV
    exact ⟨by simpa using hD, hm⟩
  | cons u U2 =>
    cases V2 with
    | nil => simp only [List.length_nil, List.length_cons] at lU lV; omega
    | cons v V2 =>
      simp only [List.length_cons] at lU lV
      rw [decide_eq_true (by omega)]
      refine condT ?_
      have eL : A ++ (V1 ++ (u :: U2 ++ (M ++ (U1 ++ (v :: V2 ++ B))))) = (A ++ V1) ++ u :: ((U2 ++ M ++ U1) ++ v :: (V2 ++ B)) := by simp
      have eS : (A ++ V1) ++ v :: ((U2 ++ M ++ U1) ++ u :: (V2 ++ B)) = A ++ ((V1 ++ [v]) ++ (U2 ++ (M ++ ((U1 ++ [u]) ++ (V2 ++ B))))) := by simp
      rw [eL] at hD
      refine swr_R1 (A := A ++ V1) (M := U2 ++ M ++ U1) (B := V2 ++ B) (u := u) (v := v) (n := n) (a := a) (b := b) (i := U1.length) hD (by rw [hll]; simp only [List.length_append, List.length_cons]; omega) hl q0 q1 q2 q10 (by rw [ha, List.length_append]; omega) (by rw [hb]; simp only [List.length_append]; omega) ?_
      intro ρ2 w2 a0 a1 a2 a3 a10 hD2 hm2
      rw [bk_n, sq_n, slices_swapRangeCmpFunc_queue_Message_R2_eq]; unfold slices_swapRangeCmpFunc_queue_Message_R2_F
      have e10 : ρ2 10 = .int .i64 U1.length := a10.trans q10
      rw [e10, BK_add, wrap_i (by omega) (by omega)]
      rw [eS] at hD2
      refine ⟨⟨U1 ++ [u], U2, V1 ++ [v], V2, by rw [hU]; simp, by rw [hV]; simp, by simp [h1], a0.trans q0, a1.trans q1, a2.trans q2, a3.trans q3, ?_, hD2, hm.trans hm2⟩, ?_⟩
      · show Value.int .i64 _ = _
        congr 1; simp
      · show U.length - (intOf (.int .i64 _)).toNat < _ - (intOf (.int .i64 _)).toNat
        simp only [intOf]
        omega
theorem rot_ok {A U V B : List Ms} {n : Nat} {a m b : Int} (h : Dat w g cap (A ++ (U ++ (V ++ B)))) (hn : n = (A ++ (U ++ (V ++ B))).length) (hl : n ≤ 1000000) (hU : 0 < U.length) (hV : 0 < V.length) (ha : a = (A.length : Int)) (hm : m = a + U.length) (hb : b = m + V.length) :
    Rt Try.prog 89 #[dv g cap n, .int .i64 a, .int .i64 m, .int .i64 b, ordF] w fun _ w' => Dat w' g cap (A ++ (V ++ (U ++ B))) ∧ Mod (fun b => b = g) w w' := by
  refine slices_rotateCmpFunc_queue_Message_calls ?_
  unfold slices_rotateCmpFunc_queue_Message_F
  have hll : n = A.length + U.length + V.length + B.length := by rw [hn]; simp; omega
  rw [BK_sub, wrap_i (by omega) (by omega), BK_sub, wrap_i (by omega) (by omega)]
  refine W_loop slices_rotateCmpFunc_queue_Message_L0_ok (fun ρ' w' => ∃ Z1 U' V' Z2, V ++ U = Z1 ++ ((V' ++ U') ++ Z2) ∧ 0 < U'.length ∧ 0 < V'.length ∧ m = ((A.length + Z1.length + U'.length : Nat) : Int) ∧ ρ' 0 = dv g cap n ∧ ρ' 2 = .int .i64 m ∧ ρ' 4 = ordF ∧ ρ' 10 = .int .i64 U'.length ∧ ρ' 11 = .int .i64 V'.length ∧ Dat w' g cap (A ++ (Z1 ++ (U' ++ (V' ++ (Z2 ++ B))))) ∧ Mod (fun b => b = g) w w') (fun ρ' _ => (intOf (ρ' 10)).toNat + (intOf (ρ' 11)).toNat)
    ⟨[], U, V, [], by simp, hU, hV, by rw [hm, ha]; simp, rfl, rfl, rfl, by show Value.int .i64 _ = _; congr 1; omega, by show Value.int .i64 _ = _; congr 1; omega, h, Mod.refl _ _⟩ ?_
  rintro ρ' w' ⟨Z1, U', V', Z2, hZ, u0, v0, hmm, q0, q2, q4, q10, q11, hD, hM⟩
  rw [slices_rotateCmpFunc_queue_Message_L0_eq]; unfold slices_rotateCmpFunc_queue_Message_L0_F
  rw [q10, q11, q0, q2, q4, BK_neq]
  have lZ : V.length + U.length = Z1.length + (V'.length + U'.length + Z2.length) := by have := congrArg List.length hZ; simp only [List.length_append] at this; omega
  have hsub : IntKind.i64.wrap (m - (U'.length : Int)) = ((A.length + Z1.length : Nat) : Int) := by rw [wrap_i (by omega) (by omega)]; omega
  by_cases c : U'.length = V'.length
  · rw [show ((U'.length : Int) != (V'.length : Int)) = false by simp [c]]
    refine condF ?_
    rw [sq_x, bk_x, sq_n, slices_rotateCmpFunc_queue_Message_R1_eq]; unfold slices_rotateCmpFunc_queue_Message_R1_F
    rw [show (up (up (up ρ' 18 (Value.int IntKind.i64 ↑U'.length)) 19 (Value.int IntKind.i64 ↑V'.length)) 20 (Value.bool false)) 2 = .int .i64 m from q2, show (up (up (up ρ' 18 (Value.int IntKind.i64 ↑U'.length)) 19 (Value.int IntKind.i64 ↑V'.length)) 20 (Value.bool false)) 10 = .int .i64 U'.length from q10, show (up (up (up ρ' 18 (Value.int IntKind.i64 ↑U'.length)) 19 (Value.int IntKind.i64 ↑V'.length)) 20 (Value.bool false)) 0 = dv g cap n from q0, show (up (up (up ρ' 18 (Value.int IntKind.i64 ↑U'.length)) 19 (Value.int IntKind.i64 ↑V'.length)) 20 (Value.bool false)) 4 = ordF from q4]
    rw [BK_sub, hsub]
    have e1 : A ++ (Z1 ++ (U' ++ (V' ++ (Z2 ++ B)))) = (A ++ Z1) ++ (U' ++ ([] ++ (V' ++ (Z2 ++ B)))) := by simp
    rw [e1] at hD
    refine CK_st Try.func101 rfl rfl (swr_ok (A := A ++ Z1) (U := U') (M := []) (V := V') (B := Z2 ++ B) hD (by rw [hll]; simp only [List.length_append, List.length_nil]; omega) hl c (by simp) (by rw [hmm]; simp)) ?_
    rintro _ w2 ⟨hD2, hm2⟩
    refine ⟨?_, hM.trans hm2⟩
    have e2 : (A ++ Z1) ++ (V' ++ ([] ++ (U' ++ (Z2 ++ B)))) = A ++ (V ++ (U ++ B)) := by
      have : A ++ (V ++ (U ++ B)) = A ++ ((V ++ U) ++ B) := by simp
      rw [this, hZ]; simp
    rw [← e2]; exact hD2
  · rw [show ((U'.length : Int) != (V'.length : Int)) = true by simp; omega]
    refine condT ?_
    rw [BK_gtr]
    by_cases c2 : V'.length < U'.length
    · rw [decide_eq_true (by omega)]
      refine condT ?_
      rw [BK_sub, hsub]
      obtain ⟨U1, U2, rfl, hU1⟩ : ∃ U1 U2, U' = U1 ++ U2 ∧ U1.length = V'.length := ⟨U'.take V'.length, U'.drop V'.length, (List.take_append_drop _ _).symm, by rw [List.length_take]; omega⟩
      have lU : (U1 ++ U2).length = U1.length + U2.length := List.length_append
      have e1 : A ++ (Z1 ++ ((U1 ++ U2) ++ (V' ++ (Z2 ++ B)))) = (A ++ Z1) ++ (U1 ++ (U2 ++ (V' ++ (Z2 ++ B)))) := by simp
      rw [e1] at hD
      have hsw := swr_ok (w := w') (A := A ++ Z1) (U := U1) (M := U2) (V := V') (B := Z2 ++ B) (n := n) (a := ((A.length + Z1.length : Nat) : Int)) (b := m) hD (by rw [hll]; simp only [List.length_append] at lZ ⊢; omega) hl hU1 (by simp) (by rw [hmm]; simp only [List.length_append]; omega)
      rw [hU1] at hsw
      refine CK_st Try.func101 rfl rfl hsw ?_
      rintro _ w2 ⟨hD2, hm2⟩
      rw [BK_sub, wrap_i (by omega) (by omega)]
      refine ⟨⟨Z1 ++ V', U2, U1, Z2, by rw [hZ]; simp, by omega, by omega, by rw [hmm]; simp only [List.length_append]; omega, q0, q2, q4, ?_, ?_, by simpa using hD2, hM.trans hm2⟩, ?_⟩
      · show Value.int .i64 _ = _
        congr 1; omega
      · show ρ' 11 = _
        rw [q11, hU1]
      · show (intOf (.int .i64 _)).toNat + (intOf (ρ' 11)).toNat < _
        rw [q11]
        simp only [intOf]
        omega
    · rw [decide_eq_false (by omega)]
      refine condF ?_
      have hV' : U'.length < V'.length := by omega
      rw [BK_sub, hsub, BK_add, wrap_i (by omega) (by omega), BK_sub, wrap_i (by omega) (by omega)]
      obtain ⟨V1, V2, rfl, hV2⟩ : ∃ V1 V2, V' = V1 ++ V2 ∧ V2.length = U'.length := ⟨V'.take (V'.length - U'.length), V'.drop (V'.length - U'.length), (List.take_append_drop _ _).symm, by rw [List.length_drop]; omega⟩
      have lV : (V1 ++ V2).length = V1.length + V2.length := List.length_append
      have e1 : A ++ (Z1 ++ (U' ++ ((V1 ++ V2) ++ (Z2 ++ B)))) = (A ++ Z1) ++ (U' ++ (V1 ++ (V2 ++ (Z2 ++ B)))) := by simp
      rw [e1] at hD
      refine CK_st Try.func101 rfl rfl (swr_ok (A := A ++ Z1) (U := U') (M := V1) (V := V2) (B := Z2 ++ B) hD (by rw [hll]; simp only [List.length_append] at lZ ⊢; omega) hl hV2.symm (by simp) (by rw [hmm]; simp only [List.length_append]; omega)) ?_
      rintro _ w2 ⟨hD2, hm2⟩
      rw [BK_sub, wrap_i (by omega) (by omega)]
      refine ⟨⟨Z1, V2, V1, U' ++ Z2, by rw [hZ]; simp, by omega, by omega, by rw [hmm, hV2], q0, q2, q4, ?_, ?_, by simpa using hD2, hM.trans hm2⟩, ?_⟩
      · show ρ' 10 = _
        rw [q10, hV2]
      · show Value.int .i64 _ = _
        congr 1; omega
      · show (intOf (ρ' 10)).toNat + (intOf (.int .i64 _)).toNat < _
        rw [q10]
        simp only [intOf]
        omega
end
end Go.Proofs.Ytmnkedgmpbcicaa.Que
set_option linter.unusedVariables false
set_option linter.unusedSimpArgs false
set_option maxRecDepth 4000
namespace Go.X
theorem idx_in {α : Type} {A Y R : List α} {k : Nat} (h : k < Y.length) : (A ++ (Y ++ R))[A.length + k]? = some Y[k] := by
  rw [List.getElem?_append_right (by omega), Nat.add_sub_cancel_left, List.getElem?_append_left h, List.getElem?_eq_getElem h]
end Go.X
namespace Go.Proofs.Ytmnkedgmpbcicaa.Que
open Go Go.X Go.RowKit Go.Proofs.Ytmnkedgmpbcicaa.XF Go.Proofs.Ytmnkedgmpbcicaa.XK
theorem shr_ok {w : World} {K : Value → World → Prop} (x y : Operand) (s : Int) : BK Try.prog .shr 129 x y (.int .u64 s) (.int .u64 1) w K = K (.int .u64 (s / 2)) w := by
  refine BK_of rfl ?_
  simp [go_sem]
theorem conv_k {w : World} {K : Value → World → Prop} {src dst : TypeId} {q k : IntKind} {n : Int} (hs : (Try.prog.underlying src).isSome = true) (hd : Try.prog.underlying dst = some (.int k)) : VK Try.prog (convert src dst (.int q n)) w K = K (.int k (k.wrap n)) w := by
  have ek : Try.prog.intKind dst = k := by simp [Program.intKind, hd]
  have := run_convert_int (P := Try.prog) w src dst q n hs (by rw [ek]; exact hd)
  rw [ek] at this
  exact VK_eq_of this
theorem half_k {w : World} {K : Value → Value → Value → World → Prop} {o1 o2 : Operand} {s : Int} (h0 : 0 ≤ s) (h1 : s < 4611686018427387904) (hK : ∀ x y, K x y (.int .i64 (s / 2)) w) :
    VK Try.prog (convert 3 129 (.int .i64 s)) w fun x w => BK Try.prog .shr 129 o1 o2 x (.int .u64 1) w fun y w => VK Try.prog (convert 129 3 y) w (K x y) := by
  rw [conv_k (k := .u64) (by kernel_rfl) (by kernel_rfl), shr_ok, conv_k (k := .i64) (by kernel_rfl) (by kernel_rfl)]
  rw [show IntKind.i64.wrap (IntKind.u64.wrap s / 2) = s / 2 by
    rw [show IntKind.u64.wrap s = s by rw [IntKind.wrap_u64]; omega, wrap_i (by omega) (by omega)]]
  exact hK _ _
structure SG (ρ ρ' : Sl) : Prop where
  e0 : ρ' 0 = ρ 0
  e1 : ρ' 1 = ρ 1
  e2 : ρ' 2 = ρ 2
  e3 : ρ' 3 = ρ 3
  e4 : ρ' 4 = ρ 4
theorem SG.rfl' {ρ : Sl} : SG ρ ρ := ⟨rfl, rfl, rfl, rfl, rfl⟩
theorem SG.trans {a b c : Sl} (h : SG a b) (k : SG b c) : SG a c := ⟨k.e0.trans h.e0, k.e1.trans h.e1, k.e2.trans h.e2, k.e3.trans h.e3, k.e4.trans h.e4⟩
section
variable {w : World} {g cap n : Nat} {K : Exit → Sl → World → Prop} {ρ : Sl} {P X Y R : List Ms} {x y : Ms}
theorem sm_L0 (h : Dat w g cap ((P ++ [x]) ++ (Y ++ R))) (hn : n = ((P ++ [x]) ++ (Y ++ R)).length) (hl : n ≤ 1000000) (hY : SortedL ltM Y) (e0 : ρ 0 = dv g cap n) (e1 : ρ 1 = .int .i64 P.length) (e4 : ρ 4 = ordF) (e10 : ρ 10 = .int .i64 ((P.length : Int) + 1)) (e11 : ρ 11 = .int .i64 ((P.length : Int) + 1 + Y.length))
    (hk : ∀ ρ' w' Y1 Y2, Y = Y1 ++ Y2 → (∀ a ∈ Y1, ltM a x = true) → (∀ b ∈ Y2, ltM b x = false) → SG ρ ρ' → ρ' 10 = .int .i64 ((P.length : Int) + 1 + Y1.length) → Dat w' g cap ((P ++ [x]) ++ (Y ++ R)) → Mod none_ w w' → K (.exit 0) ρ' w') :
    W fn_ Try.prog 220 (Code.loop slices_symMergeCmpFunc_queue_Message_L0) K ρ w := by
  subst hn
  have hll : ((P ++ [x]) ++ (Y ++ R)).length = P.length + 1 + (Y.length + R.length) := by simp; omega
  have hPx : (P ++ [x]).length = P.length + 1 := by simp
  refine W_loop slices_symMergeCmpFunc_queue_Message_L0_ok (fun ρ' w' => ∃ i j : Nat, i ≤ j ∧ j ≤ Y.length ∧ (i = 0 ∨ ∃ z, Y[i - 1]? = some z ∧ ltM z x = true) ∧ (j = Y.length ∨ ∃ z, Y[j]? = some z ∧ ltM z x = false) ∧ SG ρ ρ' ∧ ρ' 10 = .int .i64 ((P.length : Int) + 1 + i) ∧ ρ' 11 = .int .i64 ((P.length : Int) + 1 + j) ∧ Mod none_ w w') (fun ρ' _ => (intOf (ρ' 11)).toNat - (intOf (ρ' 10)).toNat)
    ⟨0, Y.length, by omega, by omega, .inl rfl, .inl rfl, SG.rfl', by rw [e10]; simp, e11, Mod.refl _ _⟩ ?_
  rintro ρ' w' ⟨i, j, hij, hj, hi0, hj0, hS, q10, q11, hm⟩
  rw [slices_symMergeCmpFunc_queue_Message_L0_eq]; unfold slices_symMergeCmpFunc_queue_Message_L0_F
  rw [q10, q11, BK_lss]
  by_cases c : i < j
  · rw [decide_eq_true (by omega)]
    refine condT ?_
    rw [BK_add, wrap_i (by omega) (by omega)]
    refine half_k (by omega) (by omega) fun _ _ => ?_
    have hh : ((P.length : Int) + 1 + i + ((P.length : Int) + 1 + j)) / 2 = ((P.length + 1 + (i + j) / 2 : Nat) : Int) := by omega
    rw [hh]
    generalize hc : (i + j) / 2 = c' at *
    have hc1 : i ≤ c' ∧ c' < j := by omega
    have q0 := hS.e0.trans e0
    have q1 := hS.e1.trans e1
    have q4 := hS.e4.trans e4
    refine slices_symMergeCmpFunc_queue_Message_R8_quiet (D := []) (fun w'' => Mod none_ w w'') (hm.drawn _) ?_
    unfold slices_symMergeCmpFunc_queue_Message_R8_Q
    simp only [sq_n, sq_x, sq_r, bk_n, bk_r, bk_x, rt_r, rt_n, rs_0, rs_t, pk_1, pk_2, up_at, reduceIte, Nat.reduceEqDiff, q0, q1, q4]
    have gx : ((P ++ [x]) ++ (Y ++ R))[P.length]? = some x := by rw [List.append_assoc]; exact get_mid
    have gc : ((P ++ [x]) ++ (Y ++ R))[P.length + 1 + c']? = some Y[c'] := by rw [← hPx]; exact idx_in (by omega)
    refine QV_of (fun w'' _ => Dat.ix rfl (by omega) w'') (QV_of (fun w'' hw => (h.calm hw).run_ld gc) (QV_of (fun w'' _ => Dat.ix rfl (by omega) w'') (QV_of (fun w'' hw => (h.calm hw).run_ld gx) ?_)))
    refine QC_ord (fun w1 w2 h1 h2 => h1.trans h2) (Qlss ?_)
    rw [ordV_lt]
    intro w'' hm''
    rw [slices_symMergeCmpFunc_queue_Message_R9_eq]; unfold slices_symMergeCmpFunc_queue_Message_R9_F
    simp only [sq_n, sq_x, sq_r, bk_n, bk_r, bk_x, rt_r, rt_n, rs_0, rs_t, pk_1, pk_2, up_at, reduceIte, Nat.reduceEqDiff]
    refine caseC (fun q => ?_) (fun q => ?_)
    · rw [BK_add, wrap_i (by omega) (by omega)]
      refine ⟨⟨c' + 1, j, by omega, hj, .inr ⟨Y[c'], by simp, q⟩, hj0, ⟨by first | exact hS.e0 | exact e0.symm, by first | exact hS.e1 | exact e1.symm, hS.e2, hS.e3, by first | exact hS.e4 | exact e4.symm⟩, ?_, q11, hm''⟩, ?_⟩
      · show Value.int .i64 _ = _
        congr 1 <;> omega
      · show (intOf (ρ' 11)).toNat - (intOf (.int .i64 _)).toNat < _
        rw [q11]
        simp only [intOf]
        omega
    · refine ⟨⟨i, c', by omega, by omega, hi0, .inr ⟨Y[c'], List.getElem?_eq_getElem (by omega), q⟩, ⟨by first | exact hS.e0 | exact e0.symm, by first | exact hS.e1 | exact e1.symm, hS.e2, hS.e3, by first | exact hS.e4 | exact e4.symm⟩, q10, ?_, hm''⟩, ?_⟩
      · show Value.int .i64 _ = _
        congr 1 <;> omega
      · show (intOf (.int .i64 _)).toNat - (intOf (ρ' 10)).toNat < _
        rw [q10]
        simp only [intOf]
        omega
  · rw [decide_eq_false (by omega)]
    refine condF ?_
    obtain rfl : i = j := by omega
    refine hk _ w' (Y.take i) (Y.drop i) (List.take_append_drop _ _).symm ?_ ?_ ⟨hS.e0, hS.e1, hS.e2, hS.e3, hS.e4⟩ ?_ (h.calm hm) hm
    · intro a ha
      obtain ⟨k, hk1, rfl⟩ := List.mem_take_iff_getElem.1 ha
      rcases hi0 with z | ⟨z, hz, hlt⟩
      · omega
      · cases hq : ltM Y[k] x with
        | true => rfl
        | false =>
          have := hY.le_at ltM_wo (i := k) (j := i - 1) (by omega) (List.getElem?_eq_getElem (by omega)) hz
          have := ltM_wo.tr x Y[k] z hq this
          rw [hlt] at this; cases this
    · intro b hb
      obtain ⟨k, hk1, rfl⟩ := List.mem_iff_getElem.1 hb
      rw [List.getElem_drop]
      rw [List.length_drop] at hk1
      rcases hj0 with z | ⟨z, hz, hlt⟩
      · omega
      · have := hY.le_at ltM_wo (i := i) (j := i + k) (by omega) hz (List.getElem?_eq_getElem (by omega))
        exact ltM_wo.tr x z _ hlt this
    · show ρ' 10 = _
      rw [q10, List.length_take, Nat.min_eq_left hj]
theorem sm_L10 {Y1 Z : List Ms} (h : Dat w g cap (P ++ (x :: (Y1 ++ Z)))) (hn : n = (P ++ (x :: (Y1 ++ Z))).length) (hl : n ≤ 1000000) (e0 : ρ 0 = dv g cap n) (e10 : ρ 10 = .int .i64 ((P.length : Int) + 1 + Y1.length)) (e13 : ρ 13 = .int .i64 P.length)
    (hk : ∀ ρ' w', Dat w' g cap (P ++ ((Y1 ++ [x]) ++ Z)) → Mod (fun b => b = g) w w' → K (.exit 2) ρ' w') : W fn_ Try.prog 220 (Code.loop slices_symMergeCmpFunc_queue_Message_L10) K ρ w := by
  subst hn
  have hll : (P ++ (x :: (Y1 ++ Z))).length = P.length + 1 + (Y1.length + Z.length) := by simp; omega
  refine W_loop slices_symMergeCmpFunc_queue_Message_L10_ok (fun ρ' w' => ∃ A B, Y1 = A ++ B ∧ ρ' 0 = dv g cap (P ++ (x :: (Y1 ++ Z))).length ∧ ρ' 10 = .int .i64 ((P.length : Int) + 1 + Y1.length) ∧ ρ' 13 = .int .i64 ((P.length : Int) + A.length) ∧ Dat w' g cap ((P ++ A) ++ x :: (B ++ Z)) ∧ Mod (fun b => b = g) w w') (fun ρ' _ => P.length + Y1.length - (intOf (ρ' 13)).toNat)
    ⟨[], Y1, rfl, e0, e10, by rw [e13]; simp, by simpa using h, Mod.refl _ _⟩ ?_
  rintro ρ' w' ⟨A, B, hA, q0, q10, q13, hD, hm⟩
  rw [slices_symMergeCmpFunc_queue_Message_L10_eq]; unfold slices_symMergeCmpFunc_queue_Message_L10_F
  have lA : Y1.length = A.length + B.length := by rw [hA, List.length_append]
  rw [q10, q13, BK_sub, wrap_i (by omega) (by omega), BK_lss]
  cases B with
  | nil =>
    simp only [List.length_nil] at lA
    rw [decide_eq_false (by omega)]
    refine condF ?_
    rw [sq_x]
    refine hk _ w' ?_ hm
    rw [List.append_nil] at hA
    subst hA
    simpa using hD
  | cons y B =>
    simp only [List.length_cons] at lA
    rw [decide_eq_true (by omega)]
    refine condT ?_
    refine slices_symMergeCmpFunc_queue_Message_R19_held (D := []) (fun _ => True) trivial ?_
    have hd : Mod none_ w' { w' with drawn := w'.drawn + 1 } := (Mod.refl _ w').drawn _
    generalize ({ w' with drawn := w'.drawn + 1 } : World) = wd at *
    unfold slices_symMergeCmpFunc_queue_Message_R19_H
    simp only [sq_n, sq_x, sq_r, bk_n, bk_r, bk_x, rt_r, rt_n, rs_0, rs_t, pk_1, pk_2, up_at, reduceIte, Nat.reduceEqDiff, q0, q13]
    have hDd := hD.calm hd
    have hlen : ((P ++ A) ++ x :: (y :: B ++ Z)).length = (P ++ (x :: (Y1 ++ Z))).length := by rw [hll]; simp; omega
    have hPA : (P ++ A).length = P.length + A.length := by simp
    have s1 : IntKind.i64.wrap ((P.length : Int) + A.length + 1) = ((P.length + A.length + 1 : Nat) : Int) := by rw [wrap_i (by omega) (by omega)]; omega
    refine Hadd (Hadd ?_)
    rw [s1, ← hlen]
    have gx : ((P ++ A) ++ x :: (y :: B ++ Z))[P.length + A.length]? = some x := by rw [← hPA]; exact get_mid
    have gy : ((P ++ A) ++ x :: (y :: B ++ Z))[P.length + A.length + 1]? = some y := by rw [← hPA]; exact get_mid2
    refine HV_of (fun w'' _ => Dat.ix rfl (by omega) w'') (HV_of (fun w'' _ => Dat.ix (i := P.length + A.length) (by omega) (by omega) w'') ?_)
    have fin : ∀ {K' : Value → Value → Value → World → Prop}, (∀ x51 x52 w', Dat w' g cap ((P ++ A) ++ y :: (x :: (B ++ Z))) → Mod (fun b => b = g) w w' → K' x51 x52 undef w') →
        HK Try.prog (fun _ => True) (do pure (Next.value (← Instr.indexAt tMsS (dv g cap ((P ++ A) ++ x :: (y :: B ++ Z)).length) (.int .i64 ((P.length : Int) + A.length))))) fun x51 => UK Try.prog (Instr.storeAt tMs x51 (.agg y.enc.toArray)) wd fun _ w => True ∧ (HK Try.prog (fun _ => True) (do pure (Next.value (← Instr.indexAt tMsS (dv g cap ((P ++ A) ++ x :: (y :: B ++ Z)).length) (.int .i64 ((P.length + A.length + 1 : Nat) : Int))))) fun x52 => UK Try.prog (Instr.storeAt tMs x52 (.agg x.enc.toArray)) w fun z w => True ∧ K' x51 x52 z w) := fun {K'} hK => by
      refine HV_of (fun w' _ => Dat.ix (i := P.length + A.length) (by omega) (by omega) w') (hDd.st (by omega) fun w1 h1 hm1 hz1 => ⟨trivial, ?_⟩)
      refine HV_of (fun w' _ => Dat.ix (i := P.length + A.length + 1) rfl (by omega) w') (h1.st (by rw [List.length_set]; omega) fun w2 h2 hm2 hz2 => ⟨trivial, ?_⟩)
      rw [← hPA] at h2
      have := swap_mid' (A := P ++ A) (B := B ++ Z) (x := y) (y := x)
      rw [show (P ++ A) ++ x :: (y :: B ++ Z) = (P ++ A) ++ x :: y :: (B ++ Z) by simp, this] at h2
      exact hK _ _ w2 h2 (((hm.trans (hd.mono fun _ _ z => z.elim)).trans hm1).trans hm2)
    refine ⟨hDd.ld gy ⟨trivial, hDd.ld gx ⟨trivial, ?_⟩⟩, hDd.ld gx ⟨trivial, hDd.ld gy ⟨trivial, ?_⟩⟩⟩
    · refine fin fun _ _ w4 hD4 hm4 => ?_
      rw [slices_symMergeCmpFunc_queue_Message_R20_eq]; unfold slices_symMergeCmpFunc_queue_Message_R20_F
      simp only [sq_n, sq_x, sq_r, bk_n, bk_r, bk_x, rt_r, rt_n, rs_0, rs_t, pk_1, pk_2, up_at, reduceIte, Nat.reduceEqDiff, q13]
      rw [BK_add, wrap_i (by omega) (by omega)]
      refine ⟨⟨A ++ [y], B, by rw [hA]; simp, ?_, q10, ?_, by simpa using hD4, hm4⟩, ?_⟩
      · first | rfl | exact q0 | (rw [hlen]; exact q0) | (show dv g cap _ = _; rw [hlen])
      · show Value.int .i64 _ = _
        congr 1; simp; omega
      · show P.length + Y1.length - (intOf (.int .i64 _)).toNat < _
        simp only [intOf]
        omega
    · refine fin fun _ _ w4 hD4 hm4 => ?_
      rw [slices_symMergeCmpFunc_queue_Message_R20_eq]; unfold slices_symMergeCmpFunc_queue_Message_R20_F
      simp only [sq_n, sq_x, sq_r, bk_n, bk_r, bk_x, rt_r, rt_n, rs_0, rs_t, pk_1, pk_2, up_at, reduceIte, Nat.reduceEqDiff, q13]
      rw [BK_add, wrap_i (by omega) (by omega)]
      refine ⟨⟨A ++ [y], B, by rw [hA]; simp, ?_, q10, ?_, by simpa using hD4, hm4⟩, ?_⟩
      · first | rfl | exact q0 | (rw [hlen]; exact q0) | (show dv g cap _ = _; rw [hlen])
      · show Value.int .i64 _ = _
        congr 1; simp; omega
      · show P.length + Y1.length - (intOf (.int .i64 _)).toNat < _
        simp only [intOf]
        omega
end
end Go.Proofs.Ytmnkedgmpbcicaa.Que
set_option linter.unusedVariables false
set_option linter.unusedSimpArgs false
set_option maxRecDepth 4000
namespace Go.Proofs.Ytmnkedgmpbcicaa.Que
open Go Go.X Go.RowKit Go.Proofs.Ytmnkedgmpbcicaa.XF Go.Proofs.Ytmnkedgmpbcicaa.XK
section
variable {w : World} {g cap n : Nat} {K : Exit → Sl → World → Prop} {ρ : Sl} {P X Y R : List Ms} {x y : Ms}
theorem sm_L3 (h : Dat w g cap (P ++ (X ++ (y :: R)))) (hn : n = (P ++ (X ++ (y :: R))).length) (hl : n ≤ 1000000) (hX : SortedL ltM X) (e0 : ρ 0 = dv g cap n) (e2 : ρ 2 = .int .i64 ((P.length : Int) + X.length)) (e4 : ρ 4 = ordF) (e14 : ρ 14 = .int .i64 P.length) (e15 : ρ 15 = .int .i64 ((P.length : Int) + X.length))
    (hk : ∀ ρ' w' X1 X2, X = X1 ++ X2 → (∀ a ∈ X1, ltM y a = false) → (∀ b ∈ X2, ltM y b = true) → SG ρ ρ' → ρ' 14 = .int .i64 ((P.length : Int) + X1.length) → Dat w' g cap (P ++ (X ++ (y :: R))) → Mod none_ w w' → K (.exit 4) ρ' w') :
    W fn_ Try.prog 220 (Code.loop slices_symMergeCmpFunc_queue_Message_L3) K ρ w := by
  subst hn
  have hll : (P ++ (X ++ (y :: R))).length = P.length + (X.length + (R.length + 1)) := by simp
  refine W_loop slices_symMergeCmpFunc_queue_Message_L3_ok (fun ρ' w' => ∃ i j : Nat, i ≤ j ∧ j ≤ X.length ∧ (i = 0 ∨ ∃ z, X[i - 1]? = some z ∧ ltM y z = false) ∧ (j = X.length ∨ ∃ z, X[j]? = some z ∧ ltM y z = true) ∧ SG ρ ρ' ∧ ρ' 14 = .int .i64 ((P.length : Int) + i) ∧ ρ' 15 = .int .i64 ((P.length : Int) + j) ∧ Mod none_ w w') (fun ρ' _ => (intOf (ρ' 15)).toNat - (intOf (ρ' 14)).toNat)
    ⟨0, X.length, by omega, by omega, .inl rfl, .inl rfl, SG.rfl', by rw [e14]; simp, e15, Mod.refl _ _⟩ ?_
  rintro ρ' w' ⟨i, j, hij, hj, hi0, hj0, hS, q14, q15, hm⟩
  rw [slices_symMergeCmpFunc_queue_Message_L3_eq]; unfold slices_symMergeCmpFunc_queue_Message_L3_F
  rw [q14, q15, BK_lss]
  by_cases c : i < j
  · rw [decide_eq_true (by omega)]
    refine condT ?_
    rw [BK_add, wrap_i (by omega) (by omega)]
    refine half_k (by omega) (by omega) fun _ _ => ?_
    have hh : ((P.length : Int) + i + ((P.length : Int) + j)) / 2 = ((P.length + (i + j) / 2 : Nat) : Int) := by omega
    rw [hh]
    generalize hc : (i + j) / 2 = c' at *
    have hc1 : i ≤ c' ∧ c' < j := by omega
    have q0 := hS.e0.trans e0
    have q2 := hS.e2.trans e2
    have q4 := hS.e4.trans e4
    refine slices_symMergeCmpFunc_queue_Message_R13_quiet (D := []) (fun w'' => Mod none_ w w'') (hm.drawn _) ?_
    unfold slices_symMergeCmpFunc_queue_Message_R13_Q
    simp only [sq_n, sq_x, sq_r, bk_n, bk_r, bk_x, rt_r, rt_n, rs_0, rs_t, pk_1, pk_2, up_at, reduceIte, Nat.reduceEqDiff, q0, q2, q4]
    have gy : (P ++ (X ++ (y :: R)))[P.length + X.length]? = some y := by rw [← List.append_assoc, ← List.length_append]; exact get_mid
    have gc : (P ++ (X ++ (y :: R)))[P.length + c']? = some X[c'] := idx_in (by omega)
    refine QV_of (fun w'' _ => Dat.ix (i := P.length + X.length) (by omega) (by omega) w'') (QV_of (fun w'' hw => (h.calm hw).run_ld gy) (QV_of (fun w'' _ => Dat.ix rfl (by omega) w'') (QV_of (fun w'' hw => (h.calm hw).run_ld gc) ?_)))
    refine QC_ord (fun w1 w2 h1 h2 => h1.trans h2) (Qlss ?_)
    rw [ordV_lt]
    refine QV_of (v := .bool (!ltM y X[c'])) (fun w'' _ => by cases ltM y X[c'] <;> rfl) ?_
    intro w'' hm''
    rw [slices_symMergeCmpFunc_queue_Message_R14_eq]; unfold slices_symMergeCmpFunc_queue_Message_R14_F
    simp only [sq_n, sq_x, sq_r, bk_n, bk_r, bk_x, rt_r, rt_n, rs_0, rs_t, pk_1, pk_2, up_at, reduceIte, Nat.reduceEqDiff]
    refine caseC (fun q => ?_) (fun q => ?_)
    · rw [BK_add, wrap_i (by omega) (by omega)]
      refine ⟨⟨c' + 1, j, by omega, hj, .inr ⟨X[c'], by simp, by simpa using q⟩, hj0, ⟨by first | exact hS.e0 | exact e0.symm, hS.e1, by first | exact hS.e2 | exact e2.symm, hS.e3, by first | exact hS.e4 | exact e4.symm⟩, ?_, q15, hm''⟩, ?_⟩
      · show Value.int .i64 _ = _
        congr 1 <;> omega
      · show (intOf (ρ' 15)).toNat - (intOf (.int .i64 _)).toNat < _
        rw [q15]
        simp only [intOf]
        omega
    · refine ⟨⟨i, c', by omega, by omega, hi0, .inr ⟨X[c'], List.getElem?_eq_getElem (by omega), by simpa using q⟩, ⟨by first | exact hS.e0 | exact e0.symm, hS.e1, by first | exact hS.e2 | exact e2.symm, hS.e3, by first | exact hS.e4 | exact e4.symm⟩, q14, ?_, hm''⟩, ?_⟩
      · show Value.int .i64 _ = _
        congr 1 <;> omega
      · show (intOf (.int .i64 _)).toNat - (intOf (ρ' 14)).toNat < _
        rw [q14]
        simp only [intOf]
        omega
  · rw [decide_eq_false (by omega)]
    refine condF ?_
    obtain rfl : i = j := by omega
    refine hk _ w' (X.take i) (X.drop i) (List.take_append_drop _ _).symm ?_ ?_ ⟨hS.e0, hS.e1, hS.e2, hS.e3, hS.e4⟩ ?_ (h.calm hm) hm
    · intro a ha
      obtain ⟨k, hk1, rfl⟩ := List.mem_take_iff_getElem.1 ha
      rcases hi0 with z | ⟨z, hz, hlt⟩
      · omega
      · have := hX.le_at ltM_wo (i := k) (j := i - 1) (by omega) (List.getElem?_eq_getElem (by omega)) hz
        exact ltM_wo.tr _ z y this hlt
    · intro b hb
      obtain ⟨k, hk1, rfl⟩ := List.mem_iff_getElem.1 hb
      rw [List.getElem_drop]
      rw [List.length_drop] at hk1
      rcases hj0 with z | ⟨z, hz, hlt⟩
      · omega
      · have := hX.le_at ltM_wo (i := i) (j := i + k) (by omega) hz (List.getElem?_eq_getElem (by omega))
        cases hq : ltM y X[i + k] with
        | true => rfl
        | false =>
          have := ltM_wo.tr z _ y this hq
          rw [hlt] at this; cases this
    · show ρ' 14 = _
      rw [q14, List.length_take, Nat.min_eq_left hj]
theorem sm_L15 {X1 X2 : List Ms} (h : Dat w g cap (P ++ (X1 ++ (X2 ++ (y :: R))))) (hn : n = (P ++ (X1 ++ (X2 ++ (y :: R)))).length) (hl : n ≤ 1000000) (e0 : ρ 0 = dv g cap n) (e14 : ρ 14 = .int .i64 ((P.length : Int) + X1.length)) (e17 : ρ 17 = .int .i64 ((P.length : Int) + X1.length + X2.length))
    (hk : ∀ ρ' w', Dat w' g cap (P ++ ((X1 ++ (y :: X2)) ++ R)) → Mod (fun b => b = g) w w' → K (.exit 6) ρ' w') : W fn_ Try.prog 220 (Code.loop slices_symMergeCmpFunc_queue_Message_L15) K ρ w := by
  subst hn
  have hll : (P ++ (X1 ++ (X2 ++ (y :: R)))).length = P.length + (X1.length + (X2.length + (R.length + 1))) := by simp
  refine W_loop slices_symMergeCmpFunc_queue_Message_L15_ok (fun ρ' w' => ∃ A B, X2 = A ++ B ∧ ρ' 0 = dv g cap (P ++ (X1 ++ (X2 ++ (y :: R)))).length ∧ ρ' 14 = .int .i64 ((P.length : Int) + X1.length) ∧ ρ' 17 = .int .i64 ((P.length : Int) + X1.length + A.length) ∧ Dat w' g cap ((P ++ X1 ++ A) ++ y :: (B ++ R)) ∧ Mod (fun b => b = g) w w') (fun ρ' _ => (intOf (ρ' 17)).toNat)
    ⟨X2, [], by simp, e0, e14, e17, by simpa using h, Mod.refl _ _⟩ ?_
  rintro ρ' w' ⟨A, B, hA, q0, q14, q17, hD, hm⟩
  rw [slices_symMergeCmpFunc_queue_Message_L15_eq]; unfold slices_symMergeCmpFunc_queue_Message_L15_F
  have lA : X2.length = A.length + B.length := by rw [hA, List.length_append]
  rw [q14, q17, BK_gtr]
  rcases List.eq_nil_or_concat A with rfl | ⟨A', z, hz⟩
  · simp only [List.length_nil] at lA
    rw [decide_eq_false (by simp)]
    refine condF ?_
    rw [sq_x]
    refine hk _ w' ?_ hm
    rw [List.nil_append] at hA
    subst hA
    simpa using hD
  · have hz' : A = A' ++ [z] := by simpa using hz
    subst hz'
    have lA' : (A' ++ [z]).length = A'.length + 1 := by simp
    rw [decide_eq_true (by omega)]
    refine condT ?_
    refine slices_symMergeCmpFunc_queue_Message_R21_held (D := []) (fun _ => True) trivial ?_
    have hd : Mod none_ w' { w' with drawn := w'.drawn + 1 } := (Mod.refl _ w').drawn _
    generalize ({ w' with drawn := w'.drawn + 1 } : World) = wd at *
    unfold slices_symMergeCmpFunc_queue_Message_R21_H
    simp only [sq_n, sq_x, sq_r, bk_n, bk_r, bk_x, rt_r, rt_n, rs_0, rs_t, pk_1, pk_2, up_at, reduceIte, Nat.reduceEqDiff, q0, q17]
    have eL : (P ++ X1 ++ (A' ++ [z])) ++ y :: (B ++ R) = (P ++ X1 ++ A') ++ z :: y :: (B ++ R) := by simp
    have hDd := hD.calm hd
    rw [eL] at hDd
    have hlen : ((P ++ X1 ++ A') ++ z :: y :: (B ++ R)).length = (P ++ (X1 ++ (X2 ++ (y :: R)))).length := by rw [hll]; simp only [List.length_append, List.length_cons]; omega
    have hPA : (P ++ X1 ++ A').length = P.length + X1.length + A'.length := by simp; omega
    have s1 : IntKind.i64.wrap ((P.length : Int) + X1.length + ((A' ++ [z]).length : Nat) - 1) = ((P.length + X1.length + A'.length : Nat) : Int) := by rw [wrap_i (by omega) (by omega)]; omega
    refine Hsub (Hsub ?_)
    rw [s1, ← hlen]
    have gz : ((P ++ X1 ++ A') ++ z :: y :: (B ++ R))[P.length + X1.length + A'.length]? = some z := by rw [← hPA]; exact get_mid
    have gy : ((P ++ X1 ++ A') ++ z :: y :: (B ++ R))[P.length + X1.length + A'.length + 1]? = some y := by rw [← hPA]; exact get_mid2
    refine HV_of (fun w'' _ => Dat.ix rfl (by omega) w'') (HV_of (fun w'' _ => Dat.ix (i := P.length + X1.length + A'.length + 1) (by omega) (by omega) w'') ?_)
    have fin : ∀ {K' : Value → Value → Value → World → Prop}, (∀ x51 x52 w', Dat w' g cap ((P ++ X1 ++ A') ++ y :: (z :: B ++ R)) → Mod (fun b => b = g) w w' → K' x51 x52 undef w') →
        HK Try.prog (fun _ => True) (do pure (Next.value (← Instr.indexAt tMsS (dv g cap ((P ++ X1 ++ A') ++ z :: y :: (B ++ R)).length) (.int .i64 ((P.length : Int) + X1.length + ((A' ++ [z]).length : Nat)))))) fun x51 => UK Try.prog (Instr.storeAt tMs x51 (.agg z.enc.toArray)) wd fun _ w => True ∧ (HK Try.prog (fun _ => True) (do pure (Next.value (← Instr.indexAt tMsS (dv g cap ((P ++ X1 ++ A') ++ z :: y :: (B ++ R)).length) (.int .i64 ((P.length + X1.length + A'.length : Nat) : Int))))) fun x52 => UK Try.prog (Instr.storeAt tMs x52 (.agg y.enc.toArray)) w fun u w => True ∧ K' x51 x52 u w) := fun {K'} hK => by
      refine HV_of (fun w' _ => Dat.ix (i := P.length + X1.length + A'.length + 1) (by omega) (by omega) w') (hDd.st (by omega) fun w1 h1 hm1 hz1 => ⟨trivial, ?_⟩)
      refine HV_of (fun w' _ => Dat.ix (i := P.length + X1.length + A'.length) rfl (by omega) w') (h1.st (by rw [List.length_set]; omega) fun w2 h2 hm2 hz2 => ⟨trivial, ?_⟩)
      rw [← hPA, swap_mid] at h2
      exact hK _ _ w2 (by simpa using h2) (((hm.trans (hd.mono fun _ _ z => z.elim)).trans hm1).trans hm2)
    refine ⟨hDd.ld gz ⟨trivial, hDd.ld gy ⟨trivial, ?_⟩⟩, hDd.ld gy ⟨trivial, hDd.ld gz ⟨trivial, ?_⟩⟩⟩
    · refine fin fun _ _ w4 hD4 hm4 => ?_
      rw [slices_symMergeCmpFunc_queue_Message_R22_eq]; unfold slices_symMergeCmpFunc_queue_Message_R22_F
      simp only [sq_n, sq_x, sq_r, bk_n, bk_r, bk_x, rt_r, rt_n, rs_0, rs_t, pk_1, pk_2, up_at, reduceIte, Nat.reduceEqDiff, q17]
      rw [BK_sub, wrap_i (by omega) (by omega)]
      refine ⟨⟨A', z :: B, by rw [hA]; simp, ?_, q14, ?_, hD4, hm4⟩, ?_⟩
      · first | rfl | exact q0 | (rw [hlen]; exact q0) | (show dv g cap _ = _; rw [hlen])
      · show Value.int .i64 _ = _
        congr 1; omega
      · show (intOf (.int .i64 _)).toNat < _
        simp only [intOf]
        omega
    · refine fin fun _ _ w4 hD4 hm4 => ?_
      rw [slices_symMergeCmpFunc_queue_Message_R22_eq]; unfold slices_symMergeCmpFunc_queue_Message_R22_F
      simp only [sq_n, sq_x, sq_r, bk_n, bk_r, bk_x, rt_r, rt_n, rs_0, rs_t, pk_1, pk_2, up_at, reduceIte, Nat.reduceEqDiff, q17]
      rw [BK_sub, wrap_i (by omega) (by omega)]
      refine ⟨⟨A', z :: B, by rw [hA]; simp, ?_, q14, ?_, hD4, hm4⟩, ?_⟩
      · first | rfl | exact q0 | (rw [hlen]; exact q0) | (show dv g cap _ = _; rw [hlen])
      · show Value.int .i64 _ = _
        congr 1; omega
      · show (intOf (.int .i64 _)).toNat < _
        simp only [intOf]
        omega
theorem sm_L17 {lo hi N : Nat} (h : Dat w g cap (P ++ (X ++ (Y ++ R)))) (hn : n = (P ++ (X ++ (Y ++ R))).length) (hl : n ≤ 1000000) (e0 : ρ 0 = dv g cap n) (e4 : ρ 4 = ordF) (e20 : ρ 20 = .int .i64 lo) (e21 : ρ 21 = .int .i64 hi) (e22 : ρ 22 = .int .i64 ((N : Int) - 1)) (hlh : lo ≤ hi)
    (h1 : P.length ≤ lo) (h2 : hi ≤ P.length + X.length) (h3 : ∀ c, lo ≤ c → c < hi → P.length + X.length + c + 1 ≤ N ∧ N ≤ P.length + X.length + Y.length + c)
    (hk : ∀ ρ' w' s, lo ≤ s → s ≤ hi → (s = lo ∨ ∃ u v, X[s - 1 - P.length]? = some u ∧ Y[N - s - (P.length + X.length)]? = some v ∧ ltM v u = false) → (s = hi ∨ ∃ u v, X[s - P.length]? = some u ∧ Y[N - 1 - s - (P.length + X.length)]? = some v ∧ ltM v u = true) → SG ρ ρ' → ρ' 18 = ρ 18 → ρ' 19 = ρ 19 → ρ' 20 = .int .i64 s → Dat w' g cap (P ++ (X ++ (Y ++ R))) → Mod none_ w w' → K (.exit 8) ρ' w') :
    W fn_ Try.prog 220 (Code.loop slices_symMergeCmpFunc_queue_Message_L17) K ρ w := by
  subst hn
  have hll : (P ++ (X ++ (Y ++ R))).length = P.length + (X.length + (Y.length + R.length)) := by simp
  refine W_loop slices_symMergeCmpFunc_queue_Message_L17_ok (fun ρ' w' => ∃ i j : Nat, i ≤ j ∧ lo ≤ i ∧ j ≤ hi ∧ (i = lo ∨ ∃ u v, X[i - 1 - P.length]? = some u ∧ Y[N - i - (P.length + X.length)]? = some v ∧ ltM v u = false) ∧ (j = hi ∨ ∃ u v, X[j - P.length]? = some u ∧ Y[N - 1 - j - (P.length + X.length)]? = some v ∧ ltM v u = true) ∧ SG ρ ρ' ∧ ρ' 18 = ρ 18 ∧ ρ' 19 = ρ 19 ∧ ρ' 20 = .int .i64 i ∧ ρ' 21 = .int .i64 j ∧ ρ' 22 = .int .i64 ((N : Int) - 1) ∧ Mod none_ w w') (fun ρ' _ => (intOf (ρ' 21)).toNat - (intOf (ρ' 20)).toNat)
    ⟨lo, hi, hlh, by omega, by omega, .inl rfl, .inl rfl, SG.rfl', rfl, rfl, e20, e21, e22, Mod.refl _ _⟩ ?_
  rintro ρ' w' ⟨i, j, hij, hi1, hj1, hi0, hj0, hS, q18, q19, q20, q21, q22, hm⟩
  rw [slices_symMergeCmpFunc_queue_Message_L17_eq]; unfold slices_symMergeCmpFunc_queue_Message_L17_F
  rw [q20, q21, BK_lss]
  by_cases c : i < j
  · rw [decide_eq_true (by omega)]
    refine condT ?_
    rw [BK_add, wrap_i (by omega) (by omega)]
    refine half_k (by omega) (by omega) fun _ _ => ?_
    have hh : ((i : Int) + j) / 2 = (((i + j) / 2 : Nat) : Int) := by omega
    rw [hh]
    generalize hc : (i + j) / 2 = c' at *
    have hc1 : i ≤ c' ∧ c' < j := by omega
    obtain ⟨b1, b2⟩ := h3 c' (by omega) (by omega)
    have q0 := hS.e0.trans e0
    have q4 := hS.e4.trans e4
    refine slices_symMergeCmpFunc_queue_Message_R23_quiet (D := []) (fun w'' => Mod none_ w w'') (hm.drawn _) ?_
    unfold slices_symMergeCmpFunc_queue_Message_R23_Q
    simp only [sq_n, sq_x, sq_r, bk_n, bk_r, bk_x, rt_r, rt_n, rs_0, rs_t, pk_1, pk_2, up_at, reduceIte, Nat.reduceEqDiff, q0, q22, q4]
    have gx : (P ++ (X ++ (Y ++ R)))[c']? = some X[c' - P.length] := by
      have := idx_in (A := P) (Y := X) (R := Y ++ R) (k := c' - P.length) (by omega)
      rw [show P.length + (c' - P.length) = c' by omega] at this; exact this
    have gy : (P ++ (X ++ (Y ++ R)))[N - 1 - c']? = some Y[N - 1 - c' - (P.length + X.length)] := by
      have := idx_in (A := P ++ X) (Y := Y) (R := R) (k := N - 1 - c' - (P.length + X.length)) (by omega)
      rw [List.length_append, show P.length + X.length + (N - 1 - c' - (P.length + X.length)) = N - 1 - c' by omega, List.append_assoc] at this; exact this
    refine Qsub ?_
    rw [wrap_i (by omega) (by omega)]
    refine QV_of (fun w'' _ => Dat.ix (i := N - 1 - c') (by omega) (by omega) w'') (QV_of (fun w'' hw => (h.calm hw).run_ld gy) (QV_of (fun w'' _ => Dat.ix (i := c') rfl (by omega) w'') (QV_of (fun w'' hw => (h.calm hw).run_ld gx) ?_)))
    refine QC_ord (fun w1 w2 h1 h2 => h1.trans h2) (Qlss ?_)
    rw [ordV_lt]
    refine QV_of (v := .bool (!ltM Y[N - 1 - c' - (P.length + X.length)] X[c' - P.length])) (fun w'' _ => by cases ltM Y[N - 1 - c' - (P.length + X.length)] X[c' - P.length] <;> rfl) ?_
    intro w'' hm''
    rw [slices_symMergeCmpFunc_queue_Message_R24_eq]; unfold slices_symMergeCmpFunc_queue_Message_R24_F
    simp only [sq_n, sq_x, sq_r, bk_n, bk_r, bk_x, rt_r, rt_n, rs_0, rs_t, pk_1, pk_2, up_at, reduceIte, Nat.reduceEqDiff]
    refine caseC (fun q => ?_) (fun q => ?_)
    · rw [BK_add, wrap_i (by omega) (by omega)]
      refine ⟨⟨c' + 1, j, by omega, by omega, hj1, .inr ⟨X[c' - P.length], Y[N - 1 - c' - (P.length + X.length)], ?_, ?_, by simpa using q⟩, hj0, ⟨by first | exact hS.e0 | exact e0.symm, hS.e1, hS.e2, hS.e3, by first | exact hS.e4 | exact e4.symm⟩, q18, q19, ?_, q21, q22, hm''⟩, ?_⟩
      · rw [Nat.add_sub_cancel]; exact List.getElem?_eq_getElem (by omega)
      · rw [show N - (c' + 1) = N - 1 - c' by omega]; exact List.getElem?_eq_getElem (by omega)
      · show Value.int .i64 _ = _
        congr 1
      · show (intOf (ρ' 21)).toNat - (intOf (.int .i64 _)).toNat < _
        rw [q21]
        simp only [intOf]
        omega
    · refine ⟨⟨i, c', by omega, hi1, by omega, hi0, .inr ⟨X[c' - P.length], Y[N - 1 - c' - (P.length + X.length)], List.getElem?_eq_getElem (by omega), List.getElem?_eq_getElem (by omega), by simpa using q⟩, ⟨by first | exact hS.e0 | exact e0.symm, hS.e1, hS.e2, hS.e3, by first | exact hS.e4 | exact e4.symm⟩, q18, q19, q20, rfl, q22, hm''⟩, ?_⟩
      · show (intOf (.int .i64 _)).toNat - (intOf (ρ' 20)).toNat < _
        rw [q20]
        simp only [intOf]
        omega
  · rw [decide_eq_false (by omega)]
    refine condF ?_
    obtain rfl : i = j := by omega
    exact hk _ w' i hi1 hj1 hi0 hj0 ⟨hS.e0, hS.e1, hS.e2, hS.e3, hS.e4⟩ q18 q19 q20 (h.calm hm) hm
end
end Go.Proofs.Ytmnkedgmpbcicaa.Que
set_option linter.unusedVariables false
set_option linter.unusedSimpArgs false
set_option maxRecDepth 4000
namespace Go.Proofs.Ytmnkedgmpbcicaa.Que
open Go Go.X Go.RowKit Go.Proofs.Ytmnkedgmpbcicaa.XF Go.Proofs.Ytmnkedgmpbcicaa.XK
def SmP (g cap : Nat) (P X Y R : List Ms) (w w' : World) : Prop := ∃ S, Stab ltM (X ++ Y) S ∧ Dat w' g cap (P ++ (S ++ R)) ∧ Mod (fun b => b = g) w w'
def SmC (g cap N : Nat) : Prop := ∀ {w : World} {P X Y R : List Ms} {n : Nat} {a m b : Int}, X.length + Y.length ≤ N → Dat w g cap (P ++ (X ++ (Y ++ R))) → n = (P ++ (X ++ (Y ++ R))).length → n ≤ 1000000 → SortedL ltM X → SortedL ltM Y → 0 < X.length → 0 < Y.length → a = (P.length : Int) → m = a + X.length → b = m + Y.length →
  Rt Try.prog 83 #[dv g cap n, .int .i64 a, .int .i64 m, .int .i64 b, ordF] w fun _ w' => SmP g cap P X Y R w w'
section
variable {w : World} {g cap n N : Nat} {K : Exit → Sl → World → Prop} {ρ : Sl} {P X Y R : List Ms}
theorem sorted_one (h : SortedL ltM X) (k : SortedL ltM Y) (e : X = [] ∨ Y = []) : Stab ltM (X ++ Y) (X ++ Y) := by
  refine Stab.refl ?_
  rcases e with rfl | rfl
  · simpa using k
  · simpa using h
theorem sm_R26 {mid e b : Int} (ih : SmC g cap N) (hN : X.length + Y.length ≤ N) (h : Dat w g cap (P ++ (X ++ (Y ++ R)))) (hn : n = (P ++ (X ++ (Y ++ R))).length) (hl : n ≤ 1000000) (hX : SortedL ltM X) (hY : SortedL ltM Y) (e1 : mid = (P.length : Int)) (e2 : e = mid + X.length) (e3 : b = e + Y.length)
    (q0 : ρ 0 = dv g cap n) (q18 : ρ 18 = .int .i64 mid) (q24 : ρ 24 = .int .i64 e) (q3 : ρ 3 = .int .i64 b) (q4 : ρ 4 = ordF) (hk : ∀ ρ' w', SmP g cap P X Y R w w' → K .normal ρ' w') : sx fn_ Try.prog 220 slices_symMergeCmpFunc_queue_Message_R26 K ρ w := by
  rw [slices_symMergeCmpFunc_queue_Message_R26_eq]; unfold slices_symMergeCmpFunc_queue_Message_R26_F
  rw [q18, q24, q3, q0, q4]
  have no : X = [] ∨ Y = [] → SmP g cap P X Y R w w := fun z => ⟨X ++ Y, sorted_one hX hY z, by simpa using h, Mod.refl _ _⟩
  by_cases c1 : mid < e
  · simp only [↓VG_u, ↓UG_u, ↓MG_u, ↓NG_u, ↓PG_u, ↓BG_u, ↓CG_u, ↓IG_u, ↓VGtt, ↓VGtf, ↓VGft, ↓VGff, ↓UGtt, ↓UGtf, ↓UGft, ↓UGff, ↓MGtt, ↓MGtf, ↓MGft, ↓MGff, ↓NGtt, ↓NGtf, ↓NGft, ↓NGff, ↓PGtt, ↓PGtf, ↓PGft, ↓PGff, ↓BGtt, ↓BGtf, ↓BGft, ↓BGff, ↓CGtt, ↓CGtf, ↓CGft, ↓CGff, ↓IGtt, ↓IGtf, ↓IGft, ↓IGff, ↓PKt, ↓PKf, ↓CDt, ↓CDf, ↓NOTt, ↓NOTf, ↓NK_ptr, ↓LTt c1]
    by_cases c2 : e < b
    · simp only [↓VG_u, ↓UG_u, ↓MG_u, ↓NG_u, ↓PG_u, ↓BG_u, ↓CG_u, ↓IG_u, ↓VGtt, ↓VGtf, ↓VGft, ↓VGff, ↓UGtt, ↓UGtf, ↓UGft, ↓UGff, ↓MGtt, ↓MGtf, ↓MGft, ↓MGff, ↓NGtt, ↓NGtf, ↓NGft, ↓NGff, ↓PGtt, ↓PGtf, ↓PGft, ↓PGff, ↓BGtt, ↓BGtf, ↓BGft, ↓BGff, ↓CGtt, ↓CGtf, ↓CGft, ↓CGff, ↓IGtt, ↓IGtf, ↓IGft, ↓IGff, ↓PKt, ↓PKf, ↓CDt, ↓CDf, ↓NOTt, ↓NOTf, ↓NK_ptr, ↓LTt c2]
      refine CK_st Try.func83 rfl rfl (ih hN h hn hl hX hY (by omega) (by omega) e1 e2 e3) ?_
      rintro _ w' hP
      exact hk _ w' hP
    · simp only [↓VG_u, ↓UG_u, ↓MG_u, ↓NG_u, ↓PG_u, ↓BG_u, ↓CG_u, ↓IG_u, ↓VGtt, ↓VGtf, ↓VGft, ↓VGff, ↓UGtt, ↓UGtf, ↓UGft, ↓UGff, ↓MGtt, ↓MGtf, ↓MGft, ↓MGff, ↓NGtt, ↓NGtf, ↓NGft, ↓NGff, ↓PGtt, ↓PGtf, ↓PGft, ↓PGff, ↓BGtt, ↓BGtf, ↓BGft, ↓BGff, ↓CGtt, ↓CGtf, ↓CGft, ↓CGff, ↓IGtt, ↓IGtf, ↓IGft, ↓IGff, ↓PKt, ↓PKf, ↓CDt, ↓CDf, ↓NOTt, ↓NOTf, ↓NK_ptr, ↓LTf (Int.not_lt.1 c2)]
      exact hk _ w (no (.inr (List.eq_nil_of_length_eq_zero (by omega))))
  · simp only [↓VG_u, ↓UG_u, ↓MG_u, ↓NG_u, ↓PG_u, ↓BG_u, ↓CG_u, ↓IG_u, ↓VGtt, ↓VGtf, ↓VGft, ↓VGff, ↓UGtt, ↓UGtf, ↓UGft, ↓UGff, ↓MGtt, ↓MGtf, ↓MGft, ↓MGff, ↓NGtt, ↓NGtf, ↓NGft, ↓NGff, ↓PGtt, ↓PGtf, ↓PGft, ↓PGff, ↓BGtt, ↓BGtf, ↓BGft, ↓BGff, ↓CGtt, ↓CGtf, ↓CGft, ↓CGff, ↓IGtt, ↓IGtf, ↓IGft, ↓IGff, ↓PKt, ↓PKf, ↓CDt, ↓CDf, ↓NOTt, ↓NOTf, ↓NK_ptr, ↓LTf (Int.not_lt.1 c1)]
    exact hk _ w (no (.inl (List.eq_nil_of_length_eq_zero (by omega))))
theorem sm_R25 {X1 Y1 X2 Y2 : List Ms} {a s mid e b : Int} (ih : SmC g cap N) (hN1 : X1.length + Y1.length ≤ N) (hN2 : X2.length + Y2.length ≤ N) (h : Dat w g cap (P ++ (X1 ++ (Y1 ++ (X2 ++ (Y2 ++ R)))))) (hn : n = (P ++ (X1 ++ (Y1 ++ (X2 ++ (Y2 ++ R))))).length) (hl : n ≤ 1000000) (hX1 : SortedL ltM X1) (hY1 : SortedL ltM Y1) (hX2 : SortedL ltM X2) (hY2 : SortedL ltM Y2)
    (e0 : a = (P.length : Int)) (e1 : s = a + X1.length) (e2 : mid = s + Y1.length) (e3 : e = mid + X2.length) (e4 : b = e + Y2.length)
    (q0 : ρ 0 = dv g cap n) (q1 : ρ 1 = .int .i64 a) (q20 : ρ 20 = .int .i64 s) (q18 : ρ 18 = .int .i64 mid) (q24 : ρ 24 = .int .i64 e) (q3 : ρ 3 = .int .i64 b) (q4 : ρ 4 = ordF)
    (hk : ∀ ρ' w' S1 S2, Stab ltM (X1 ++ Y1) S1 → Stab ltM (X2 ++ Y2) S2 → Dat w' g cap (P ++ ((S1 ++ S2) ++ R)) → Mod (fun b => b = g) w w' → K .normal ρ' w') : sx fn_ Try.prog 220 slices_symMergeCmpFunc_queue_Message_R25 K ρ w := by
  rw [slices_symMergeCmpFunc_queue_Message_R25_eq]; unfold slices_symMergeCmpFunc_queue_Message_R25_F
  rw [q1, q20, q18, q0, q4]
  have go : ∀ (ρ' : Sl) (w' : World), ρ' 0 = ρ 0 → ρ' 18 = ρ 18 → ρ' 24 = ρ 24 → ρ' 3 = ρ 3 → ρ' 4 = ρ 4 → SmP g cap P X1 Y1 (X2 ++ (Y2 ++ R)) w w' → sx fn_ Try.prog 220 slices_symMergeCmpFunc_queue_Message_R26 K ρ' w' := by
    rintro ρ' w' a0 a18 a24 a3 a4 ⟨S1, hS1, hD1, hm1⟩
    have lS : S1.length = X1.length + Y1.length := by rw [Stab.len ltM_wo hS1.eq, List.length_append]
    have eA : P ++ (S1 ++ (X2 ++ (Y2 ++ R))) = (P ++ S1) ++ (X2 ++ (Y2 ++ R)) := by simp
    rw [eA] at hD1
    refine sm_R26 (P := P ++ S1) (X := X2) (Y := Y2) (R := R) (n := n) (mid := mid) (e := e) (b := b) ih hN2 hD1 (by rw [hn]; simp only [List.length_append]; omega) hl hX2 hY2 (by rw [List.length_append, lS]; omega) e3 e4 (a0.trans q0) (a18.trans q18) (a24.trans q24) (a3.trans q3) (a4.trans q4) ?_
    rintro ρ2 w2 ⟨S2, hS2, hD2, hm2⟩
    exact hk ρ2 w2 S1 S2 hS1 hS2 (by simpa using hD2) (hm1.trans hm2)
  have no : X1 = [] ∨ Y1 = [] → SmP g cap P X1 Y1 (X2 ++ (Y2 ++ R)) w w := fun z => ⟨X1 ++ Y1, sorted_one hX1 hY1 z, by simpa using h, Mod.refl _ _⟩
  by_cases c1 : a < s
  · simp only [↓VG_u, ↓UG_u, ↓MG_u, ↓NG_u, ↓PG_u, ↓BG_u, ↓CG_u, ↓IG_u, ↓VGtt, ↓VGtf, ↓VGft, ↓VGff, ↓UGtt, ↓UGtf, ↓UGft, ↓UGff, ↓MGtt, ↓MGtf, ↓MGft, ↓MGff, ↓NGtt, ↓NGtf, ↓NGft, ↓NGff, ↓PGtt, ↓PGtf, ↓PGft, ↓PGff, ↓BGtt, ↓BGtf, ↓BGft, ↓BGff, ↓CGtt, ↓CGtf, ↓CGft, ↓CGff, ↓IGtt, ↓IGtf, ↓IGft, ↓IGff, ↓PKt, ↓PKf, ↓CDt, ↓CDf, ↓NOTt, ↓NOTf, ↓NK_ptr, ↓LTt c1]
    by_cases c2 : s < mid
    · simp only [↓VG_u, ↓UG_u, ↓MG_u, ↓NG_u, ↓PG_u, ↓BG_u, ↓CG_u, ↓IG_u, ↓VGtt, ↓VGtf, ↓VGft, ↓VGff, ↓UGtt, ↓UGtf, ↓UGft, ↓UGff, ↓MGtt, ↓MGtf, ↓MGft, ↓MGff, ↓NGtt, ↓NGtf, ↓NGft, ↓NGff, ↓PGtt, ↓PGtf, ↓PGft, ↓PGff, ↓BGtt, ↓BGtf, ↓BGft, ↓BGff, ↓CGtt, ↓CGtf, ↓CGft, ↓CGff, ↓IGtt, ↓IGtf, ↓IGft, ↓IGff, ↓PKt, ↓PKf, ↓CDt, ↓CDf, ↓NOTt, ↓NOTf, ↓NK_ptr, ↓LTt c2]
      refine CK_st Try.func83 rfl rfl (ih hN1 h hn hl hX1 hY1 (by omega) (by omega) e0 e1 e2) ?_
      rintro _ w' hP
      exact go _ w' (by first | exact q0.symm | rfl) (by first | exact q18.symm | rfl) rfl rfl (by first | exact q4.symm | rfl) hP
    · simp only [↓VG_u, ↓UG_u, ↓MG_u, ↓NG_u, ↓PG_u, ↓BG_u, ↓CG_u, ↓IG_u, ↓VGtt, ↓VGtf, ↓VGft, ↓VGff, ↓UGtt, ↓UGtf, ↓UGft, ↓UGff, ↓MGtt, ↓MGtf, ↓MGft, ↓MGff, ↓NGtt, ↓NGtf, ↓NGft, ↓NGff, ↓PGtt, ↓PGtf, ↓PGft, ↓PGff, ↓BGtt, ↓BGtf, ↓BGft, ↓BGff, ↓CGtt, ↓CGtf, ↓CGft, ↓CGff, ↓IGtt, ↓IGtf, ↓IGft, ↓IGff, ↓PKt, ↓PKf, ↓CDt, ↓CDf, ↓NOTt, ↓NOTf, ↓NK_ptr, ↓LTf (Int.not_lt.1 c2)]
      exact go _ w (by first | exact q0.symm | rfl) (by first | exact q18.symm | rfl) rfl rfl (by first | exact q4.symm | rfl) (no (.inr (List.eq_nil_of_length_eq_zero (by omega))))
  · simp only [↓VG_u, ↓UG_u, ↓MG_u, ↓NG_u, ↓PG_u, ↓BG_u, ↓CG_u, ↓IG_u, ↓VGtt, ↓VGtf, ↓VGft, ↓VGff, ↓UGtt, ↓UGtf, ↓UGft, ↓UGff, ↓MGtt, ↓MGtf, ↓MGft, ↓MGff, ↓NGtt, ↓NGtf, ↓NGft, ↓NGff, ↓PGtt, ↓PGtf, ↓PGft, ↓PGff, ↓BGtt, ↓BGtf, ↓BGft, ↓BGff, ↓CGtt, ↓CGtf, ↓CGft, ↓CGff, ↓IGtt, ↓IGtf, ↓IGft, ↓IGff, ↓PKt, ↓PKf, ↓CDt, ↓CDf, ↓NOTt, ↓NOTf, ↓NK_ptr, ↓LTf (Int.not_lt.1 c1)]
    exact go _ w (by first | exact q0.symm | rfl) (by first | exact q18.symm | rfl) rfl rfl (by first | exact q4.symm | rfl) (no (.inl (List.eq_nil_of_length_eq_zero (by omega))))
theorem sm_R18 {s : Nat} {a m b mid M : Int} (ih : SmC g cap N) (hN : X.length + Y.length ≤ N + 1) (hX0 : 0 < X.length) (hY0 : 0 < Y.length) (h : Dat w g cap (P ++ (X ++ (Y ++ R)))) (hn : n = (P ++ (X ++ (Y ++ R))).length) (hl : n ≤ 1000000) (hX : SortedL ltM X) (hY : SortedL ltM Y)
    (e0 : a = (P.length : Int)) (e1 : m = a + X.length) (e2 : b = m + Y.length) (hmid : mid = (a + b) / 2) (hM : M = mid + m) (hs0 : a ≤ s) (hs1 : (s : Int) ≤ m) (hs2 : (s : Int) ≤ mid) (hs3 : M - s ≤ b)
    (hlo : (s : Int) = a ∨ M - s = b ∨ ∃ u v, X[s - 1 - P.length]? = some u ∧ Y[(M - s - m).toNat]? = some v ∧ ltM v u = false) (hhi : (s : Int) = m ∨ (s : Int) = mid ∨ ∃ u v, X[s - P.length]? = some u ∧ Y[(M - 1 - s - m).toNat]? = some v ∧ ltM v u = true)
    (q0 : ρ 0 = dv g cap n) (q1 : ρ 1 = .int .i64 a) (q2 : ρ 2 = .int .i64 m) (q3 : ρ 3 = .int .i64 b) (q4 : ρ 4 = ordF) (q18 : ρ 18 = .int .i64 mid) (q19 : ρ 19 = .int .i64 M) (q20 : ρ 20 = .int .i64 s)
    (hk : ∀ ρ' w', SmP g cap P X Y R w w' → K .normal ρ' w') : sx fn_ Try.prog 220 slices_symMergeCmpFunc_queue_Message_R18 K ρ w := by
  have hll : n = P.length + (X.length + (Y.length + R.length)) := by rw [hn]; simp
  obtain ⟨X1, X2, rfl, lX1⟩ : ∃ X1 X2, X = X1 ++ X2 ∧ (s : Int) = a + X1.length := ⟨X.take (s - P.length), X.drop (s - P.length), (List.take_append_drop _ _).symm, by rw [List.length_take]; omega⟩
  obtain ⟨Y1, Y2, rfl, lY1⟩ : ∃ Y1 Y2, Y = Y1 ++ Y2 ∧ M - s = m + Y1.length := ⟨Y.take (M - s - m).toNat, Y.drop (M - s - m).toNat, (List.take_append_drop _ _).symm, by rw [List.length_take]; omega⟩
  have lX : (X1 ++ X2).length = X1.length + X2.length := List.length_append
  have lY : (Y1 ++ Y2).length = Y1.length + Y2.length := List.length_append
  have hX' := List.pairwise_append.1 hX
  have hY' := List.pairwise_append.1 hY
  have hxy : ∀ a ∈ X1, ∀ b ∈ Y2, ltM b a = false := by
    intro p hp r hr
    have h1 : 0 < X1.length := List.length_pos_of_mem hp
    have h2 : 0 < Y2.length := List.length_pos_of_mem hr
    rcases hlo with z | z | ⟨u, v, hu, hv, huv⟩
    · omega
    · omega
    · rw [show s - 1 - P.length = X1.length - 1 by omega, List.getElem?_append_left (by omega)] at hu
      rw [show (M - s - m).toNat = Y1.length by omega, List.getElem?_append_right (by omega), Nat.sub_self] at hv
      obtain ⟨i, hi, rfl⟩ := List.mem_iff_getElem.1 hp
      obtain ⟨j, hj, rfl⟩ := List.mem_iff_getElem.1 hr
      have a1 := SortedL.le_at ltM_wo (show SortedL ltM X1 from hX'.1) (i := i) (j := X1.length - 1) (by omega) (List.getElem?_eq_getElem hi) hu
      have a2 := SortedL.le_at ltM_wo (show SortedL ltM Y2 from hY'.2.1) (i := 0) (j := j) (by omega) hv (List.getElem?_eq_getElem hj)
      exact ltM_wo.tr _ v _ (ltM_wo.tr _ u _ a1 huv) a2
  have hyx : ∀ a ∈ X2, ∀ b ∈ Y1, ltM b a = true := by
    intro p hp r hr
    have h1 : 0 < X2.length := List.length_pos_of_mem hp
    have h2 : 0 < Y1.length := List.length_pos_of_mem hr
    rcases hhi with z | z | ⟨u, v, hu, hv, huv⟩
    · omega
    · omega
    · rw [show s - P.length = X1.length by omega, List.getElem?_append_right (by omega), Nat.sub_self] at hu
      rw [show (M - 1 - s - m).toNat = Y1.length - 1 by omega, List.getElem?_append_left (by omega)] at hv
      obtain ⟨i, hi, rfl⟩ := List.mem_iff_getElem.1 hp
      obtain ⟨j, hj, rfl⟩ := List.mem_iff_getElem.1 hr
      have a1 := SortedL.le_at ltM_wo (show SortedL ltM X2 from hX'.2.1) (i := 0) (j := i) (by omega) hu (List.getElem?_eq_getElem hi)
      have a2 := SortedL.le_at ltM_wo (show SortedL ltM Y1 from hY'.1) (i := j) (j := Y1.length - 1) (by omega) (List.getElem?_eq_getElem hj) hv
      cases hq : ltM Y1[j] X2[i] with
      | true => rfl
      | false =>
        have := ltM_wo.tr u _ v (ltM_wo.tr u _ _ a1 hq) a2
        rw [huv] at this; cases this
  rw [slices_symMergeCmpFunc_queue_Message_R18_eq]; unfold slices_symMergeCmpFunc_queue_Message_R18_F
  rw [q19, q20, q2, q0, q4, BK_sub, wrap_i (by omega) (by omega)]
  have go : ∀ (ρ' : Sl) (w' : World), ρ' 0 = ρ 0 → ρ' 1 = ρ 1 → ρ' 18 = ρ 18 → ρ' 20 = ρ 20 → ρ' 24 = .int .i64 (M - s) → ρ' 3 = ρ 3 → ρ' 4 = ρ 4 → Dat w' g cap (P ++ (X1 ++ (Y1 ++ (X2 ++ (Y2 ++ R))))) → Mod (fun b => b = g) w w' → sx fn_ Try.prog 220 slices_symMergeCmpFunc_queue_Message_R25 K ρ' w' := by
    intro ρ' w' a0 a1 a18 a20 a24 a3 a4 hD hm
    refine sm_R25 (X1 := X1) (Y1 := Y1) (X2 := X2) (Y2 := Y2) (a := a) (s := s) (mid := mid) (e := M - s) (b := b) (n := n) ih (by omega) (by omega) hD (by rw [hll]; simp only [List.length_append]; omega) hl hX'.1 hY'.1 hX'.2.1 hY'.2.1 e0 lX1 (by omega) (by omega) (by omega) (a0.trans q0) (a1.trans q1) (a20.trans q20) (a18.trans q18) a24 (a3.trans q3) (a4.trans q4) ?_
    intro ρ2 w2 S1 S2 h1 h2 hD2 hm2
    exact hk ρ2 w2 ⟨S1 ++ S2, stab_halves ltM_wo hX hY hxy hyx h1 h2, hD2, hm.trans hm2⟩
  have no : X2 = [] ∨ Y1 = [] → Dat w g cap (P ++ (X1 ++ (Y1 ++ (X2 ++ (Y2 ++ R))))) := fun z => by
    rcases z with rfl | rfl
    · simpa using h
    · simpa using h
  have gof := fun (x : Value) => True
  by_cases c1 : (s : Int) < m
  · simp only [↓VG_u, ↓UG_u, ↓MG_u, ↓NG_u, ↓PG_u, ↓BG_u, ↓CG_u, ↓IG_u, ↓VGtt, ↓VGtf, ↓VGft, ↓VGff, ↓UGtt, ↓UGtf, ↓UGft, ↓UGff, ↓MGtt, ↓MGtf, ↓MGft, ↓MGff, ↓NGtt, ↓NGtf, ↓NGft, ↓NGff, ↓PGtt, ↓PGtf, ↓PGft, ↓PGff, ↓BGtt, ↓BGtf, ↓BGft, ↓BGff, ↓CGtt, ↓CGtf, ↓CGft, ↓CGff, ↓IGtt, ↓IGtf, ↓IGft, ↓IGff, ↓PKt, ↓PKf, ↓CDt, ↓CDf, ↓NOTt, ↓NOTf, ↓NK_ptr, ↓LTt c1]
    by_cases c2 : m < M - s
    · simp only [↓VG_u, ↓UG_u, ↓MG_u, ↓NG_u, ↓PG_u, ↓BG_u, ↓CG_u, ↓IG_u, ↓VGtt, ↓VGtf, ↓VGft, ↓VGff, ↓UGtt, ↓UGtf, ↓UGft, ↓UGff, ↓MGtt, ↓MGtf, ↓MGft, ↓MGff, ↓NGtt, ↓NGtf, ↓NGft, ↓NGff, ↓PGtt, ↓PGtf, ↓PGft, ↓PGff, ↓BGtt, ↓BGtf, ↓BGft, ↓BGff, ↓CGtt, ↓CGtf, ↓CGft, ↓CGff, ↓IGtt, ↓IGtf, ↓IGft, ↓IGff, ↓PKt, ↓PKf, ↓CDt, ↓CDf, ↓NOTt, ↓NOTf, ↓NK_ptr, ↓LTt c2]
      have eA : P ++ ((X1 ++ X2) ++ ((Y1 ++ Y2) ++ R)) = (P ++ X1) ++ (X2 ++ (Y1 ++ (Y2 ++ R))) := by simp
      rw [eA] at h
      refine CK_st Try.func89 rfl rfl (rot_ok (A := P ++ X1) (U := X2) (V := Y1) (B := Y2 ++ R) h (by rw [hll]; simp only [List.length_append]; omega) hl (by omega) (by omega) (by rw [List.length_append]; omega) (by omega) (by omega)) ?_
      rintro _ w' ⟨hD, hm⟩
      exact go _ w' (by first | exact q0.symm | rfl) rfl rfl (by first | exact q20.symm | rfl) rfl rfl (by first | exact q4.symm | rfl) (by simpa using hD) hm
    · simp only [↓VG_u, ↓UG_u, ↓MG_u, ↓NG_u, ↓PG_u, ↓BG_u, ↓CG_u, ↓IG_u, ↓VGtt, ↓VGtf, ↓VGft, ↓VGff, ↓UGtt, ↓UGtf, ↓UGft, ↓UGff, ↓MGtt, ↓MGtf, ↓MGft, ↓MGff, ↓NGtt, ↓NGtf, ↓NGft, ↓NGff, ↓PGtt, ↓PGtf, ↓PGft, ↓PGff, ↓BGtt, ↓BGtf, ↓BGft, ↓BGff, ↓CGtt, ↓CGtf, ↓CGft, ↓CGff, ↓IGtt, ↓IGtf, ↓IGft, ↓IGff, ↓PKt, ↓PKf, ↓CDt, ↓CDf, ↓NOTt, ↓NOTf, ↓NK_ptr, ↓LTf (Int.not_lt.1 c2)]
      exact go _ w (by first | exact q0.symm | rfl) rfl rfl (by first | exact q20.symm | rfl) rfl rfl (by first | exact q4.symm | rfl) (no (.inr (List.eq_nil_of_length_eq_zero (by omega)))) (Mod.refl _ _)
  · simp only [↓VG_u, ↓UG_u, ↓MG_u, ↓NG_u, ↓PG_u, ↓BG_u, ↓CG_u, ↓IG_u, ↓VGtt, ↓VGtf, ↓VGft, ↓VGff, ↓UGtt, ↓UGtf, ↓UGft, ↓UGff, ↓MGtt, ↓MGtf, ↓MGft, ↓MGff, ↓NGtt, ↓NGtf, ↓NGft, ↓NGff, ↓PGtt, ↓PGtf, ↓PGft, ↓PGff, ↓BGtt, ↓BGtf, ↓BGft, ↓BGff, ↓CGtt, ↓CGtf, ↓CGft, ↓CGff, ↓IGtt, ↓IGtf, ↓IGft, ↓IGff, ↓PKt, ↓PKf, ↓CDt, ↓CDf, ↓NOTt, ↓NOTf, ↓NK_ptr, ↓LTf (Int.not_lt.1 c1)]
    exact go _ w (by first | exact q0.symm | rfl) rfl rfl (by first | exact q20.symm | rfl) rfl rfl (by first | exact q4.symm | rfl) (no (.inl (List.eq_nil_of_length_eq_zero (by omega)))) (Mod.refl _ _)
end
end Go.Proofs.Ytmnkedgmpbcicaa.Que
set_option linter.unusedVariables false
set_option linter.unusedSimpArgs false
set_option maxRecDepth 4000
namespace Go.Proofs.Ytmnkedgmpbcicaa.Que
open Go Go.X Go.RowKit Go.Proofs.Ytmnkedgmpbcicaa.XF Go.Proofs.Ytmnkedgmpbcicaa.XK
section
variable {w : World} {g cap n N : Nat} {ρ : Sl} {P X Y R : List Ms}
abbrev SmK (g cap : Nat) (P X Y R : List Ms) (w0 : World) : Exit → Sl → World → Prop := retK Try.prog [] (fun _ w' => SmP g cap P X Y R w0 w')
theorem sm_R7 {lo hi : Nat} {a m b mid M : Int} (ih : SmC g cap N) (hN : X.length + Y.length ≤ N + 1) (hX0 : 0 < X.length) (hY0 : 0 < Y.length) (h : Dat w g cap (P ++ (X ++ (Y ++ R)))) (hn : n = (P ++ (X ++ (Y ++ R))).length) (hl : n ≤ 1000000) (hX : SortedL ltM X) (hY : SortedL ltM Y)
    (e0 : a = (P.length : Int)) (e1 : m = a + X.length) (e2 : b = m + Y.length) (hmid : mid = (a + b) / 2) (hM : M = mid + m) (hlh : (mid < m ∧ (lo : Int) = M - b ∧ (hi : Int) = mid) ∨ (m ≤ mid ∧ (lo : Int) = a ∧ (hi : Int) = m))
    (q0 : ρ 0 = dv g cap n) (q1 : ρ 1 = .int .i64 a) (q2 : ρ 2 = .int .i64 m) (q3 : ρ 3 = .int .i64 b) (q4 : ρ 4 = ordF) (q18 : ρ 18 = .int .i64 mid) (q19 : ρ 19 = .int .i64 M) (q20 : ρ 20 = .int .i64 lo) (q21 : ρ 21 = .int .i64 hi) :
    sx fn_ Try.prog 220 slices_symMergeCmpFunc_queue_Message_R7 (SmK g cap P X Y R w) ρ w := by
  have hll : n = P.length + (X.length + (Y.length + R.length)) := by rw [hn]; simp
  rw [slices_symMergeCmpFunc_queue_Message_R7_eq]; unfold slices_symMergeCmpFunc_queue_Message_R7_F
  rw [q19, BK_sub, wrap_i (by omega) (by omega)]
  obtain ⟨Mn, hMn⟩ : ∃ Mn : Nat, M = (Mn : Int) := ⟨M.toNat, by omega⟩
  refine sm_L17 (lo := lo) (hi := hi) (N := Mn) h hn hl q0 q4 q20 q21 (by show Value.int .i64 _ = _; rw [hMn]) (by omega) (by omega) (by omega) (fun c hc1 hc2 => by omega) ?_
  intro ρ' w' s hs1 hs2 hlo hhi hS a18 a19 a20 hD hm
  rw [bk_x, sq_n]
  refine sm_R18 (s := s) (a := a) (m := m) (b := b) (mid := mid) (M := M) (n := n) ih hN hX0 hY0 hD hn hl hX hY e0 e1 e2 hmid hM (by omega) (by omega) (by omega) (by omega) ?_ ?_ (hS.e0.trans q0) (hS.e1.trans q1) (hS.e2.trans q2) (hS.e3.trans q3) (hS.e4.trans q4) (a18.trans q18) (a19.trans q19) a20 ?_
  · rcases hlo with z | ⟨u, v, hu, hv, huv⟩
    · rcases hlh with ⟨_, z2, _⟩ | ⟨_, z2, _⟩
      · exact .inr (.inl (by omega))
      · exact .inl (by omega)
    · refine .inr (.inr ⟨u, v, hu, ?_, huv⟩)
      rw [show (M - (s : Int) - m).toNat = Mn - s - (P.length + X.length) by omega]; exact hv
  · rcases hhi with z | ⟨u, v, hu, hv, huv⟩
    · rcases hlh with ⟨_, _, z2⟩ | ⟨_, _, z2⟩
      · exact .inr (.inl (by omega))
      · exact .inl (by omega)
    · refine .inr (.inr ⟨u, v, hu, ?_, huv⟩)
      rw [show (M - 1 - (s : Int) - m).toNat = Mn - 1 - s - (P.length + X.length) by omega]; exact hv
  · rintro ρ2 w2 ⟨S, hS2, hD2, hm2⟩
    exact ⟨S, hS2, hD2, (hm.mono fun _ _ z => z.elim).trans hm2⟩
theorem symMerge_ok (g cap : Nat) : ∀ N, SmC g cap N := by
  intro N
  induction N with
  | zero => intro w P X Y R n a m b hN h hn hl hX hY hX0 hY0 e0 e1 e2; omega
  | succ N ih =>
    intro w P X Y R n a m b hN h hn hl hX hY hX0 hY0 e0 e1 e2
    have hll : n = P.length + (X.length + (Y.length + R.length)) := by rw [hn]; simp
    refine slices_symMergeCmpFunc_queue_Message_calls ?_
    unfold slices_symMergeCmpFunc_queue_Message_F
    rw [BK_sub, wrap_i (by omega) (by omega)]
    refine caseI (fun c1 => condT ?_) (fun c1 => condF ?_)
    · obtain ⟨x, rfl⟩ : ∃ x, X = [x] := by
        match X, hX0, (show X.length = 1 by omega) with
        | [x], _, _ => exact ⟨x, rfl⟩
      have eA : P ++ ([x] ++ (Y ++ R)) = (P ++ [x]) ++ (Y ++ R) := by simp
      have lx : ([x] : List Ms).length = 1 := rfl
      refine sm_L0 (P := P) (x := x) (Y := Y) (R := R) (n := n) (by rw [← eA]; exact h) (by rw [← eA]; exact hn) hl hY rfl (by rw [← e0]; rfl) rfl (by show Value.int .i64 _ = _; congr 1; omega) (by show Value.int .i64 _ = _; congr 1; omega) ?_
      intro ρ' w' Y1 Y2 hY12 h1 h2 hS a10 hD hm
      rw [bk_x, sq_n, slices_symMergeCmpFunc_queue_Message_R1_eq]; unfold slices_symMergeCmpFunc_queue_Message_R1_F
      have a1 : ρ' 1 = .int .i64 a := hS.e1
      have a0 : ρ' 0 = dv g cap n := hS.e0
      subst hY12
      rw [a1]
      refine sm_L10 (P := P) (x := x) (Y1 := Y1) (Z := Y2 ++ R) (n := n) (by simpa using hD) (by rw [hn]; simp) hl a0 a10 (by show Value.int .i64 _ = _; rw [e0]) ?_
      intro ρ2 w2 hD2 hm2
      rw [bk_x, sq_n, slices_symMergeCmpFunc_queue_Message_R11_eq]; unfold slices_symMergeCmpFunc_queue_Message_R11_F
      exact ⟨Y1 ++ x :: Y2, by simpa using stab_out ltM_wo (Y1 := Y1) (Y2 := Y2) (x := x) hY h1 h2, by simpa using hD2, (hm.mono fun _ _ z => z.elim).trans hm2⟩
    rw [BK_sub, wrap_i (by omega) (by omega)]
    refine caseI (fun c2 => condT ?_) (fun c2 => condF ?_)
    · obtain ⟨y, rfl⟩ : ∃ y, Y = [y] := by
        match Y, hY0, (show Y.length = 1 by omega) with
        | [y], _, _ => exact ⟨y, rfl⟩
      have ly : ([y] : List Ms).length = 1 := rfl
      refine sm_L3 (P := P) (X := X) (y := y) (R := R) (n := n) h hn hl hX rfl (by show Value.int .i64 _ = _; congr 1; omega) rfl (by show Value.int .i64 _ = _; congr 1) (by show Value.int .i64 _ = _; congr 1; omega) ?_
      intro ρ' w' X1 X2 hX12 h1 h2 hS a14 hD hm
      rw [bk_x, sq_n, slices_symMergeCmpFunc_queue_Message_R4_eq]; unfold slices_symMergeCmpFunc_queue_Message_R4_F
      have a2 : ρ' 2 = .int .i64 m := hS.e2
      have a0 : ρ' 0 = dv g cap n := hS.e0
      subst hX12
      have lX : (X1 ++ X2).length = X1.length + X2.length := List.length_append
      rw [a2]
      refine sm_L15 (P := P) (X1 := X1) (X2 := X2) (y := y) (R := R) (n := n) (by simpa using hD) (by rw [hn]; simp) hl a0 a14 (by show Value.int .i64 _ = _; congr 1; omega) ?_
      intro ρ2 w2 hD2 hm2
      rw [bk_x, sq_n, slices_symMergeCmpFunc_queue_Message_R16_eq]; unfold slices_symMergeCmpFunc_queue_Message_R16_F
      exact ⟨X1 ++ y :: X2, stab_ins ltM_wo hX h1 h2, by simpa using hD2, (hm.mono fun _ _ z => z.elim).trans hm2⟩
    rw [BK_add, wrap_i (by omega) (by omega)]
    refine half_k (by omega) (by omega) fun _ _ => ?_
    obtain ⟨mid, hmid⟩ : ∃ mid, mid = (a + b) / 2 := ⟨_, rfl⟩
    rw [← hmid, BK_add, wrap_i (by omega) (by omega), BK_gtr]
    have key : ∀ (ρ : Sl), ρ 0 = dv g cap n → ρ 1 = .int .i64 a → ρ 2 = .int .i64 m → ρ 3 = .int .i64 b → ρ 4 = ordF → ρ 18 = .int .i64 mid → ρ 19 = .int .i64 (mid + m) → ρ 140 = .bool (decide (mid < m)) →
        sx fn_ Try.prog 220 slices_symMergeCmpFunc_queue_Message_R6 (seqK (sx fn_ Try.prog 220 slices_symMergeCmpFunc_queue_Message_R7 (SmK g cap P X Y R w)) (SmK g cap P X Y R w)) ρ w := by
      intro ρ q0 q1 q2 q3 q4 q18 q19 q140
      rw [slices_symMergeCmpFunc_queue_Message_R6_eq]; unfold slices_symMergeCmpFunc_queue_Message_R6_F
      rw [q140]
      refine caseC (fun c => ?_) (fun c => ?_)
      · have c' : mid < m := of_decide_eq_true c
        rw [q19, q3, q18, BK_sub, wrap_i (by omega) (by omega), sq_n]
        exact sm_R7 (lo := (mid + m - b).toNat) (hi := mid.toNat) ih hN hX0 hY0 h hn hl hX hY e0 e1 e2 hmid rfl (.inl ⟨c', by omega, by omega⟩) q0 q1 q2 (by first | exact q3 | rfl) q4 (by first | exact q18 | rfl) (by first | exact q19 | rfl) (by show Value.int .i64 _ = _; congr 1; omega) (by show Value.int .i64 _ = _; congr 1; omega)
      · have c' : ¬ mid < m := of_decide_eq_false c
        rw [q1, q2, sq_n]
        exact sm_R7 (lo := P.length) (hi := m.toNat) ih hN hX0 hY0 h hn hl hX hY e0 e1 e2 hmid rfl (.inr ⟨by omega, by omega, by omega⟩) q0 (by first | exact q1 | rfl) (by first | exact q2 | rfl) q3 q4 q18 q19 (by show Value.int .i64 _ = _; rw [e0]) (by show Value.int .i64 _ = _; congr 1; omega)
    exact key _ rfl rfl rfl rfl rfl rfl rfl rfl
end
end Go.Proofs.Ytmnkedgmpbcicaa.Que
set_option linter.unusedVariables false
set_option linter.unusedSimpArgs false
set_option maxRecDepth 4000
namespace Go.Proofs.Ytmnkedgmpbcicaa.Que
open Go Go.X Go.RowKit Go.Proofs.Ytmnkedgmpbcicaa.XF Go.Proofs.Ytmnkedgmpbcicaa.XK
def Fq (l l' : List Ms) : Prop := ∀ x, l'.filter (eqv ltM x) = l.filter (eqv ltM x)
theorem Fq.seg {l P X S R : List Ms} (h : Fq l (P ++ (X ++ R))) (hs : Stab ltM X S) : Fq l (P ++ (S ++ R)) := fun x => by
  rw [← h x]
  simp only [List.filter_append, hs.eq]
theorem Fq.len {l l' : List Ms} (h : Fq l l') : l'.length = l.length := Stab.len ltM_wo h
section
variable {w : World} {g cap n : Nat} {l : List Ms}
theorem insSort_nil (v f : Value) (w : World) : Rt Try.prog 82 #[v, .int .i64 0, .int .i64 0, f] w fun _ w' => w' = w := by
  refine slices_insertionSortCmpFunc_queue_Message_calls ?_
  unfold slices_insertionSortCmpFunc_queue_Message_F
  rw [BK_add, wrap_i (by omega) (by omega)]
  refine W_loop slices_insertionSortCmpFunc_queue_Message_L0_ok (fun ρ' w' => ρ' 8 = .int .i64 (0 + 1) ∧ ρ' 2 = .int .i64 0 ∧ w' = w) (fun _ _ => 0) ⟨rfl, rfl, rfl⟩ ?_
  rintro ρ' w' ⟨q8, q2, rfl⟩
  rw [slices_insertionSortCmpFunc_queue_Message_L0_eq]; unfold slices_insertionSortCmpFunc_queue_Message_L0_F
  rw [q8, q2, BK_lss, decide_eq_false (by omega)]
  refine condF ?_
  rw [sq_x, bk_x]
  exact rfl
theorem stable_nil (v f : Value) (w : World) : Rt Try.prog 74 #[v, .int .i64 0, f] w fun _ w' => w' = w := by
  refine slices_stableCmpFunc_queue_Message_calls ?_
  unfold slices_stableCmpFunc_queue_Message_F
  refine W_loop slices_stableCmpFunc_queue_Message_L0_ok (fun ρ' w' => ρ' 0 = v ∧ ρ' 1 = .int .i64 0 ∧ ρ' 2 = f ∧ ρ' 6 = .int .i64 20 ∧ ρ' 7 = .int .i64 0 ∧ ρ' 8 = .int .i64 20 ∧ w' = w) (fun _ _ => 0) ⟨rfl, rfl, rfl, rfl, rfl, rfl, rfl⟩ ?_
  rintro ρ' w' ⟨q0, q1, q2, q6, q7, q8, rfl⟩
  rw [slices_stableCmpFunc_queue_Message_L0_eq]; unfold slices_stableCmpFunc_queue_Message_L0_F
  rw [q8, q1, BK_leq, decide_eq_false (by omega)]
  refine condF ?_
  rw [sq_x, bk_x, sq_n, slices_stableCmpFunc_queue_Message_R1_eq]; unfold slices_stableCmpFunc_queue_Message_R1_F
  have key : ∀ ρ : Sl, ρ 0 = v → ρ 1 = .int .i64 0 → ρ 2 = f → ρ 6 = .int .i64 20 → ρ 7 = .int .i64 0 → CK Try.prog (.func (.func 82) #[] #[]) [ρ 0, ρ 7, ρ 1, ρ 2] w' fun x27 w => W fn_ Try.prog 63 (Code.loop slices_stableCmpFunc_queue_Message_L2) (blkK 2 (retK Try.prog [] fun _ w1 => w1 = w')) (up (up (up (up (up ρ 23 (ρ 0)) 24 (ρ 7)) 25 (ρ 1)) 26 (ρ 2)) 27 x27) w := by
    intro ρ p0 p1 p2 p6 p7
    rw [p0, p1, p2, p7]
    refine CK_st Try.func82 rfl rfl (insSort_nil v f w') ?_
    rintro _ w2 rfl
    refine W_loop slices_stableCmpFunc_queue_Message_L2_ok (fun ρ' w1 => ρ' 6 = .int .i64 20 ∧ ρ' 1 = .int .i64 0 ∧ w1 = w2) (fun _ _ => 0) ⟨p6, p1, rfl⟩ ?_
    rintro ρ3 w3 ⟨r6, r1, rfl⟩
    rw [slices_stableCmpFunc_queue_Message_L2_eq]; unfold slices_stableCmpFunc_queue_Message_L2_F
    rw [r6, r1, BK_lss, decide_eq_false (by omega)]
    refine condF ?_
    rw [sq_x, bk_x]
    exact rfl
  exact key _ q0 q1 q2 q6 q7
structure Bl (bs : Nat) (Bs : List (List Ms)) (C : List Ms) : Prop where
  so : ∀ B ∈ Bs, SortedL ltM B ∧ B.length = bs
  last : SortedL ltM C
theorem Bl.len {bs : Nat} {Bs : List (List Ms)} (h : ∀ B ∈ Bs, SortedL ltM B ∧ B.length = bs) : Bs.flatten.length = Bs.length * bs := by
  induction Bs with
  | nil => simp
  | cons B Bs ih =>
    rw [List.flatten_cons, List.length_append, ih fun x hx => h x (List.mem_cons_of_mem _ hx), (h B List.mem_cons_self).2, List.length_cons, Nat.succ_mul]
    omega
theorem stable_L3 {K : Exit → Sl → World → Prop} {ρ : Sl} {bs : Nat} {Bs : List (List Ms)} {C : List Ms} (hb0 : 0 < bs) (hb : bs < n) (hl : n ≤ 1000000) (hB : Bl bs Bs C) (hC : C.length < bs) (h : Dat w g cap (Bs.flatten ++ C)) (hn : n = (Bs.flatten ++ C).length) (hq : Fq l (Bs.flatten ++ C))
    (q0 : ρ 0 = dv g cap n) (q1 : ρ 1 = .int .i64 n) (q2 : ρ 2 = ordF) (q6 : ρ 6 = .int .i64 bs) (q7 : ρ 7 = .int .i64 0) (q8 : ρ 8 = .int .i64 ((2 * bs : Nat) : Int))
    (hk : ∀ (ρ' : Sl) (w' : World) (Ds Bs' : List (List Ms)), (∀ D ∈ Ds, SortedL ltM D ∧ D.length = 2 * bs) → (∀ B ∈ Bs', SortedL ltM B ∧ B.length = bs) → Bs'.length ≤ 1 → ρ' 0 = ρ 0 → ρ' 1 = ρ 1 → ρ' 2 = ρ 2 → ρ' 6 = ρ 6 → ρ' 7 = .int .i64 Ds.flatten.length → Dat w' g cap (Ds.flatten ++ (Bs'.flatten ++ C)) → n = (Ds.flatten ++ (Bs'.flatten ++ C)).length → Fq l (Ds.flatten ++ (Bs'.flatten ++ C)) → Mod (fun b => b = g) w w' → K (.exit 4) ρ' w') :
    W fn_ Try.prog 63 (Code.loop slices_stableCmpFunc_queue_Message_L3) K ρ w := by
  refine W_loop slices_stableCmpFunc_queue_Message_L3_ok (fun ρ' w' => ∃ Ds Bs' : List (List Ms), (∀ D ∈ Ds, SortedL ltM D ∧ D.length = 2 * bs) ∧ (∀ B ∈ Bs', SortedL ltM B ∧ B.length = bs) ∧ ρ' 0 = ρ 0 ∧ ρ' 1 = ρ 1 ∧ ρ' 2 = ρ 2 ∧ ρ' 6 = ρ 6 ∧ ρ' 7 = .int .i64 Ds.flatten.length ∧ ρ' 8 = .int .i64 ((Ds.flatten.length + 2 * bs : Nat) : Int) ∧ Dat w' g cap (Ds.flatten ++ (Bs'.flatten ++ C)) ∧ n = (Ds.flatten ++ (Bs'.flatten ++ C)).length ∧ Fq l (Ds.flatten ++ (Bs'.flatten ++ C)) ∧ Mod (fun b => b = g) w w') (fun ρ' _ => n + 2 * bs - (intOf (ρ' 8)).toNat)
    ⟨[], Bs, by simp, hB.so, rfl, rfl, rfl, rfl, q7, by rw [q8]; simp, h, hn, hq, Mod.refl _ _⟩ ?_
  rintro ρ' w' ⟨Ds, Bs', hD, hB', p0, p1, p2, p6, p7, p8, hDat, hn', hq', hm⟩
  rw [slices_stableCmpFunc_queue_Message_L3_eq]; unfold slices_stableCmpFunc_queue_Message_L3_F
  have lB := Bl.len hB'
  have ln : n = Ds.flatten.length + (Bs'.flatten.length + C.length) := by rw [hn']; simp
  have p0' := p0.trans q0
  have p1' := p1.trans q1
  have p2' := p2.trans q2
  have p6' := p6.trans q6
  rw [p8, p1', p7, p6', p0', p2', BK_leq]
  match Bs', hB', lB, hDat, hn', hq' with
  | B1 :: B2 :: Bs'', hB', lB, hDat, hn', hq' =>
    obtain ⟨s1, l1⟩ := hB' B1 (by simp)
    obtain ⟨s2, l2⟩ := hB' B2 (by simp)
    have lf : (B1 :: B2 :: Bs'').flatten.length = bs + (bs + Bs''.flatten.length) := by simp [l1, l2]
    rw [decide_eq_true (by omega)]
    refine condT ?_
    rw [BK_add, wrap_i (by omega) (by omega)]
    have eA : Ds.flatten ++ ((B1 :: B2 :: Bs'').flatten ++ C) = Ds.flatten ++ (B1 ++ (B2 ++ (Bs''.flatten ++ C))) := by simp
    rw [eA] at hDat hq' hn'
    refine CK_st Try.func83 rfl rfl (symMerge_ok g cap (B1.length + B2.length) (Nat.le_refl _) hDat hn' hl s1 s2 (by omega) (by omega) rfl (by omega) (by omega)) ?_
    rintro _ w2 ⟨S, hS, hD2, hm2⟩
    have lS : S.length = 2 * bs := by rw [Stab.len ltM_wo hS.eq, List.length_append]; omega
    rw [BK_mul, wrap_i (by omega) (by omega), BK_add, wrap_i (by omega) (by omega)]
    have eB : Ds.flatten ++ (S ++ (Bs''.flatten ++ C)) = (Ds ++ [S]).flatten ++ (Bs''.flatten ++ C) := by simp
    have lDS : (Ds ++ [S]).flatten.length = Ds.flatten.length + 2 * bs := by simp [lS]
    have hq2 : Fq l (Ds.flatten ++ (S ++ (Bs''.flatten ++ C))) := by
      have : Fq l (Ds.flatten ++ ((B1 ++ B2) ++ (Bs''.flatten ++ C))) := by simpa using hq'
      exact this.seg hS
    refine ⟨⟨Ds ++ [S], Bs'', ?_, fun B hb => hB' B (by simp [hb]), p0, p1, p2, p6, ?_, ?_, by rw [← eB]; exact hD2, ?_, by rw [← eB]; exact hq2, hm.trans hm2⟩, ?_⟩
    · intro D hD'
      rcases List.mem_append.1 hD' with z | z
      · exact hD D z
      · rw [List.mem_singleton.1 z]; exact ⟨hS.so, lS⟩
    · show Value.int .i64 _ = _
      rw [lDS]
    · show Value.int .i64 _ = _
      rw [lDS]; congr 1 <;> omega
    · rw [List.length_append, List.length_append, lDS]; omega
    · show n + 2 * bs - (intOf (.int .i64 _)).toNat < n + 2 * bs - (intOf (.int .i64 _)).toNat
      simp only [intOf]
      omega
  | [B], hB', lB, hDat, hn', hq' =>
    have lf : ([B] : List (List Ms)).flatten.length = bs := by simp [(hB' B (by simp)).2]
    rw [decide_eq_false (by omega)]
    refine condF ?_
    rw [sq_x]
    exact hk _ w' Ds [B] hD hB' (by simp) p0 p1 p2 p6 p7 hDat hn' hq' hm
  | [], hB', lB, hDat, hn', hq' =>
    have lf : ([] : List (List Ms)).flatten.length = 0 := rfl
    rw [decide_eq_false (by omega)]
    refine condF ?_
    rw [sq_x]
    exact hk _ w' Ds [] hD hB' (by simp) p0 p1 p2 p6 p7 hDat hn' hq' hm
theorem stable_L2 {K : Exit → Sl → World → Prop} {ρ : Sl} {bs : Nat} {Bs : List (List Ms)} {C : List Ms} (hb0 : 0 < bs) (hb : bs ≤ 2000000) (hl : n ≤ 1000000) (hB : Bl bs Bs C) (hC : C.length < bs) (h : Dat w g cap (Bs.flatten ++ C)) (hn : n = (Bs.flatten ++ C).length) (hq : Fq l (Bs.flatten ++ C))
    (q0 : ρ 0 = dv g cap n) (q1 : ρ 1 = .int .i64 n) (q2 : ρ 2 = ordF) (q6 : ρ 6 = .int .i64 bs)
    (hk : ∀ ρ' w' S, Stab ltM l S → Dat w' g cap S → Mod (fun b => b = g) w w' → K (.exit 2) ρ' w') :
    W fn_ Try.prog 63 (Code.loop slices_stableCmpFunc_queue_Message_L2) K ρ w := by
  refine W_loop slices_stableCmpFunc_queue_Message_L2_ok (fun ρ' w' => ∃ (bs : Nat) (Bs : List (List Ms)) (C : List Ms), 0 < bs ∧ bs ≤ 2000000 ∧ Bl bs Bs C ∧ C.length < bs ∧ ρ' 0 = dv g cap n ∧ ρ' 1 = .int .i64 n ∧ ρ' 2 = ordF ∧ ρ' 6 = .int .i64 bs ∧ Dat w' g cap (Bs.flatten ++ C) ∧ n = (Bs.flatten ++ C).length ∧ Fq l (Bs.flatten ++ C) ∧ Mod (fun b => b = g) w w') (fun ρ' _ => 2000001 - (intOf (ρ' 6)).toNat)
    ⟨bs, Bs, C, hb0, hb, hB, hC, q0, q1, q2, q6, h, hn, hq, Mod.refl _ _⟩ ?_
  rintro ρ' w' ⟨bs, Bs, C, hb0, hb, hB, hC, p0, p1, p2, p6, hD, hn', hq', hm⟩
  rw [slices_stableCmpFunc_queue_Message_L2_eq]; unfold slices_stableCmpFunc_queue_Message_L2_F
  rw [p6, p1, BK_lss]
  have lB := Bl.len hB.so
  have ln : n = Bs.flatten.length + C.length := by rw [hn']; simp
  by_cases c : bs < n
  · rw [decide_eq_true (by omega)]
    refine condT ?_
    rw [BK_mul, wrap_i (by omega) (by omega)]
    refine stable_L3 (l := l) (bs := bs) (Bs := Bs) (C := C) (n := n) hb0 c hl hB hC hD hn' hq' p0 p1 p2 p6 rfl (by show Value.int .i64 _ = _; congr 1) ?_
    intro ρ2 w2 Ds Bs' hDs hBs' hB1 a0 a1 a2 a6 a7 hD2 hn2 hq2 hm2
    rw [bk_x, sq_n, slices_stableCmpFunc_queue_Message_R4_eq]; unfold slices_stableCmpFunc_queue_Message_R4_F
    have lDs := Bl.len hDs
    have ln2 : n = Ds.flatten.length + (Bs'.flatten.length + C.length) := by rw [hn2]; simp
    have a6' : ρ2 6 = .int .i64 bs := a6.trans p6
    have a1' : ρ2 1 = .int .i64 n := a1.trans p1
    have a0' : ρ2 0 = dv g cap n := a0.trans p0
    have a2' : ρ2 2 = ordF := a2.trans p2
    rw [a7, a6', a1', a0', a2', BK_add, wrap_i (by omega) (by omega), BK_lss]
    have fin : ∀ (ρ3 : Sl) (w3 : World) (C' : List Ms), ρ3 0 = dv g cap n → ρ3 1 = .int .i64 n → ρ3 2 = ordF → ρ3 6 = .int .i64 bs → SortedL ltM C' → C'.length < 2 * bs → Dat w3 g cap (Ds.flatten ++ C') → n = (Ds.flatten ++ C').length → Fq l (Ds.flatten ++ C') → Mod (fun b => b = g) w w3 →
        sx fn_ Try.prog 63 slices_stableCmpFunc_queue_Message_R5 (blkK 3 (seqK (fun ρ' w' => (∃ (bs : Nat) (Bs : List (List Ms)) (C : List Ms), 0 < bs ∧ bs ≤ 2000000 ∧ Bl bs Bs C ∧ C.length < bs ∧ ρ' 0 = dv g cap n ∧ ρ' 1 = .int .i64 n ∧ ρ' 2 = ordF ∧ ρ' 6 = .int .i64 bs ∧ Dat w' g cap (Bs.flatten ++ C) ∧ n = (Bs.flatten ++ C).length ∧ Fq l (Bs.flatten ++ C) ∧ Mod (fun b => b = g) w w') ∧ 2000001 - (intOf (ρ' 6)).toNat < 2000001 - (intOf (.int .i64 (bs : Int))).toNat) K)) ρ3 w3 := by
      intro ρ3 w3 C' b0 b1 b2 b6 hs hlt hD3 hn3 hq3 hm3
      rw [slices_stableCmpFunc_queue_Message_R5_eq]; unfold slices_stableCmpFunc_queue_Message_R5_F
      rw [b6, BK_mul, wrap_i (by omega) (by omega), bk_n]
      refine ⟨⟨2 * bs, Ds, C', by omega, by omega, ⟨hDs, hs⟩, hlt, b0, b1, b2, ?_, hD3, hn3, hq3, hm3⟩, ?_⟩
      · show Value.int .i64 _ = _
        congr 1; omega
      · show 2000001 - (intOf (.int .i64 _)).toNat < _
        simp only [intOf]; omega
    match Bs', hBs', hB1, hD2, hn2, hq2, ln2 with
    | [], hBs', hB1, hD2, hn2, hq2, ln2 =>
      have lf : ([] : List (List Ms)).flatten.length = 0 := rfl
      rw [decide_eq_false (by omega)]
      refine condF ?_
      exact fin _ w2 C (by first | exact a0' | rfl) (by first | exact a1' | rfl) (by first | exact a2' | rfl) (by first | exact a6' | rfl) hB.last (by omega) (by simpa using hD2) (by simpa using hn2) (by simpa using hq2) (hm.trans hm2)
    | [B], hBs', hB1, hD2, hn2, hq2, ln2 =>
      obtain ⟨s1, l1⟩ := hBs' B (by simp)
      have lf : ([B] : List (List Ms)).flatten.length = bs := by simp [l1]
      have eB : Ds.flatten ++ (([B] : List (List Ms)).flatten ++ C) = Ds.flatten ++ (B ++ C) := by simp
      rw [eB] at hD2 hn2 hq2
      by_cases c2 : 0 < C.length
      · rw [decide_eq_true (by omega)]
        refine condT ?_
        have eC : Ds.flatten ++ (B ++ C) = Ds.flatten ++ (B ++ (C ++ [])) := by simp
        rw [eC] at hD2 hn2
        refine CK_st Try.func83 rfl rfl (symMerge_ok g cap (B.length + C.length) (Nat.le_refl _) hD2 hn2 hl s1 hB.last (by omega) (by omega) rfl (by omega) (by omega)) ?_
        rintro _ w3 ⟨S, hS, hD3, hm3⟩
        have lS : S.length = bs + C.length := by rw [Stab.len ltM_wo hS.eq, List.length_append]; omega
        have hq3 : Fq l (Ds.flatten ++ (S ++ [])) := by
          have : Fq l (Ds.flatten ++ ((B ++ C) ++ [])) := by simpa using hq2
          exact this.seg hS
        exact fin _ w3 S (by first | exact a0' | rfl) (by first | exact a1' | rfl) (by first | exact a2' | rfl) (by first | exact a6' | rfl) hS.so (by omega) (by simpa using hD3) (by rw [List.length_append]; omega) (by simpa using hq3) ((hm.trans hm2).trans hm3)
      · have hC0 : C = [] := List.eq_nil_of_length_eq_zero (by omega)
        subst hC0
        rw [decide_eq_false (by simp only [List.length_nil] at ln2; omega)]
        refine condF ?_
        exact fin _ w2 B (by first | exact a0' | rfl) (by first | exact a1' | rfl) (by first | exact a2' | rfl) (by first | exact a6' | rfl) s1 (by omega) (by simpa using hD2) (by simpa using hn2) (by simpa using hq2) (hm.trans hm2)
    | _ :: _ :: _, hBs', hB1, hD2, hn2, hq2, ln2 => simp at hB1
  · rw [decide_eq_false (by omega)]
    refine condF ?_
    rw [sq_x]
    have hS : SortedL ltM (Bs.flatten ++ C) := by
      match Bs, hB, lB, ln with
      | [], hB, lB, ln => exact hB.last
      | [B], hB, lB, ln =>
        obtain ⟨s1, l1⟩ := hB.so B (by simp)
        have lf : ([B] : List (List Ms)).flatten.length = bs := by simp [l1]
        have hC0 : C = [] := List.eq_nil_of_length_eq_zero (by omega)
        subst hC0
        simpa using s1
      | B1 :: B2 :: Bs'', hB, lB, ln =>
        obtain ⟨_, l1⟩ := hB.so B1 (by simp)
        obtain ⟨_, l2⟩ := hB.so B2 (by simp)
        have lf : (B1 :: B2 :: Bs'').flatten.length = bs + (bs + Bs''.flatten.length) := by simp [l1, l2]
        omega
    exact hk _ w' _ ⟨hS, hq'⟩ hD hm
theorem stable_ok (h : Dat w g cap l) (hn : n = l.length) (hl : n ≤ 1000000) : Rt Try.prog 74 #[dv g cap n, .int .i64 n, ordF] w fun _ w' => ∃ S, Stab ltM l S ∧ Dat w' g cap S ∧ Mod (fun b => b = g) w w' := by
  refine slices_stableCmpFunc_queue_Message_calls ?_
  unfold slices_stableCmpFunc_queue_Message_F
  refine W_loop slices_stableCmpFunc_queue_Message_L0_ok (fun ρ' w' => ∃ (Bs : List (List Ms)) (T : List Ms), (∀ B ∈ Bs, SortedL ltM B ∧ B.length = 20) ∧ ρ' 0 = dv g cap n ∧ ρ' 1 = .int .i64 n ∧ ρ' 2 = ordF ∧ ρ' 6 = .int .i64 20 ∧ ρ' 7 = .int .i64 Bs.flatten.length ∧ ρ' 8 = .int .i64 ((Bs.flatten.length + 20 : Nat) : Int) ∧ Dat w' g cap (Bs.flatten ++ T) ∧ n = (Bs.flatten ++ T).length ∧ Fq l (Bs.flatten ++ T) ∧ Mod (fun b => b = g) w w') (fun ρ' _ => n + 20 - (intOf (ρ' 8)).toNat)
    ⟨[], l, by simp, rfl, rfl, rfl, rfl, rfl, rfl, h, hn, fun _ => rfl, Mod.refl _ _⟩ ?_
  rintro ρ' w' ⟨Bs, T, hB, p0, p1, p2, p6, p7, p8, hD, hn', hq, hm⟩
  rw [slices_stableCmpFunc_queue_Message_L0_eq]; unfold slices_stableCmpFunc_queue_Message_L0_F
  rw [p8, p1, p7, p6, p0, p2, BK_leq]
  have ln : n = Bs.flatten.length + T.length := by rw [hn']; simp
  by_cases c : 20 ≤ T.length
  · rw [decide_eq_true (by omega)]
    refine condT ?_
    obtain ⟨X, R, rfl, lX⟩ : ∃ X R, T = X ++ R ∧ X.length = 20 := ⟨T.take 20, T.drop 20, (List.take_append_drop _ _).symm, by rw [List.length_take]; omega⟩
    have hins := insSort_ok (w := w') (g := g) (cap := cap) (P := Bs.flatten) (X := X) (R := R) (n := n) hD hn' hl
    rw [lX] at hins
    refine CK_st Try.func82 rfl rfl hins ?_
    rintro _ w2 ⟨S, hS, hD2, hm2⟩
    have lS : S.length = 20 := by rw [Stab.len ltM_wo hS.eq, lX]
    have lXR : (X ++ R).length = 20 + R.length := by rw [List.length_append, lX]
    rw [BK_add, wrap_i (by omega) (by omega)]
    have eB : Bs.flatten ++ (S ++ R) = (Bs ++ [S]).flatten ++ R := by simp
    have lDS : (Bs ++ [S]).flatten.length = Bs.flatten.length + 20 := by simp [lS]
    refine ⟨⟨Bs ++ [S], R, ?_, by first | rfl | exact p0, by first | rfl | exact p1, by first | rfl | exact p2, by first | rfl | exact p6, ?_, ?_, by rw [← eB]; exact hD2, ?_, by rw [← eB]; exact hq.seg hS, hm.trans hm2⟩, ?_⟩
    · intro D hD'
      rcases List.mem_append.1 hD' with z | z
      · exact hB D z
      · rw [List.mem_singleton.1 z]; exact ⟨hS.so, lS⟩
    · show Value.int .i64 _ = _
      rw [lDS]
    · show Value.int .i64 _ = _
      rw [lDS]; congr 1
    · rw [List.length_append, lDS]; omega
    · show n + 20 - (intOf (.int .i64 _)).toNat < n + 20 - (intOf (.int .i64 _)).toNat
      simp only [intOf]
      omega
  · rw [decide_eq_false (by omega)]
    refine condF ?_
    rw [sq_x, bk_x, sq_n, slices_stableCmpFunc_queue_Message_R1_eq]; unfold slices_stableCmpFunc_queue_Message_R1_F
    have key : ∀ ρ : Sl, ρ 0 = dv g cap n → ρ 1 = .int .i64 n → ρ 2 = ordF → ρ 6 = .int .i64 20 → ρ 7 = .int .i64 Bs.flatten.length → CK Try.prog (.func (.func 82) #[] #[]) [ρ 0, ρ 7, ρ 1, ρ 2] w' fun x27 w2 => W fn_ Try.prog 63 (Code.loop slices_stableCmpFunc_queue_Message_L2) (blkK 2 (retK Try.prog [] fun _ w1 => ∃ S, Stab ltM l S ∧ Dat w1 g cap S ∧ Mod (fun b => b = g) w w1)) (up (up (up (up (up ρ 23 (ρ 0)) 24 (ρ 7)) 25 (ρ 1)) 26 (ρ 2)) 27 x27) w2 := by
      intro ρ r0 r1 r2 r6 r7
      rw [r0, r1, r2, r7]
      have eT : Bs.flatten ++ T = Bs.flatten ++ (T ++ []) := by simp
      have hins := insSort_ok (w := w') (g := g) (cap := cap) (P := Bs.flatten) (X := T) (R := []) (n := n) (by rw [← eT]; exact hD) (by rw [← eT]; exact hn') hl
      rw [← ln] at hins
      refine CK_st Try.func82 rfl rfl hins ?_
      rintro _ w2 ⟨S, hS, hD2, hm2⟩
      have lS : S.length = T.length := Stab.len ltM_wo hS.eq
      rw [List.append_nil] at hD2
      have hq2 : Fq l (Bs.flatten ++ (S ++ [])) := by
        have : Fq l (Bs.flatten ++ (T ++ [])) := by rw [← eT]; exact hq
        exact this.seg hS
      rw [List.append_nil] at hq2
      refine stable_L2 (l := l) (bs := 20) (Bs := Bs) (C := S) (n := n) (by omega) (by omega) hl ⟨hB, hS.so⟩ (by omega) hD2 (by rw [List.length_append]; omega) hq2 r0 r1 r2 r6 ?_
      intro ρ3 w3 S3 h3 hD3 hm3
      rw [bk_x]
      exact ⟨S3, h3, hD3, (hm.trans hm2).trans hm3⟩
    exact key _ p0 p1 p2 p6 p7
theorem SortStable_ok {v : Value} {B : Nat} (h : w.ownsRow B tMs 8 v l.length (l.flatMap Ms.enc)) (hl : l.length ≤ 1000000) : Rt Try.prog 59 #[v, ordF] w fun _ w' => ∃ S, Stab ltM l S ∧ w'.ownsRow B tMs 8 v S.length (S.flatMap Ms.enc) ∧ Mod (fun b => sb v b) w w' := by
  refine slices_SortStableFunc_queue_Message_queue_Message_calls ?_
  unfold slices_SortStableFunc_queue_Message_queue_Message_F
  have h' := h
  obtain ⟨hlen, ⟨rfl, h0⟩ | ⟨g, cap, cur, rfl, hb, hg, hn, hm, hs, ht⟩⟩ := h
  · have hl0 : l = [] := List.eq_nil_of_length_eq_zero h0
    subst hl0
    rw [len_sl vMsS]
    refine CK_st Try.func74 rfl rfl (stable_nil _ ordF w) ?_
    rintro _ w' rfl
    exact ⟨[], ⟨List.Pairwise.nil, fun _ => rfl⟩, h', Mod.refl _ _⟩
  · rw [len_sl vMsS]
    have hD : Dat w g cap l := owns_base h' (Nat.zero_le _)
    refine CK_st Try.func74 rfl rfl (stable_ok hD rfl hl) ?_
    rintro _ w' ⟨S, hS, hD', hm'⟩
    have lS : S.length = l.length := Stab.len ltM_wo hS.eq
    refine ⟨S, hS, ?_, hm'.mono fun b _ z => by rw [z]; rfl⟩
    obtain ⟨a1, ⟨q, _⟩ | ⟨g', cap', cur', e', b', g2, n', m', s', t'⟩⟩ := hD'
    · cases q
    · cases e'
      exact ⟨a1, .inr ⟨g, cap, cur', by rw [lS], hb, g2, n', m', s', t'⟩⟩
end
end Go.Proofs.Ytmnkedgmpbcicaa.Que
set_option linter.unusedVariables false
set_option linter.unusedSimpArgs false
namespace Go.X
open Go Go.RowKit
section
variable {κ : Type} [DecidableEq κ] {P : Program} {enc : κ → Value}
def IterAt (w : World) (r bm since : Nat) (seen : List Nat) (c : Nat) : Prop := w.heap[r]? = some (.mapIter (some bm) since seen.toArray c)
omit [DecidableEq κ] in
theorem IterAt.mod {S : Nat → Prop} {w w' : World} {r bm since c : Nat} {seen : List Nat} (h : IterAt w r bm since seen c) (hm : Mod S w w') (hS : ¬ S r) : IterAt w' r bm since seen c := hm.blk h hS
omit [DecidableEq κ] in
theorem range_k {w : World} {t k e : TypeId} (ht : P.underlying t = some (.map k e)) {b : Nat} {l : List (Ent κ)} {c : Nat} (h : IsMap enc w b l c) {K : Value → World → Prop}
    (hk : ∀ w', IterAt w' w.heap.size b c [] c → Mod none_ w w' → w'.heap.size = w.heap.size + 1 → K (.pointer (some ⟨w.heap.size, 0, none⟩)) w') : VK P (Instr.range t (.map (some b))) w K :=
  VK_of (run_range_map w t k e b _ c ht h) (new_k w _ hk)
omit [DecidableEq κ] in
theorem next_k {w : World} {r b since c : Nat} {seen : List Nat} {l : List (Ent κ)} {ty : TypeId} (h : IsMap enc w b l c) (hr : IterAt w r b since seen c) (hb : ∀ e ∈ l, e.b < since) (hsc : since ≤ c) {K : Value → World → Prop}
    (h0 : (∀ e ∈ l, e.b ∈ seen) → K (.tuple #[.bool false]) w)
    (h1 : ∀ e ∈ l, e.b ∉ seen → ∀ w', IterAt w' r b since (seen ++ [e.b]) c → Mod (fun i => i = r) w w' → w'.heap.size = w.heap.size → K (.tuple #[.bool true, enc e.k, e.v]) w') : VK P (Instr.next (.pointer (some ⟨r, 0, none⟩)) false ty) w K := by
  rcases run_next_at (P := P) w ty r b since c seen.toArray (l.map (Ent.enc enc)).toArray c hr h (fun x hx => by
      simp only [List.mem_map] at hx
      obtain ⟨e, he, rfl⟩ := hx
      exact hb e he) hsc with ⟨hz, hrun⟩ | ⟨e', he', w1, hw1, hrun⟩
  · refine VK_of hrun (h0 fun e he => ?_)
    have hl : leftOf (l.map (Ent.enc enc)).toArray seen.toArray = #[] := Array.eq_empty_of_size_eq_zero hz
    unfold leftOf at hl
    rw [Array.filter_eq_empty_iff] at hl
    have := hl (e.enc enc) (by simp; exact ⟨e, he, rfl⟩)
    simpa [Ent.enc] using this
  · obtain ⟨hm, hs⟩ := mem_left he'
    simp only [List.mem_map] at hm
    obtain ⟨e, he, rfl⟩ := hm
    have hns : e.b ∉ seen := by simpa [Ent.enc] using hs
    have hb1 : w1.heap = w.heap := by rcases hw1 with rfl | rfl <;> rfl
    have hm1 : Mod none_ w w1 := by
      rcases hw1 with rfl | rfl
      · exact Mod.refl _ _
      · exact (Mod.refl _ w).drawn _
    have hlt : r < w1.heap.size := by rw [hb1]; exact X.blk_lt hr
    refine VK_of hrun (h1 e he hns _ ?_ ((hm1.mono fun _ _ z => z.elim).trans ((Mod.refl _ w1).set _ fun _ => rfl)) (by show (w1.heap.setIfInBounds _ _).size = _; simp [hb1]))
    show (setB w1 r (.mapIter (some b) since (seen.toArray.push e.b) c)).heap[r]? = _
    rw [setB_new _ _ _ hlt, List.push_toArray]
omit [DecidableEq κ] in
theorem entry_k {w : World} {r b since c : Nat} {seen : List Nat} {l : List (Ent κ)} {e : Ent κ} (h : IsMap enc w b l c) (hr : IterAt w r b since (seen ++ [e.b]) c) (he : e ∈ l) (hn : ∀ (i j : Nat) (x y : Ent κ), l[i]? = some x → l[j]? = some y → x.b = y.b → i = j) {K : Value → World → Prop}
    (hk : K (.tuple #[enc e.k, e.v]) w) : VK P (Instr.entry (.pointer (some ⟨r, 0, none⟩))) w K := by
  have hnd : (((l.map (Ent.enc enc)).toArray.toList).map (·.born)).Nodup := by
    simp only [List.map_map, List.Nodup]
    rw [List.pairwise_map, List.pairwise_iff_getElem]
    intro i j hi hj hij q
    have := hn i j _ _ (List.getElem?_eq_getElem hi) (List.getElem?_eq_getElem hj) q
    omega
  have hr' : w.heap[r]? = some (.mapIter (some b) since (seen.toArray.push (e.enc enc).born) c) := by
    have := hr
    unfold IterAt at this
    rw [List.push_toArray]
    exact this
  exact VK_of (run_entry_at (P := P) w r b since seen.toArray _ c (e.enc enc) hr' h (by simp; exact ⟨e, he, rfl⟩) hnd) hk
def togo (l : List (Ent κ)) (seen : List Nat) : Nat := (l.filter fun e => decide (e.b ∉ seen)).length
theorem filt_lt {α : Type} {p q : α → Bool} {e : α} (hpq : ∀ x, q x = true → p x = true) (hp : p e = true) (hq : q e = false) : ∀ {l : List α}, e ∈ l → (l.filter q).length < (l.filter p).length
  | a :: l, he => by
    have le : ∀ l : List α, (l.filter q).length ≤ (l.filter p).length := fun l => by
      induction l with
      | nil => exact Nat.le_refl _
      | cons a l ih =>
        by_cases c : q a = true
        · simp [c, hpq a c, ih]
        · by_cases d : p a = true <;> simp [c, d] <;> omega
    rcases List.mem_cons.1 he with rfl | he
    · simp only [List.filter_cons, hp, hq, if_true, Bool.false_eq_true, if_false, List.length_cons]
      have := le l; omega
    · have ih := filt_lt hpq hp hq he
      by_cases c : q a = true
      · simp [c, hpq a c, ih]
      · by_cases d : p a = true <;> simp [c, d] <;> omega
omit [DecidableEq κ] in
theorem togo_lt {l : List (Ent κ)} {seen : List Nat} {e : Ent κ} (he : e ∈ l) (hn : e.b ∉ seen) : togo l (seen ++ [e.b]) < togo l seen := by
  unfold togo
  exact filt_lt (fun x hx => by simp at hx ⊢; exact hx.1) (by simpa using hn) (by simp) he
end
end Go.X
set_option linter.unusedVariables false
set_option linter.unusedSimpArgs false
set_option maxRecDepth 4000
namespace Go.X
open Go Go.RowKit
def nt (m : Ms) : Bool := !m.taken
theorem flat_one {vs : List (Ent Ch)} {f : Ent Ch → List Ms} (hf : ∀ e ∈ vs, ∀ m ∈ f e, m.ch = e.k) (hd : vs.Pairwise fun a b => a.k ≠ b.k) (c : Ch) : (vs.flatMap f).filter (fun m => decide (m.ch = c)) = match vs.find? (fun e => decide (e.k = c)) with | some e => f e | none => [] := by
  induction vs with
  | nil => rfl
  | cons e vs ih =>
    rw [List.pairwise_cons] at hd
    have ih' := ih (fun x hx => hf x (List.mem_cons_of_mem _ hx)) hd.2
    rw [List.flatMap_cons, List.filter_append]
    by_cases h : e.k = c
    · have e1 : (f e).filter (fun m => decide (m.ch = c)) = f e := List.filter_eq_self.2 fun m hm => by simp [hf e List.mem_cons_self m hm, h]
      have e2 : vs.find? (fun e => decide (e.k = c)) = none := List.find?_eq_none.2 fun x hx => by simpa [h] using fun q : x.k = c => hd.1 x hx (h.trans q.symm)
      rw [ih', e1, e2, List.find?_cons_of_pos (by simpa using h)]
      simp
    · have e1 : (f e).filter (fun m => decide (m.ch = c)) = [] := List.filter_eq_nil_iff.2 fun m hm => by simp [hf e List.mem_cons_self m hm, h]
      rw [ih', e1, List.find?_cons_of_neg (by simpa using h), List.nil_append]
theorem eqv_filter (x : Ms) (l : List Ms) : l.filter (eqv ltM x) = l.filter (fun m => decide (m.ch = x.ch)) := by
  refine List.filter_congr fun m _ => ?_
  rw [Bool.eq_iff_iff, eqv_ch, decide_eq_true_iff]
  exact eq_comm
theorem left_fq {l : List Ms} {V : QV} (h : QInv l V) {vs : List (Ent Ch)} (hs : ∀ e ∈ vs, e ∈ V.er) (hd : vs.Pairwise fun a b => a.k ≠ b.k) (hall : ∀ e ∈ V.er, e.b ∈ vs.map (·.b)) (x : Ms) :
    (vs.flatMap fun e => (rowOf l e.k).filter nt).filter (eqv ltM x) = (l.filter nt).filter (eqv ltM x) := by
  rw [eqv_filter, eqv_filter, flat_one (fun e he m hm => (mem_row.1 (List.mem_filter.1 hm).1).2) hd]
  have comm : ∀ c : Ch, (rowOf l c).filter nt = (l.filter nt).filter (fun m => decide (m.ch = c)) := fun c => by
    unfold rowOf
    rw [List.filter_filter, List.filter_filter]
    refine List.filter_congr fun m _ => ?_
    rw [Bool.and_comm]
  cases hf : vs.find? (fun e => decide (e.k = x.ch)) with
  | some e =>
    have := List.find?_some hf
    dsimp only
    rw [show e.k = x.ch by simpa using this, comm]
  | none =>
    dsimp only
    symm
    refine List.filter_eq_nil_iff.2 fun m hm q => ?_
    have hq : m.ch = x.ch := by simpa using q
    obtain ⟨e, he, hk⟩ := h.cov m (List.mem_filter.1 hm).1
    obtain ⟨e', he', hb⟩ := List.mem_map.1 (hall e he)
    obtain ⟨i, hi, rfl⟩ := List.mem_iff_getElem.1 he
    obtain ⟨j, hj, hj'⟩ := List.mem_iff_getElem.1 (hs e' he')
    have := h.rb i j _ _ (List.getElem?_eq_getElem hi) (List.getElem?_eq_getElem hj) (by rw [hj']; exact hb.symm)
    subst this
    have := List.find?_eq_none.1 hf e' he'
    exact this (by rw [← hj', hk, hq]; simp)
def aheadV (l : List Ms) (f c : Int) : List Ms := match l.find? (Ms.isAt f c) with | none => [] | some m => (rowOf (l.takeWhile fun x => !x.isAt f c) m.ch).filter nt
theorem ahead_row {l : List Ms} (hu : l.Pairwise fun a b => ¬ (a.frm = b.frm ∧ a.call = b.call)) {m : Ms} {f c : Int} (hm : l.find? (Ms.isAt f c) = some m) {j : Nat} (hj : (rowOf l m.ch)[j]? = some m) : (rowOf l m.ch).take j = rowOf (l.takeWhile fun x => !x.isAt f c) m.ch := by
  obtain ⟨hp, xs, ys, rfl, has⟩ := List.find?_eq_some_iff_append.1 hm
  have e1 : (xs ++ m :: ys).takeWhile (fun x => !x.isAt f c) = xs := by
    rw [List.takeWhile_append_of_pos has, List.takeWhile_cons_of_neg (by simp [hp]), List.append_nil]
  have e2 : rowOf (xs ++ m :: ys) m.ch = rowOf xs m.ch ++ m :: rowOf ys m.ch := by unfold rowOf; simp
  rw [e1, e2]
  rw [e2] at hj
  have hur : (rowOf xs m.ch ++ m :: rowOf ys m.ch).Pairwise fun a b => ¬ (a.frm = b.frm ∧ a.call = b.call) := by rw [← e2]; exact hu.filter _
  have hlt := (List.getElem?_eq_some_iff.1 hj).1
  have hat : (rowOf xs m.ch ++ m :: rowOf ys m.ch)[(rowOf xs m.ch).length]? = some m := get_mid
  have : j = (rowOf xs m.ch).length := by
    obtain ⟨hj1, hj2⟩ := List.getElem?_eq_some_iff.1 hj
    obtain ⟨hk1, hk2⟩ := List.getElem?_eq_some_iff.1 hat
    rcases Nat.lt_trichotomy j (rowOf xs m.ch).length with q | q | q
    · exact absurd ⟨by rw [hj2, hk2], by rw [hj2, hk2]⟩ (List.pairwise_iff_getElem.1 hur _ _ hj1 hk1 q)
    · exact q
    · exact absurd ⟨by rw [hj2, hk2], by rw [hj2, hk2]⟩ (List.pairwise_iff_getElem.1 hur _ _ hk1 hj1 q)
  rw [this, List.take_left']
  rfl
theorem fl_take {α : Type} {enc : α → List Value} {k : Nat} (hk : ∀ a, (enc a).length = k) : ∀ (xs : List α) (n : Nat), (xs.flatMap enc).take (n * k) = (xs.take n).flatMap enc
  | [], n => by simp
  | x :: xs, 0 => by simp
  | x :: xs, n + 1 => by
    rw [List.take_succ_cons, List.flatMap_cons, List.flatMap_cons, ← fl_take hk xs n]
    rw [show (n + 1) * k = (enc x).length + n * k by rw [hk, Nat.succ_mul]; omega, List.take_length_add_append]
end Go.X
namespace Go.Proofs.Ytmnkedgmpbcicaa.Que
open Go Go.X Go.RowKit Go.Proofs.Ytmnkedgmpbcicaa.XF Go.Proofs.Ytmnkedgmpbcicaa.XK
theorem owns_bd {w2 : World} {B : Nat} {e : TypeId} {s : Nat} {v : Value} {n : Nat} {xs : List Value} (ho : w2.ownsRow B e s v n xs) : ∀ g, sb v g → B ≤ g ∧ g < w2.heap.size := fun g z => by
  rcases ho.2 with ⟨y, _⟩ | ⟨g', cap', cur', rfl, hb', hg', _⟩
  · unfold sb at z; rw [y] at z; cases z
  · cases z; exact ⟨hb', X.blk_lt hg'⟩
theorem app1 {w : World} {v : Value} {xs : List Ms} {m : Ms} {B : Nat} {K : Value → Value → World → Prop} (ho : w.ownsRow B tMs 8 v xs.length (xs.flatMap Ms.enc)) (hB : B ≤ w.heap.size) (hl : xs.length ≤ 2000000)
    (hk : ∀ x v' w', w'.ownsRow B tMs 8 v' (xs ++ [m]).length ((xs ++ [m]).flatMap Ms.enc) → Mod (fun b => B ≤ b) w w' → K x v' w') :
    VK Try.prog (Instr.buildSlice tMsS 1 [(0, .agg m.enc.toArray)].toArray) w fun x w => IK Try.prog .append #[tMsS, tMsS] tMsS [false, false] [v, x] w (K x) := by
  refine bs_k (cs := m.enc.toArray) (by kernel_rfl) fun w1 hb1 hm1 hz1 => ?_
  refine ap_any eMsS (owns_mod ho hm1 fun _ _ => id) (reads_blk (size := 8) (n := 1) hb1 rfl) (fun u hu => Ms.enc_mem [m] u (by simpa using hu)) (by unfold maxLen; omega) (by omega) (by omega) fun v' w2 ho2 hm2 hv2 => ?_
  refine hk _ v' w2 ?_ ((hm1.mono fun _ _ z => z.elim).trans (hm2.mono fun b _ z => (owns_bd (owns_mod ho hm1 fun _ _ => id) b z.symm).1))
  rw [List.length_append, List.flatMap_append]
  simpa using ho2
section
variable {w : World} {p : Nat} {l : List Ms} {V : QV}
abbrev RowP (w0 : World) (xs : List Ms) : Value → World → Prop := fun v w' => w'.ownsRow w0.heap.size tMs 8 v xs.length (xs.flatMap Ms.enc) ∧ Mod none_ w0 w'
end
end Go.Proofs.Ytmnkedgmpbcicaa.Que
set_option linter.unusedVariables false
set_option linter.unusedSimpArgs false
set_option maxRecDepth 4000
namespace Go.Proofs.Ytmnkedgmpbcicaa.Que
open Go Go.X Go.RowKit Go.Proofs.Ytmnkedgmpbcicaa.XF Go.Proofs.Ytmnkedgmpbcicaa.XK
section
variable {w : World} {p : Nat} {l : List Ms} {V : QV}
theorem left_L2 {K : Exit → Sl → World → Prop} {ρ : Sl} {v o : Value} {row O : List Ms} {B : Nat} (hB : B ≤ w.heap.size) (hr : ∀ w', Mod (fun b => B ≤ b) w w' → MsRow w' v row) (hl : row.length + O.length ≤ 1000000) (hO : w.ownsRow B tMs 8 o O.length (O.flatMap Ms.enc))
    (e21 : ρ 21 = .int .i64 0) (e20 : ρ 20 = .int .i64 row.length) (e19 : ρ 19 = v) (e3 : ρ 3 = o)
    (hk : ∀ ρ' w' o', ρ' 14 = ρ 14 → ρ' 3 = o' → w'.ownsRow B tMs 8 o' (O ++ row.filter nt).length ((O ++ row.filter nt).flatMap Ms.enc) → Mod (fun b => B ≤ b) w w' → K (.exit 2) ρ' w') : W fn_ Try.prog 36 (Code.loop queue_Queue_Left_L2) K ρ w := by
  refine W_loop queue_Queue_Left_L2_ok (fun ρ' w' => ∃ (j : Nat) (o' : Value), j ≤ row.length ∧ ρ' 21 = .int .i64 j ∧ ρ' 20 = .int .i64 row.length ∧ ρ' 19 = v ∧ ρ' 3 = o' ∧ ρ' 14 = ρ 14 ∧ w'.ownsRow B tMs 8 o' (O ++ (row.take j).filter nt).length ((O ++ (row.take j).filter nt).flatMap Ms.enc) ∧ Mod (fun b => B ≤ b) w w') (fun ρ' _ => row.length - (intOf (ρ' 21)).toNat)
    ⟨0, o, by omega, e21, e20, e19, e3, rfl, by simpa using hO, Mod.refl _ _⟩ ?_
  rintro ρ' w3 ⟨j, o', hj, a21, a20, a19, a3, a14, hO3, hm3⟩
  rw [queue_Queue_Left_L2_eq]; unfold queue_Queue_Left_L2_F
  rw [a21, a20, a19, a3, BK_lss]
  have hs3 := hm3.size
  by_cases hlt : j < row.length
  · rw [decide_eq_true (by omega)]
    refine condT ?_
    have hx : row[j]? = some row[j] := List.getElem?_eq_getElem hlt
    have etk : row.take (j + 1) = row.take j ++ [row[j]] := by rw [List.take_add_one, hx]; rfl
    generalize row[j] = x at *
    refine ixMs (hr w3 hm3) hx rfl fun _ => ?_
    refine al_k (cs := zMs.enc.toArray) zMs_z rfl _ fun w4 hb4 hm4 hz4 => ?_
    refine stS (cs := x.enc.toArray) (old := zMs.enc.toArray) rfl rfl (by rw [iMs]; rfl) rfl (Ms.enc_one _) hb4 fun w5 hb5 hm5 hz5 => ?_
    have hm35 : Mod none_ w3 w5 := hm4.fresh hm5 (by omega)
    have hO5 := owns_mod hO3 hm35 fun _ _ => id
    have g7 : FO Try.prog w5 tMs 7 7 ⟨w3.heap.size, 0, none⟩ 4 (.bool x.taken) := FO.blk hb5 (by kernel_rfl) vB rfl rfl
    rw [g7.e, not_ok]
    have hm5' : Mod (fun b => B ≤ b) w w5 := hm3.trans (hm35.mono fun _ _ z => z.elim)
    have nx : ∀ (ρ2 : Sl) (w' : World) (o2 : Value), ρ2 21 = .int .i64 j → ρ2 20 = .int .i64 row.length → ρ2 19 = v → ρ2 3 = o2 → ρ2 14 = ρ' 14 → w'.ownsRow B tMs 8 o2 (O ++ (row.take (j + 1)).filter nt).length ((O ++ (row.take (j + 1)).filter nt).flatMap Ms.enc) → Mod (fun b => B ≤ b) w w' →
        sx fn_ Try.prog 36 queue_Queue_Left_R3 (seqK (fun ρ' w' => (∃ (j : Nat) (o' : Value), j ≤ row.length ∧ ρ' 21 = .int .i64 j ∧ ρ' 20 = .int .i64 row.length ∧ ρ' 19 = v ∧ ρ' 3 = o' ∧ ρ' 14 = ρ 14 ∧ w'.ownsRow B tMs 8 o' (O ++ (row.take j).filter nt).length ((O ++ (row.take j).filter nt).flatMap Ms.enc) ∧ Mod (fun b => B ≤ b) w w') ∧ row.length - (intOf (ρ' 21)).toNat < row.length - (intOf (.int .i64 (j : Int))).toNat) K) ρ2 w' := by
      intro ρ2 w' o2 b21 b20 b19 b3 b14 hO' hm'
      rw [queue_Queue_Left_R3_eq]; unfold queue_Queue_Left_R3_F
      rw [b21, BK_add, wrap_i (by omega) (by omega)]
      refine ⟨⟨j + 1, o2, hlt, rfl, b20, b19, b3, b14.trans a14, hO', hm'⟩, ?_⟩
      show row.length - (intOf (.int .i64 _)).toNat < row.length - (intOf (.int .i64 _)).toNat
      simp only [intOf]; omega
    cases ht : x.taken with
    | true =>
      simp only [Bool.not_true]
      refine condF ?_
      have e1 : (row.take (j + 1)).filter nt = (row.take j).filter nt := by rw [etk, List.filter_append]; simp [nt, ht]
      exact nx _ w5 o' (by first | rfl | exact a21) (by first | rfl | exact a20) (by first | rfl | exact a19) (by first | rfl | exact a3) rfl (by rw [e1]; exact hO5) hm5'
    | false =>
      simp only [Bool.not_false]
      refine condT ?_
      refine ldS rfl Try.underlying39 rfl (by rw [iMs]; rfl) hb5 ?_
      have e1 : (row.take (j + 1)).filter nt = (row.take j).filter nt ++ [x] := by rw [etk, List.filter_append]; simp [nt, ht]
      have hfl : ((row.take j).filter nt).length ≤ row.length := Nat.le_trans (List.length_filter_le _ _) (by rw [List.length_take]; omega)
      refine app1 hO5 (by have := hm35.size; omega) (by rw [List.length_append]; omega) fun _ o2 w6 hO6 hm6 => ?_
      rw [List.append_assoc, ← e1] at hO6
      exact nx _ w6 o2 (by first | rfl | exact a21) (by first | rfl | exact a20) (by first | rfl | exact a19) rfl rfl hO6 (hm5'.trans hm6)
  · rw [decide_eq_false (by omega)]
    refine condF ?_
    obtain rfl : j = row.length := by omega
    rw [sq_x]
    rw [List.take_length] at hO3
    exact hk _ w3 o' a14 a3 hO3 hm3
theorem flatMap_congr' {α β : Type} {f g : α → List β} : ∀ {vs : List α}, (∀ x ∈ vs, f x = g x) → vs.flatMap f = vs.flatMap g
  | [], _ => rfl
  | a :: vs, h => by rw [List.flatMap_cons, List.flatMap_cons, h a List.mem_cons_self, flatMap_congr' fun x hx => h x (List.mem_cons_of_mem _ hx)]
theorem filter_split (l : List Ms) (k : Ch) : (rowOf l k).length + (l.filter fun m => !decide (m.ch = k)).length = l.length := by
  unfold rowOf
  induction l with
  | nil => rfl
  | cons a l ih => by_cases q : a.ch = k <;> simp [q] <;> omega
theorem vis_len {vs : List (Ent Ch)} (h : QInv l V) (hs : ∀ e ∈ vs, e ∈ V.er) (hd : vs.Pairwise fun a b => a.k ≠ b.k) : (vs.flatMap fun e => (rowOf l e.k).filter nt).length ≤ l.length := by
  have key : ∀ (vs : List (Ent Ch)) (l : List Ms), vs.Pairwise (fun a b => a.k ≠ b.k) → (vs.flatMap fun e => (rowOf l e.k).filter nt).length ≤ l.length := by
    intro vs
    induction vs with
    | nil => intro l _; simp
    | cons e vs ih =>
      intro l hd
      rw [List.pairwise_cons] at hd
      rw [List.flatMap_cons, List.length_append]
      have e1 : (vs.flatMap fun x => (rowOf l x.k).filter nt) = vs.flatMap fun x => (rowOf (l.filter fun m => !decide (m.ch = e.k)) x.k).filter nt := by
        refine flatMap_congr' fun x hx => ?_
        congr 1
        unfold rowOf
        rw [List.filter_filter]
        refine List.filter_congr fun m _ => ?_
        by_cases q : m.ch = x.k
        · have : m.ch ≠ e.k := fun z => hd.1 x hx (z.symm.trans q)
          simp [q, this]
          intro z; exact this (q.trans z)
        · simp [q]
      rw [e1]
      have h2 := ih (l.filter fun m => !decide (m.ch = e.k)) hd.2
      have h3 : ((rowOf l e.k).filter nt).length ≤ (rowOf l e.k).length := List.length_filter_le _ _
      have h4 := filter_split l e.k
      omega
  exact key vs l hd
abbrev LeftP (w0 : World) (l : List Ms) : Value → World → Prop := fun v w' => ∃ S, Stab ltM (l.filter nt) S ∧ w'.ownsRow w0.heap.size tMs 8 v S.length (S.flatMap Ms.enc) ∧ Mod none_ w0 w'
theorem Left_ok (h : QAt w p l V) (hL : l.length ≤ 500000) : Rt Try.prog 36 #[.pointer (some ⟨p, 0, none⟩)] w (LeftP w l) := by
  refine queue_Queue_Left_calls ?_
  unfold queue_Queue_Left_F
  refine CK_st Try.func49 rfl rfl (none_ok h) ?_
  rintro _ w1 ⟨rfl, rfl⟩
  refine condF ?_
  rw [NK_ptr, (f_rows h).e]
  refine range_k uR h.rm fun w2 hit hm2 hz2 => ?_
  have h2 := h.calm hm2
  refine W_loopG queue_Queue_Left_L0_ok (fun m ρ w' => ∃ (vs : List (Ent Ch)) (o : Value), m = togo V.er (vs.map (·.b)) ∧ (∀ e ∈ vs, e ∈ V.er) ∧ vs.Pairwise (fun a b => a.k ≠ b.k) ∧ ρ 14 = .pointer (some ⟨w1.heap.size, 0, none⟩) ∧ ρ 3 = o ∧ IterAt w' w1.heap.size V.rb V.c1 (vs.map (·.b)) V.c1 ∧ w'.ownsRow w2.heap.size tMs 8 o (vs.flatMap fun e => (rowOf l e.k).filter nt).length ((vs.flatMap fun e => (rowOf l e.k).filter nt).flatMap Ms.enc) ∧ Mod (fun b => w1.heap.size ≤ b) w2 w' ∧ Mod none_ w1 w') (togo V.er [])
    ⟨[], .slice none 0 0, rfl, by simp, by simp, rfl, rfl, hit, World.ownsRow_nil _ _ _ _, Mod.refl _ _, hm2⟩ ?_
  rintro m ρ w3 ⟨vs, o, hmv, hvs, hvd, e14, e3, hit3, hO3, hm23, hm13⟩
  rw [queue_Queue_Left_L0_eq]; unfold queue_Queue_Left_L0_F
  rw [e14]
  have h3 := h.calm hm13
  refine next_k h3.rm hit3 h3.inv.rc (Nat.le_refl _) (fun hall => ?_) (fun e he hne w4 hit4 hm4 hz4 => ?_)
  · rw [extract_ok (v := .bool false) rfl]
    refine condF ?_
    rw [sq_x, bk_x, sq_n, queue_Queue_Left_R1_eq]; unfold queue_Queue_Left_R1_F
    have key : ∀ ρ : Sl, ρ 3 = o → CK Try.prog (.func (.func 59) #[] #[]) [ρ 3, ordF] w3 fun x34 w => retK Try.prog [ResultVar.tmp 2] (LeftP w1 l) .ret (up (up (up (up ρ 33 (ρ 3)) 34 x34) 35 (ρ 3)) 2 (ρ 3)) w := by
      intro ρ q3
      rw [q3]
      have hlen := vis_len h.inv hvs hvd
      refine CK_st Try.func59 rfl rfl (SortStable_ok hO3 (by omega)) ?_
      rintro _ w4 ⟨S, hS, hO4, hm4⟩
      refine ⟨S, Stab.trans (left_fq h.inv hvs hvd hall) hS, ?_, hm13.then hm4 fun i hi z => ?_⟩
      · exact owns_base hO4 (by omega)
      · have := (owns_bd hO3 i z).1; omega
    exact key _ e3
  · rw [extract_ok (v := .bool true) rfl]
    refine condT ?_
    have hm14 : Mod none_ w1 w4 := hm13.fresh hm4 (Nat.le_refl _)
    have h4 := h.calm hm14
    refine entry_k h4.rm hit4 he h4.inv.rb ?_
    rw [extract_ok (v := e.v) rfl]
    have hr4 : MsRow w4 e.v (rowOf l e.k) := reads_of_owns (h4.rows e he)
    obtain ⟨A, cc, es, _⟩ := reads_cap hr4
    rw [es, len_sl vMsS, ← es]
    have s12 : w2.heap.size = w1.heap.size + 1 := hz2
    have hO4 := owns_mod hO3 hm4 fun g z y => by have := (owns_bd hO3 g z).1; omega
    have hlen := vis_len h.inv hvs hvd
    have hrl := row_len l e.k
    have s24 : w2.heap.size ≤ w4.heap.size := Nat.le_trans hm23.size (Nat.le_of_eq hz4.symm)
    obtain ⟨O, hOe⟩ : ∃ O, O = vs.flatMap fun e => (rowOf l e.k).filter nt := ⟨_, rfl⟩
    rw [← hOe] at hO4 hlen
    have hsum : (rowOf l e.k).length + O.length ≤ 1000000 := by omega
    refine left_L2 (v := e.v) (o := o) (row := rowOf l e.k) (O := O) (B := w2.heap.size) s24 (fun w' hm' => hr4.mod hm' fun g z y => by have := h.old g (.inr (.inr (.inr ⟨e, he, z⟩))); omega) hsum hO4 rfl rfl rfl (by first | exact e3 | rfl) ?_
    intro ρ5 w5 o5 b14 b3 hO5 hm5
    rw [bk_x, bk_n, sq_n]
    have hmap : (vs ++ [e]).map (·.b) = vs.map (·.b) ++ [e.b] := by simp
    refine ⟨togo V.er ((vs ++ [e]).map (·.b)), by rw [hmv, hmap]; exact togo_lt he hne, vs ++ [e], o5, rfl, fun x hx => ?_, ?_, b14.trans (by first | exact e14 | rfl), b3, ?_, ?_, ?_, ?_⟩
    · rcases List.mem_append.1 hx with z | z
      · exact hvs x z
      · rw [List.mem_singleton.1 z]; exact he
    · rw [List.pairwise_append]
      refine ⟨hvd, by simp, fun a ha b hb => ?_⟩
      rw [List.mem_singleton.1 hb]
      intro hk
      obtain ⟨i, hi, hi'⟩ := List.mem_iff_getElem.1 (hvs a ha)
      obtain ⟨j, hj, hj'⟩ := List.mem_iff_getElem.1 he
      have := h.inv.rk i j _ _ (List.getElem?_eq_getElem hi) (List.getElem?_eq_getElem hj) (by rw [hi', hj']; exact hk)
      subst this
      rw [hi'] at hj'
      subst hj'
      exact hne (List.mem_map_of_mem ha)
    · rw [hmap]
      exact hit4.mod hm5 (by omega)
    · have e1 : ((vs ++ [e]).flatMap fun e => (rowOf l e.k).filter nt) = (vs.flatMap fun e => (rowOf l e.k).filter nt) ++ (rowOf l e.k).filter nt := by simp
      rw [e1, ← hOe]; exact hO5
    · exact (hm23.trans (hm4.mono fun b _ z => by omega)).trans (hm5.mono fun b _ z => by omega)
    · exact hm14.then hm5 fun i hi z => by omega
end
end Go.Proofs.Ytmnkedgmpbcicaa.Que
set_option linter.unusedVariables false
set_option linter.unusedSimpArgs false
set_option maxRecDepth 4000
namespace Go.X
open Go Go.RowKit
theorem bs0_k {P : Program} {w : World} {K : Value → World → Prop} {t e : TypeId} {n : Nat} (hu : P.underlying t = some (.slice e)) (hi : (P.info? e).map (·.size) = some n)
    (hk : ∀ w', w'.heap[w.heap.size]? = some (.cells #[] e (0, 0)) → Mod none_ w w' → w'.heap.size = w.heap.size + 1 → K (.slice (some ⟨w.heap.size, 0, none⟩) 0 0) w') : VK P (Instr.buildSlice t 0 [].toArray) w K := by
  obtain ⟨ie, hie, _⟩ := Option.map_eq_some_iff.1 hi
  have hr : (Instr.buildSlice t 0 [].toArray).run P w = .ok (.slice (some ⟨w.heap.size, 0, none⟩) 0 0) (w.alloc (.cells #[] e)) := by
    simp [Instr.buildSlice, Sem.run_bind, run_underlying hu, sizeOf, typeInfo, hie, Instr.fill, newRow]
    rw [Array.eq_empty_of_size_eq_zero (xs := Array.map _ (Array.range 0)) (by simp)]
  exact VK_of hr (new_k w _ hk)
theorem owns_zero {w : World} {b : Nat} {e : TypeId} {size base : Nat} (h : w.heap[b]? = some (.cells #[] e (0, 0))) (hb : base ≤ b) : w.ownsRow base e size (.slice (some ⟨b, 0, none⟩) 0 0) 0 [] :=
  ⟨by simp, .inr ⟨b, 0, #[], rfl, hb, h, Nat.le_refl _, Nat.zero_le _, by simp, by simp⟩⟩
end Go.X
namespace Go.Proofs.Ytmnkedgmpbcicaa.Que
open Go Go.X Go.RowKit Go.Proofs.Ytmnkedgmpbcicaa.XF Go.Proofs.Ytmnkedgmpbcicaa.XK
theorem BK_sln {t e : TypeId} (h : Try.prog.underlying t = some (.slice e)) {w : World} {K : Value → World → Prop} {x y : Operand} (a : Option Addr) (n c : Nat) : BK Try.prog .eql t x y (.slice a n c) (.slice none 0 0) w K = K (.bool a.isNone) w :=
  BK_of rfl (Lib.run_eql_slice_nil w t e a n c 0 0 h)
theorem clone_ok {w : World} {v : Value} {l : List Ms} (h : MsRow w v l) (hn : l.length ≤ 1000000) : Rt Try.prog 72 #[v] w fun v' w' => w'.ownsRow w.heap.size tMs 8 v' l.length (l.flatMap Ms.enc) ∧ Mod none_ w w' := by
  refine slices_Clone_queue_Message_queue_Message_calls ?_
  unfold slices_Clone_queue_Message_queue_Message_F
  have h' := h
  obtain ⟨hl, A, c, rfl, hnc, hr⟩ := h
  rw [BK_sln vMsS]
  cases A with
  | none =>
    refine condT ⟨?_, Mod.refl _ _⟩
    have h0 : l = [] := by
      cases l with
      | nil => rfl
      | cons a l =>
        obtain ⟨b, hb, _⟩ := hr 0 (strV a.key) rfl
        cases hb
    subst h0
    exact World.ownsRow_nil _ _ _ _
  | some a =>
    refine condF ?_
    refine bs0_k vMsS iMs fun w1 hb1 hm1 hz1 => ?_
    have hown : w1.ownsRow w.heap.size tMs 8 (.slice (some ⟨w.heap.size, 0, none⟩) 0 0) 0 [] := owns_zero hb1 (Nat.le_refl _)
    refine ap_any eMsS hown (h'.calm hm1) (Ms.enc_mem l) (by unfold maxLen; omega) (by omega) (by omega) fun v' w' h2 hm2 _ => ?_
    refine ⟨by simpa using h2, hm1.then hm2 fun i hi q => ?_⟩
    have : i = w.heap.size := by simpa [Value.ownBlock] using q
    omega
structure CpR (w' : World) (B rb : Nat) (l : List Ms) (vs E : List (Ent Ch)) : Prop where
  map : IsMap encC w' rb E E.length
  keys : E.map (·.k) = vs.map (·.k)
  born : ∀ (i : Nat) (e : Ent Ch), E[i]? = some e → e.b = i
  rows : ∀ e ∈ E, w'.ownsRow B tMs 8 e.v (rowOf l e.k).length ((rowOf l e.k).flatMap Ms.enc)
  dist : ∀ (i j : Nat) (a b : Ent Ch), E[i]? = some a → E[j]? = some b → i ≠ j → ∀ g, sb a.v g → ¬ sb b.v g
section
variable {w : World} {p : Nat} {l : List Ms} {V : QV}
theorem CpR.mod {S : Nat → Prop} {w1 w2 : World} {B rb : Nat} {vs E : List (Ent Ch)} (h : CpR w1 B rb l vs E) (hm : Mod S w1 w2) (h1 : ¬ S rb) (h2 : ∀ e ∈ E, ∀ g, sb e.v g → ¬ S g) : CpR w2 B rb l vs E :=
  ⟨h.map.mod hm h1, h.keys, h.born, fun e he => owns_mod (h.rows e he) hm fun g z => h2 e he g z, h.dist⟩
theorem CpR.snoc {w1 w2 : World} {B rb : Nat} {vs E : List (Ent Ch)} {e : Ent Ch} {v : Value} (h : CpR w1 B rb l vs E) (hn : ∀ x ∈ vs, x.k ≠ e.k) (ho : w1.ownsRow B tMs 8 v (rowOf l e.k).length ((rowOf l e.k).flatMap Ms.enc)) (hv : ∀ g, sb v g → g ≠ rb ∧ ∀ x ∈ E, ¬ sb x.v g) (hE : ∀ x ∈ E, ¬ sb x.v rb)
    (hm : Mod (fun b => b = rb) w1 w2) (hmap : IsMap encC w2 rb (putE e.k v E.length E) (clkE e.k E.length E)) : CpR w2 B rb l (vs ++ [e]) (E ++ [⟨e.k, v, E.length⟩]) := by
  have hf : findE e.k E 0 = none := by
    refine findE_none.2 fun x hx q => ?_
    have : x.k ∈ vs.map (·.k) := by rw [← h.keys]; exact List.mem_map_of_mem hx
    obtain ⟨y, hy, hk⟩ := List.mem_map.1 this
    exact hn y hy (hk.trans q)
  unfold putE clkE at hmap
  rw [hf] at hmap
  refine ⟨by rw [List.length_append]; exact hmap, by rw [List.map_append, List.map_append, h.keys]; rfl, fun i x hx => ?_, fun x hx => ?_, fun i j a b hi hj hij g ha hb => ?_⟩
  · rcases app_get hx with z | ⟨z, rfl⟩
    · exact h.born i x z
    · exact z.symm
  · rcases List.mem_append.1 hx with z | z
    · exact owns_mod (h.rows x z) hm fun g q y => hE x z (y ▸ q)
    · rw [List.mem_singleton.1 z]
      exact owns_mod ho hm fun g q y => (hv g q).1 y
  · rcases app_get hi with z | ⟨z, rfl⟩ <;> rcases app_get hj with y | ⟨y, rfl⟩
    · exact h.dist i j a b z y hij g ha hb
    · exact (hv g hb).2 a (List.mem_of_getElem? z) ha
    · exact (hv g ha).2 b (List.mem_of_getElem? y) hb
    · omega
structure CpA (w' : World) (ab : Nat) (vs E : List (Ent (Int × Int))) : Prop where
  map : IsMap encSt w' ab E E.length
  kv : E.map (fun e => (e.k, e.v)) = vs.map (fun e => (e.k, e.v))
  born : ∀ (i : Nat) (e : Ent (Int × Int)), E[i]? = some e → e.b = i
theorem CpA.snoc {w2 : World} {ab : Nat} {vs E : List (Ent (Int × Int))} {e : Ent (Int × Int)} (hb : ∀ (i : Nat) (e : Ent (Int × Int)), E[i]? = some e → e.b = i) (hkv : E.map (fun e => (e.k, e.v)) = vs.map (fun e => (e.k, e.v))) (hn : ∀ x ∈ vs, x.k ≠ e.k)
    (hmap : IsMap encSt w2 ab (putE e.k e.v E.length E) (clkE e.k E.length E)) : CpA w2 ab (vs ++ [e]) (E ++ [⟨e.k, e.v, E.length⟩]) := by
  have hf : findE e.k E 0 = none := by
    refine findE_none.2 fun x hx q => ?_
    have : (x.k, x.v) ∈ vs.map (fun e => (e.k, e.v)) := by rw [← hkv]; exact List.mem_map_of_mem (f := fun e : Ent (Int × Int) => (e.k, e.v)) hx
    obtain ⟨y, hy, hk⟩ := List.mem_map.1 this
    have hk' : y.k = x.k := congrArg Prod.fst hk
    exact hn y hy (hk'.trans q)
  unfold putE clkE at hmap
  rw [hf] at hmap
  refine ⟨by rw [List.length_append]; exact hmap, by rw [List.map_append, List.map_append, hkv]; rfl, fun i x hx => ?_⟩
  rcases app_get hx with z | ⟨z, rfl⟩
  · exact hb i x z
  · exact z.symm
theorem findE_map {κ : Type} [DecidableEq κ] {k : κ} : ∀ {l : List (Ent κ)} {n : Nat}, (findE k l n).map (·.2) = (l.find? fun e => decide (e.k = k)).map (·.v)
  | [], n => rfl
  | e :: r, n => by
    unfold findE
    by_cases h : k = e.k
    · rw [if_pos h, List.find?_cons_of_pos (by simp [h])]; rfl
    · rw [if_neg h, List.find?_cons_of_neg (by simpa using fun q : e.k = k => h q.symm)]
      exact findE_map
theorem findE_perm {κ : Type} [DecidableEq κ] {l vs E : List (Ent κ)} (hl : ∀ (i j : Nat) (a b : Ent κ), l[i]? = some a → l[j]? = some b → a.k = b.k → i = j) (hkv : E.map (fun e => (e.k, e.v)) = vs.map (fun e => (e.k, e.v))) (hs : ∀ e ∈ vs, e ∈ l) (hall : ∀ e ∈ l, e ∈ vs) (k : κ) :
    (findE k E 0).map (·.2) = (findE k l 0).map (·.2) := by
  rw [findE_map, findE_map]
  have e1 : ∀ (a : List (Ent κ)), (a.find? fun e => decide (e.k = k)).map (·.v) = ((a.map fun e => (e.k, e.v)).find? fun x => decide (x.1 = k)).map (·.2) := fun a => by
    rw [List.find?_map]
    simp [Option.map_map, Function.comp_def]
  rw [e1 E, hkv, ← e1 vs]
  cases h1 : l.find? (fun e => decide (e.k = k)) with
  | none =>
    have : vs.find? (fun e => decide (e.k = k)) = none := List.find?_eq_none.2 fun x hx => List.find?_eq_none.1 h1 x (hs x hx)
    rw [this]
  | some a =>
    have ha := List.mem_of_find?_eq_some h1
    have hak : a.k = k := by simpa using List.find?_some h1
    cases h2 : vs.find? (fun e => decide (e.k = k)) with
    | none => exact absurd (List.find?_eq_none.1 h2 a (hall a ha)) (by simp [hak])
    | some b =>
      have hb := hs b (List.mem_of_find?_eq_some h2)
      have hbk : b.k = k := by simpa using List.find?_some h2
      obtain ⟨i, hi, hi'⟩ := List.mem_iff_getElem.1 ha
      obtain ⟨j, hj, hj'⟩ := List.mem_iff_getElem.1 hb
      have := hl i j _ _ (List.getElem?_eq_getElem hi) (List.getElem?_eq_getElem hj) (by rw [hi', hj', hak, hbk])
      subst this
      rw [hi'] at hj'
      rw [hj']
end
end Go.Proofs.Ytmnkedgmpbcicaa.Que
set_option linter.unusedVariables false
set_option linter.unusedSimpArgs false
set_option maxRecDepth 4000
namespace Go.Proofs.Ytmnkedgmpbcicaa.Que
open Go Go.X Go.RowKit Go.Proofs.Ytmnkedgmpbcicaa.XF Go.Proofs.Ytmnkedgmpbcicaa.XK
section
variable {w : World} {p : Nat} {l : List Ms} {V : QV}
theorem mem_of_born {κ : Type} {L vs : List (Ent κ)} (hb : ∀ (i j : Nat) (a b : Ent κ), L[i]? = some a → L[j]? = some b → a.b = b.b → i = j) (hs : ∀ e ∈ vs, e ∈ L) (hall : ∀ e ∈ L, e.b ∈ vs.map (·.b)) : ∀ e ∈ L, e ∈ vs := by
  intro e he
  obtain ⟨x, hx, hxb⟩ := List.mem_map.1 (hall e he)
  obtain ⟨i, hi, hi'⟩ := List.mem_iff_getElem.1 he
  obtain ⟨j, hj, hj'⟩ := List.mem_iff_getElem.1 (hs x hx)
  have := hb i j _ _ (List.getElem?_eq_getElem hi) (List.getElem?_eq_getElem hj) (by rw [hi', hj', hxb])
  subst this
  rw [hi'] at hj'
  rw [hj']; exact hx
theorem key_ne {κ : Type} {L vs : List (Ent κ)} {e : Ent κ} (hk : ∀ (i j : Nat) (a b : Ent κ), L[i]? = some a → L[j]? = some b → a.k = b.k → i = j) (hs : ∀ e ∈ vs, e ∈ L) (he : e ∈ L) (hne : e.b ∉ vs.map (·.b)) : ∀ x ∈ vs, x.k ≠ e.k := by
  intro x hx q
  obtain ⟨i, hi, hi'⟩ := List.mem_iff_getElem.1 (hs x hx)
  obtain ⟨j, hj, hj'⟩ := List.mem_iff_getElem.1 he
  have := hk i j _ _ (List.getElem?_eq_getElem hi) (List.getElem?_eq_getElem hj) (by rw [hi', hj']; exact q)
  subst this
  rw [hi'] at hj'
  subst hj'
  exact hne (List.mem_map_of_mem hx)
theorem copied {w' : World} {q B rb ab : Nat} {vs E : List (Ent Ch)} {us A : List (Ent (Int × Int))} (h : QInv l V) (hb : w'.heap[q]? = some (.cells #[.map (some rb), .map (some ab)] 89 (0, 0))) (hne : rb ≠ ab) (hR : CpR w' B rb l vs E) (hvs : ∀ e ∈ vs, e ∈ V.er) (hvd : vs.Pairwise fun a b => a.k ≠ b.k) (hva : ∀ e ∈ V.er, e.b ∈ vs.map (·.b))
    (hA : CpA w' ab us A) (hus : ∀ e ∈ us, e ∈ V.ea) (hud : us.Pairwise fun a b => a.k ≠ b.k) (hua : ∀ e ∈ V.ea, e.b ∈ us.map (·.b)) : QAt w' q l ⟨rb, ab, E, A, E.length, A.length⟩ := by
  refine ⟨hb, hR.map, hA.map, fun e he => owns_base (hR.rows e he) (Nat.zero_le _), hne, ⟨?_, ?_, ?_, ?_, hR.dist, ?_, h.uniq, ?_, ?_, ?_⟩⟩
  · intro i j a b hi hj hk
    have gi : (E.map (·.k))[i]? = some a.k := by rw [List.getElem?_map, hi]; rfl
    have gj : (E.map (·.k))[j]? = some b.k := by rw [List.getElem?_map, hj]; rfl
    rw [hR.keys, List.getElem?_map] at gi gj
    obtain ⟨x, hx, hxk⟩ := Option.map_eq_some_iff.1 gi
    obtain ⟨y, hy, hyk⟩ := Option.map_eq_some_iff.1 gj
    obtain ⟨hi1, hi2⟩ := List.getElem?_eq_some_iff.1 hx
    obtain ⟨hj1, hj2⟩ := List.getElem?_eq_some_iff.1 hy
    rcases Nat.lt_trichotomy i j with z | z | z
    · exact absurd (by rw [hi2, hj2, hxk, hyk, hk]) (List.pairwise_iff_getElem.1 hvd i j hi1 hj1 z)
    · exact z
    · exact absurd (by rw [hi2, hj2, hxk, hyk, hk]) (List.pairwise_iff_getElem.1 hvd j i hj1 hi1 z)
  · intro i j a b hi hj hk
    rw [hR.born i a hi, hR.born j b hj] at hk
    exact hk
  · intro e he
    obtain ⟨i, hi, rfl⟩ := List.mem_iff_getElem.1 he
    rw [hR.born i _ (List.getElem?_eq_getElem hi)]
    exact hi
  · intro m hm
    obtain ⟨e, he, hk⟩ := h.cov m hm
    have hev := mem_of_born h.rb hvs hva e he
    have : e.k ∈ E.map (·.k) := by rw [hR.keys]; exact List.mem_map_of_mem hev
    obtain ⟨x, hx, hxk⟩ := List.mem_map.1 this
    exact ⟨x, hx, hxk.trans hk⟩
  · intro k
    rw [← h.at_ k]
    exact findE_perm h.ak hA.kv hus (mem_of_born h.abn hus hua) k
  · intro i j a b hi hj hk
    have gi : (A.map (fun e => (e.k, e.v)))[i]? = some (a.k, a.v) := by rw [List.getElem?_map, hi]; rfl
    have gj : (A.map (fun e => (e.k, e.v)))[j]? = some (b.k, b.v) := by rw [List.getElem?_map, hj]; rfl
    rw [hA.kv, List.getElem?_map] at gi gj
    obtain ⟨x, hx, hxk⟩ := Option.map_eq_some_iff.1 gi
    obtain ⟨y, hy, hyk⟩ := Option.map_eq_some_iff.1 gj
    have hxk' : x.k = a.k := congrArg Prod.fst hxk
    have hyk' : y.k = b.k := congrArg Prod.fst hyk
    obtain ⟨hi1, hi2⟩ := List.getElem?_eq_some_iff.1 hx
    obtain ⟨hj1, hj2⟩ := List.getElem?_eq_some_iff.1 hy
    rcases Nat.lt_trichotomy i j with z | z | z
    · exact absurd (by rw [hi2, hj2, hxk', hyk', hk]) (List.pairwise_iff_getElem.1 hud i j hi1 hj1 z)
    · exact z
    · exact absurd (by rw [hi2, hj2, hxk', hyk', hk]) (List.pairwise_iff_getElem.1 hud j i hj1 hi1 z)
  · intro i j a b hi hj hk
    rw [hA.born i a hi, hA.born j b hj] at hk
    exact hk
  · intro e he
    obtain ⟨i, hi, rfl⟩ := List.mem_iff_getElem.1 he
    rw [hA.born i _ (List.getElem?_eq_getElem hi)]
    exact hi
theorem zS_z : (Try.prog.info? 94).bind (·.zero) = some (encSt (0, 0)) := by kernel_rfl
abbrev CopyP (w0 : World) (l : List Ms) : Value → World → Prop := fun v w' => ∃ q V', v = .pointer (some ⟨q, 0, none⟩) ∧ QAt w' q l V' ∧ (∀ b, V'.F q b → w0.heap.size ≤ b) ∧ Mod none_ w0 w'
theorem copy_R1 {w0 : World} {ρ : Sl} {q rb ab : Nat} {vs E : List (Ent Ch)} (h0 : QAt w0 p l V) (hm : Mod none_ w0 w) (hq0 : w0.heap.size ≤ q) (hr0 : w0.heap.size ≤ rb) (ha0 : w0.heap.size ≤ ab) (hb : w.heap[q]? = some (.cells #[.map (some rb), .map (some ab)] 89 (0, 0))) (hne : rb ≠ ab) (hR : CpR w w0.heap.size rb l vs E) (hvs : ∀ e ∈ vs, e ∈ V.er) (hvd : vs.Pairwise fun a b => a.k ≠ b.k) (hva : ∀ e ∈ V.er, e.b ∈ vs.map (·.b))
    (hA : IsMap encSt w ab [] 0) (e0 : ρ 0 = .pointer (some ⟨p, 0, none⟩)) (e3 : ρ 3 = .pointer (some ⟨q, 0, none⟩)) : sx fn_ Try.prog 49 queue_Queue_Copy_R1 (retK Try.prog [ResultVar.tmp 2] (CopyP w0 l)) ρ w := by
  have h := h0.calm hm
  rw [queue_Queue_Copy_R1_eq]; unfold queue_Queue_Copy_R1_F
  rw [e0, NK_ptr, (f_at h).e]
  refine range_k uA h.am fun w2 hit hm2 hz2 => ?_
  refine W_loopG queue_Queue_Copy_L3_ok (fun m ρ' w' => ∃ (us A : List (Ent (Int × Int))), m = togo V.ea (us.map (·.b)) ∧ (∀ e ∈ us, e ∈ V.ea) ∧ us.Pairwise (fun a b => a.k ≠ b.k) ∧ ρ' 36 = .pointer (some ⟨w.heap.size, 0, none⟩) ∧ ρ' 3 = .pointer (some ⟨q, 0, none⟩) ∧ IterAt w' w.heap.size V.ab V.c2 (us.map (·.b)) V.c2 ∧ CpA w' ab us A ∧ Mod (fun b => b = ab ∨ w.heap.size ≤ b) w w') (togo V.ea [])
    ⟨[], [], rfl, by simp, by simp, rfl, e3, hit, ⟨hA.mod hm2 id, rfl, by simp⟩, hm2.mono fun _ _ z => z.elim⟩ ?_
  rintro m ρ' w3 ⟨us, A, hmv, hus, hud, q36, q3, hit3, hA3, hm3⟩
  rw [queue_Queue_Copy_L3_eq]; unfold queue_Queue_Copy_L3_F
  rw [q36]
  have hmm : Mod none_ w0 w3 := hm.then hm3 fun i hi z => by have := hm.size; omega
  have h3 := h0.calm hmm
  have habl : ab < w.heap.size := X.blk_lt hA
  have hql : q < w.heap.size := X.blk_lt hb
  have hrl : rb < w.heap.size := X.blk_lt hR.map
  have hqa : q ≠ ab := fun z => by subst z; have := hA; unfold IsMap at this; rw [hb] at this; cases this
  refine next_k h3.am hit3 h3.inv.ac (Nat.le_refl _) (fun hall => ?_) (fun e he hne4 w4 hit4 hm4 hz4 => ?_)
  · rw [extract_ok (v := .bool false) rfl]
    refine condF ?_
    rw [sq_x, bk_x, sq_n, queue_Queue_Copy_R4_eq]; unfold queue_Queue_Copy_R4_F
    have hRr : ∀ x ∈ E, ∀ g, sb x.v g → ¬ (fun b => b = ab ∨ w.heap.size ≤ b) g := fun x hx g z y => by
      have := (owns_bd (hR.rows x hx) g z).2
      rcases y with y | y
      · obtain ⟨c, hc⟩ := owns_blk (hR.rows x hx) z
        rw [y] at hc
        have hA' := hA
        unfold IsMap at hA'
        rw [hc] at hA'; cases hA'
      · omega
    have hR3 := hR.mod hm3 (by intro y; rcases y with y | y; exact hne y; omega) hRr
    refine ⟨q, _, q3, copied h0.inv (hm3.blk hb (by intro y; rcases y with y | y; exact hqa y; omega)) hne hR3 hvs hvd hva hA3 hus hud hall, fun b z => ?_, hmm⟩
    rcases z with z | z | z | ⟨x, hx, z⟩
    · omega
    · dsimp only at z; omega
    · dsimp only at z; omega
    · exact (owns_bd (hR3.rows x hx) b z).1
  · rw [extract_ok (v := .bool true) rfl]
    refine condT ?_
    have hm4' : Mod none_ w0 w4 := hmm.then hm4 fun i hi z => by have := hm.size; omega
    have h4 := h0.calm hm4'
    refine entry_k h4.am hit4 he h4.inv.abn ?_
    obtain ⟨ek, ev, eb⟩ := e
    have hev : ∃ c : Ch, ev = encC c := by
      have h1 := h0.inv.at_ ek
      obtain ⟨i, e', hfe, hei, hek, hem⟩ := findE_ex (k := ek) (l := V.ea) ⟨_, he, rfl⟩
      rw [hfe] at h1
      obtain ⟨i2, hi2, hi2'⟩ := List.mem_iff_getElem.1 he
      obtain ⟨hi1, hi1'⟩ := List.getElem?_eq_some_iff.1 hei
      have := h0.inv.ak i i2 _ _ hei (List.getElem?_eq_getElem hi2) (by rw [hi2', hek])
      subst this
      rw [hi1'] at hi2'
      cases hz : l.find? (Ms.isAt ek.1 ek.2) with
      | none => rw [hz] at h1; cases h1
      | some x => rw [hz] at h1; exact ⟨x.ch, by rw [show ev = e'.v by rw [hi2']]; simpa using h1⟩
    obtain ⟨c, rfl⟩ := hev
    dsimp only
    rw [extract_ok (v := encSt ek) rfl, extract_ok (v := encC c) rfl]
    refine al_k (cs := #[.int .i64 0, .int .i64 0]) zS_z rfl _ fun w5 hb5 hm5 hz5 => ?_
    refine al_k (cs := #[strV [], .int .i64 0, .int .i64 0]) zC_z rfl _ fun w6 hb6 hm6 hz6 => ?_
    refine stS (cs := #[.int .i64 ek.1, .int .i64 ek.2]) (old := #[.int .i64 0, .int .i64 0]) rfl rfl (by kernel_rfl) rfl (by simp [Value.oneCell']) (hm6.blk hb5 id) fun w7 hb7 hm7 hz7 => ?_
    refine stS (cs := #[strV c.1, .int .i64 c.2.1, .int .i64 c.2.2]) (old := #[strV [], .int .i64 0, .int .i64 0]) rfl rfl (by kernel_rfl) rfl (by simp [Value.oneCell', strV]) (hm7.blk hb6 (by omega)) fun w8 hb8 hm8 hz8 => ?_
    have hb7' := hm8.blk hb7 (by omega)
    have s3 : w.heap.size < w3.heap.size := X.blk_lt hit3
    have hm48 : Mod (fun b => w.heap.size < b) w4 w8 := (((hm5.trans hm6).mono fun _ _ z => z.elim).trans (hm7.mono fun b _ (z : b = w4.heap.size) => by show w.heap.size < b; omega)).trans (hm8.mono fun b _ (z : b = w5.heap.size) => by show w.heap.size < b; omega)
    refine queue_Queue_Copy_R5_tail (D := []) ?_
    have hd : Mod none_ w8 { w8 with drawn := w8.drawn + 1 } := (Mod.refl _ w8).drawn _
    generalize ({ w8 with drawn := w8.drawn + 1 } : World) = w9 at *
    unfold queue_Queue_Copy_R5_T
    simp only [sq_n, sq_x, sq_r, bk_n, bk_r, bk_x, rt_r, rt_n, rs_0, rs_t, pk_1, pk_2, up_at, reduceIte, Nat.reduceEqDiff, q3]
    have hm39 : Mod (fun b => b = ab ∨ w.heap.size ≤ b) w w9 := ((hm3.trans (hm4.mono fun b _ z => .inr (by omega))).trans (hm48.mono fun b _ z => .inr (by omega))).trans (hd.mono fun _ _ z => z.elim)
    have hb9 : w9.heap[q]? = some (.cells #[.map (some rb), .map (some ab)] 89 (0, 0)) := hm39.blk hb (by intro y; rcases y with y | y; exact hqa y; omega)
    refine QN_ptr (Qfo (off := 1) (by kernel_rfl) (Qld uA rfl (v := .map (some ab)) (fun w' hw => by rw [hw, add_pl, cell_blk hb9]; rfl) ?_))
    refine QV_of (v := encSt ek) (fun w' hw => by rw [hw]; exact run_ldB Try.underlying94 rfl (by kernel_rfl) (hd.blk hb7' id)) ?_
    refine QV_of (v := encC c) (fun w' hw => by rw [hw]; exact run_ldB Try.underlying91 rfl (by kernel_rfl) (hd.blk hb8 id)) ?_
    have hA9 : IsMap encSt w9 ab A A.length := ((hA3.map.mod hm4 (by omega)).mod hm48 (by omega)).mod hd id
    obtain ⟨w10, hrun, hmap, hm10⟩ := run_put KS uA hA9 ek (encC c)
    refine UK_of hrun ?_
    have hmapb : (us ++ [(⟨ek, encC c, eb⟩ : Ent (Int × Int))]).map (·.b) = us.map (·.b) ++ [eb] := by simp
    have hkn := key_ne h0.inv.ak hus he hne4
    refine ⟨togo V.ea ((us ++ [(⟨ek, encC c, eb⟩ : Ent (Int × Int))]).map (·.b)), by rw [hmv, hmapb]; exact togo_lt he hne4, us ++ [⟨ek, encC c, eb⟩], A ++ [⟨ek, encC c, A.length⟩], rfl, fun x hx => ?_, ?_, q36, by first | exact q3 | trivial, ?_, CpA.snoc (e := ⟨ek, encC c, eb⟩) hA3.born hA3.kv hkn hmap, ?_⟩
    · rcases List.mem_append.1 hx with z | z
      · exact hus x z
      · rw [List.mem_singleton.1 z]; exact he
    · rw [List.pairwise_append]
      exact ⟨hud, by simp, fun a ha b hb => by rw [List.mem_singleton.1 hb]; exact hkn a ha⟩
    · rw [hmapb]
      exact (((hit4.mod hm48 (by omega)).mod hd id).mod hm10 (by omega))
    · exact hm39.trans (hm10.mono fun b _ z => .inl z)
end
end Go.Proofs.Ytmnkedgmpbcicaa.Que
set_option linter.unusedVariables false
set_option linter.unusedSimpArgs false
set_option maxRecDepth 4000
namespace Go.Proofs.Ytmnkedgmpbcicaa.Que
open Go Go.X Go.RowKit Go.Proofs.Ytmnkedgmpbcicaa.XF Go.Proofs.Ytmnkedgmpbcicaa.XK
section
variable {w : World} {p : Nat} {l : List Ms} {V : QV}
theorem New2_ok (w : World) : Rt Try.prog 23 #[] w fun v w' => ∃ q rb ab, v = .pointer (some ⟨q, 0, none⟩) ∧ w'.heap[q]? = some (.cells #[.map (some rb), .map (some ab)] 89 (0, 0)) ∧ rb ≠ ab ∧ IsMap encC w' rb [] 0 ∧ IsMap encSt w' ab [] 0 ∧ w.heap.size ≤ q ∧ w.heap.size ≤ rb ∧ w.heap.size ≤ ab ∧ Mod none_ w w' := by
  refine queue_New_calls ?_
  unfold queue_New_F
  refine make_ok (enc := encC) _ fun w1 h1 hm1 hz1 => ?_
  refine make_ok (enc := encSt) _ fun w2 h2 hm2 hz2 => ?_
  rw [build_ok (cs := #[.map (some w.heap.size), .map (some w1.heap.size)]) (by kernel_rfl)]
  refine box_k (cs := #[.map (some w.heap.size), .map (some w1.heap.size)]) rfl fun w3 hb3 hm3 hz3 => ?_
  exact ⟨w2.heap.size, w.heap.size, w1.heap.size, rfl, hb3, by omega, (h1.mod hm2 id).mod hm3 id, h2.mod hm3 id, by omega, by omega, by omega, (hm1.trans hm2).trans hm3⟩
theorem Copy_ok (h : QAt w p l V) (hL : l.length ≤ 500000) : Rt Try.prog 55 #[.pointer (some ⟨p, 0, none⟩)] w (CopyP w l) := by
  refine queue_Queue_Copy_calls ?_
  unfold queue_Queue_Copy_F
  rw [BK_eqlP uQ]
  refine condF ?_
  refine CK_st Try.func49 rfl rfl (none_ok h) ?_
  rintro _ w1 ⟨rfl, rfl⟩
  refine condF ?_
  refine CK_st Try.func23 rfl rfl (New2_ok w1) ?_
  rintro _ w2 ⟨q, rb, ab, rfl, hb2, hne, hR2, hA2, hq0, hr0, ha0, hm2⟩
  have h2 := h.calm hm2
  rw [NK_ptr, (f_rows h2).e]
  refine range_k uR h2.rm fun w3 hit hm3 hz3 => ?_
  have habl : ab < w2.heap.size := X.blk_lt hA2
  have hql : q < w2.heap.size := X.blk_lt hb2
  have hrl : rb < w2.heap.size := X.blk_lt hR2
  have hqr : q ≠ rb := fun z => by subst z; have := hR2; unfold IsMap at this; rw [hb2] at this; cases this
  refine W_loopG queue_Queue_Copy_L0_ok (fun m ρ w' => ∃ (vs E : List (Ent Ch)), m = togo V.er (vs.map (·.b)) ∧ (∀ e ∈ vs, e ∈ V.er) ∧ vs.Pairwise (fun a b => a.k ≠ b.k) ∧ ρ 0 = .pointer (some ⟨p, 0, none⟩) ∧ ρ 19 = .pointer (some ⟨w2.heap.size, 0, none⟩) ∧ ρ 3 = .pointer (some ⟨q, 0, none⟩) ∧ IterAt w' w2.heap.size V.rb V.c1 (vs.map (·.b)) V.c1 ∧ CpR w' w3.heap.size rb l vs E ∧ Mod (fun b => b = rb ∨ w2.heap.size ≤ b) w2 w') (togo V.er [])
    ⟨[], [], rfl, by simp, by simp, rfl, rfl, rfl, hit, ⟨hR2.mod hm3 id, rfl, by simp, by simp, by simp⟩, hm3.mono fun _ _ z => z.elim⟩ ?_
  rintro m ρ w4 ⟨vs, E, hmv, hvs, hvd, e0, e19, e3, hit4, hE4, hm4⟩
  rw [queue_Queue_Copy_L0_eq]; unfold queue_Queue_Copy_L0_F
  rw [e19]
  have hm14 : Mod none_ w1 w4 := hm2.then hm4 fun i hi z => by have := hm2.size; omega
  have h4 := h.calm hm14
  refine next_k h4.rm hit4 h4.inv.rc (Nat.le_refl _) (fun hall => ?_) (fun e he hne5 w5 hit5 hm5 hz5 => ?_)
  · rw [extract_ok (v := .bool false) rfl]
    refine condF ?_
    rw [sq_x, bk_x, sq_n]
    have hE4' : CpR w4 w1.heap.size rb l vs E := ⟨hE4.map, hE4.keys, hE4.born, fun x hx => owns_base (hE4.rows x hx) (by have := hm2.size; omega), hE4.dist⟩
    exact copy_R1 h hm14 hq0 hr0 ha0 (hm4.blk hb2 (by intro y; rcases y with y | y; exact hqr y; omega)) hne hE4' hvs hvd hall (hA2.mod hm4 (by intro y; rcases y with y | y; exact hne y.symm; omega)) e0 e3
  · rw [extract_ok (v := .bool true) rfl]
    refine condT ?_
    have hm15 : Mod none_ w1 w5 := hm14.then hm5 fun i hi z => by have := hm2.size; omega
    have h5 := h.calm hm15
    refine entry_k h5.rm hit5 he h5.inv.rb ?_
    rw [extract_ok (v := encC e.k) rfl, extract_ok (v := e.v) rfl]
    refine al_k (cs := #[strV [], .int .i64 0, .int .i64 0]) zC_z rfl _ fun w6 hb6 hm6 hz6 => ?_
    refine stS (cs := #[strV e.k.1, .int .i64 e.k.2.1, .int .i64 e.k.2.2]) (old := #[strV [], .int .i64 0, .int .i64 0]) rfl rfl (by kernel_rfl) rfl (by simp [Value.oneCell', strV]) hb6 fun w7 hb7 hm7 hz7 => ?_
    have s4 : w2.heap.size < w4.heap.size := X.blk_lt hit4
    have hm57 : Mod none_ w5 w7 := hm6.fresh hm7 (Nat.le_refl _)
    have hm47 : Mod (fun b => b = w2.heap.size) w4 w7 := hm5.trans (hm57.mono fun _ _ z => z.elim)
    refine queue_Queue_Copy_R2_held (D := []) (fun w' => w'.heap[q]? = some (.cells #[.map (some rb), .map (some ab)] 89 (0, 0)) ∧ w'.heap[w5.heap.size]? = some (.cells #[strV e.k.1, .int .i64 e.k.2.1, .int .i64 e.k.2.2] 91 (0, 0))) ?_ ?_
    · exact ⟨hm47.blk (hm4.blk hb2 (by intro y; rcases y with y | y; exact hqr y; omega)) (by omega), hb7⟩
    have hb7q : w7.heap[q]? = some (.cells #[.map (some rb), .map (some ab)] 89 (0, 0)) := hm47.blk (hm4.blk hb2 (by intro y; rcases y with y | y; exact hqr y; omega)) (by omega)
    have hd : Mod none_ w7 { w7 with drawn := w7.drawn + 1 } := (Mod.refl _ w7).drawn _
    have hdz : ({ w7 with drawn := w7.drawn + 1 } : World).heap.size = w7.heap.size := rfl
    generalize ({ w7 with drawn := w7.drawn + 1 } : World) = wd at *
    unfold queue_Queue_Copy_R2_H
    simp only [sq_n, sq_x, sq_r, bk_n, bk_r, bk_x, rt_r, rt_n, rs_0, rs_t, pk_1, pk_2, up_at, reduceIte, Nat.reduceEqDiff, e3]
    refine HN_ptr (HV_of (v := .pointer (some ⟨q, 0, none⟩)) (fun w' _ => by rw [run_fo (off := 0) (by kernel_rfl), add_pl]) ?_)
    refine HV_of (v := .map (some rb)) (fun w' hw => run_ld1 uR rfl (by rw [cell_blk hw.1]; rfl)) ?_
    refine HV_of (v := encC e.k) (fun w' hw => run_ldB Try.underlying91 rfl (by kernel_rfl) hw.2) ?_
    have hmd : Mod none_ w5 wd := hm57.trans hd
    have hrow5 : MsRow w5 e.v (rowOf l e.k) := reads_of_owns (h5.rows e he)
    have hrow : MsRow wd e.v (rowOf l e.k) := hrow5.calm hmd
    have hrl2 := row_len l e.k
    refine CK_st Try.func72 rfl rfl (clone_ok hrow (by omega)) ?_
    rintro v w8 ⟨hO8, hm8⟩
    have hm58 : Mod none_ w5 w8 := hmd.trans hm8
    refine ⟨⟨hm8.blk (hd.blk hb7q id) id, hm8.blk (hd.blk hb7 id) id⟩, ?_⟩
    have hm48 : Mod (fun b => b = w2.heap.size) w4 w8 := hm5.trans (hm58.mono fun _ _ z => z.elim)
    have s48 := hm48.size
    have sd : w4.heap.size ≤ wd.heap.size := by have := hm47.size; omega
    have hE8 : CpR w8 w3.heap.size rb l vs E := hE4.mod hm48 (by omega) fun x hx g z y => by have := (owns_bd (hE4.rows x hx) g z).1; omega
    obtain ⟨w9, hrun, hmap, hm9⟩ := run_put KC uR hE8.map e.k v
    refine UK_of hrun ?_
    have hvn : ∀ g, sb v g → wd.heap.size ≤ g := fun g z => (owns_bd hO8 g z).1
    refine ⟨⟨hm9.blk (hm8.blk (hd.blk hb7q id) id) hqr, hm9.blk (hm8.blk (hd.blk hb7 id) id) (by omega)⟩, ?_⟩
    have hmapb : (vs ++ [e]).map (·.b) = vs.map (·.b) ++ [e.b] := by simp
    have hkn := key_ne h.inv.rk hvs he hne5
    refine ⟨togo V.er ((vs ++ [e]).map (·.b)), by rw [hmv, hmapb]; exact togo_lt he hne5, vs ++ [e], E ++ [⟨e.k, v, E.length⟩], rfl, fun x hx => ?_, ?_, by first | exact e0 | trivial, by first | exact e19 | trivial, by first | exact e3 | trivial, ?_, hE8.snoc (e := e) hkn (owns_base hO8 (by omega)) ?_ ?_ hm9 hmap, ?_⟩
    · rcases List.mem_append.1 hx with z | z
      · exact hvs x z
      · rw [List.mem_singleton.1 z]; exact he
    · rw [List.pairwise_append]
      exact ⟨hvd, by simp, fun a ha b hb => by rw [List.mem_singleton.1 hb]; exact hkn a ha⟩
    · rw [hmapb]
      exact ((hit5.mod hm58 id).mod hm9 (by omega))
    · intro g z
      have hg := hvn g z
      refine ⟨by omega, fun x hx y => ?_⟩
      have := (owns_bd (hE4.rows x hx) g y).2
      omega
    · intro x hx z
      have := (owns_bd (hE4.rows x hx) rb z).1
      omega
    · exact (hm4.trans (hm48.mono fun b _ z => .inr (by omega))).trans (hm9.mono fun b _ z => .inl z)
end
end Go.Proofs.Ytmnkedgmpbcicaa.Que
set_option linter.unusedVariables false
set_option linter.unusedSimpArgs false
set_option maxRecDepth 4000
namespace Go.X
open Go Go.RowKit
theorem idx_find {α : Type} (p : α → Bool) : ∀ l : List α, (l.findIdx? p = none ∧ l.find? p = none) ∨ ∃ (j : Nat) (m : α), l.findIdx? p = some j ∧ l[j]? = some m ∧ l.find? p = some m ∧ l.take j = l.takeWhile fun x => !p x := by
  intro l
  induction l with
  | nil => exact .inl ⟨rfl, rfl⟩
  | cons a l ih =>
    cases h : p a with
    | true => exact .inr ⟨0, a, by simp [List.findIdx?_cons, h], rfl, by simp [h], by simp [h]⟩
    | false =>
      rcases ih with ⟨h1, h2⟩ | ⟨j, m, h1, h2, h3, h4⟩
      · exact .inl ⟨by simp [List.findIdx?_cons, h, h1], by simp [h, h2]⟩
      · exact .inr ⟨j + 1, m, by simp [List.findIdx?_cons, h, h1], by simpa using h2, by simp [h, h3], by simp [h, h4]⟩
theorem all_set {l : List Ms} (hu : l.Pairwise fun a b => ¬ (a.frm = b.frm ∧ a.call = b.call)) {m : Ms} {f c : Int} (hat : m.isAt f c = true) {j : Nat} (hj : l[j]? = some m) : l.map (tk f c) = l.set j { m with taken := true } := by
  apply List.ext_getElem?
  intro i
  rw [List.getElem?_map, List.getElem?_set]
  by_cases e : j = i
  · subst e
    rw [hj, if_pos rfl, if_pos (List.getElem?_eq_some_iff.1 hj).1]
    simp [tk, hat]
  · rw [if_neg e]
    cases hi : l[i]? with
    | none => rfl
    | some x =>
      simp only [Option.map_some]
      congr 1
      unfold tk
      rw [if_neg]
      intro q
      obtain ⟨a, b⟩ := isAt_iff.1 q
      obtain ⟨a', b'⟩ := isAt_iff.1 hat
      obtain ⟨hi1, hi2⟩ := List.getElem?_eq_some_iff.1 hi
      obtain ⟨hj1, hj2⟩ := List.getElem?_eq_some_iff.1 hj
      rcases Nat.lt_trichotomy i j with z | z | z
      · exact List.pairwise_iff_getElem.1 hu i j hi1 hj1 z ⟨by rw [hi2, hj2]; exact a.trans a'.symm, by rw [hi2, hj2]; exact b.trans b'.symm⟩
      · exact e z.symm
      · exact List.pairwise_iff_getElem.1 hu j i hj1 hi1 z ⟨by rw [hi2, hj2]; exact (a.trans a'.symm).symm, by rw [hi2, hj2]; exact (b.trans b'.symm).symm⟩
structure DAt (w : World) (p : Nat) (l : List Ms) (v : Value) : Prop where
  blk : w.heap[p]? = some (.cells #[v] 97 (0, 0))
  own : w.ownsRow 0 39 8 v l.length (l.flatMap Ms.enc)
def DF (p : Nat) (v : Value) (b : Nat) : Prop := b = p ∨ sb v b
structure DFr (p : Nat) (w : World) (v : Value) (w' : World) (v' : Value) : Prop where
  mod : Mod (DF p v) w w'
  f : ∀ b, DF p v' b → DF p v b ∨ w.heap.size ≤ b
theorem DFr.refl (p : Nat) (w : World) (v : Value) : DFr p w v w v := ⟨Mod.refl _ _, fun _ h => .inl h⟩
theorem DFr.calm {p : Nat} {w w' : World} {v : Value} (h : Mod none_ w w') : DFr p w v w' v := ⟨h.mono fun _ _ q => q.elim, fun _ q => .inl q⟩
theorem DFr.trans {p : Nat} {w w1 w2 : World} {V V1 V2 : Value} (h : DFr p w V w1 V1) (k : DFr p w1 V1 w2 V2) : DFr p w V w2 V2 := by
  have hs := h.mod.size
  refine ⟨h.mod.then k.mod fun i hi q => ?_, fun b q => ?_⟩
  · rcases h.f i q with z | z
    · exact z
    · omega
  · rcases k.f b q with z | z
    · exact h.f b z
    · exact .inr (by omega)
theorem DAt.mod {w w' : World} {p : Nat} {l : List Ms} {v : Value} {S : Nat → Prop} (h : DAt w p l v) (hm : Mod S w w') (hS : ∀ b, DF p v b → ¬ S b) : DAt w' p l v :=
  ⟨hm.blk h.blk (hS _ (.inl rfl)), owns_mod h.own hm fun k q => hS k (.inr q)⟩
theorem DAt.calm {w w' : World} {p : Nat} {l : List Ms} {v : Value} (h : DAt w p l v) (hm : Mod none_ w w') : DAt w' p l v := h.mod hm fun _ _ q => q
theorem DAt.old {w : World} {p : Nat} {l : List Ms} {v : Value} (h : DAt w p l v) : ∀ b, DF p v b → b < w.heap.size := by
  intro b hb
  rcases hb with rfl | hb
  · exact X.blk_lt h.blk
  · obtain ⟨c, hc⟩ := owns_blk h.own hb
    exact X.blk_lt hc
theorem DAt.ne {w : World} {p : Nat} {l : List Ms} {v : Value} (h : DAt w p l v) {b : Nat} (hb : sb v b) : b ≠ p := by
  obtain ⟨c, hc⟩ := owns_blk h.own hb
  intro q
  subst q; have := h.blk; rw [hc] at this; cases this
end Go.X
namespace Go.Proofs.Ytmnkedgmpbcicaa.Que
open Go Go.X Go.RowKit Go.Proofs.Ytmnkedgmpbcicaa.XF Go.Proofs.Ytmnkedgmpbcicaa.XK
section
variable {w : World} {p : Nat} {l : List Ms} {V : Value}
abbrev tDq : TypeId := 97
theorem f_all (h : DAt w p l V) : FO Try.prog w tDq 0 0 ⟨p, 0, none⟩ tMsS V := FO.blk h.blk (by kernel_rfl) vMsS rfl rfl
theorem d_row (h : DAt w p l V) : MsRow w V l := reads_of_owns h.own
theorem ixF {w : World} {s : Value} {l : List Ms} {i : Nat} {n : Int} {e : Ms} {t : TypeId} {k : Nat} {u : Value} {K : Value → Value → Value → World → Prop} (h : MsRow w s l) (hi : l[i]? = some e) (hn : n = (i : Int)) (hf : fieldOff Try.prog tMs k = some k) (hu : ∀ {a : Addr} {K : Value → World → Prop}, w.cell? a = some u → K u w → VK Try.prog (Instr.loadAt t (.pointer (some a))) w K) (he : e.enc[k]? = some u) (hk : ∀ x y, K x y u w) :
    VK Try.prog (Instr.indexAt tMsS s (.int .i64 n)) w fun x w => VK Try.prog (Instr.fieldAt tMs x k) w fun y w => VK Try.prog (Instr.loadAt t y) w (K x y) := by
  refine ixMsA h hi hn fun a ha => ?_
  rw [fo hf]
  exact hu (ha k u he) (hk _ _)
theorem place_ok (h : DAt w p l V) (hL : l.length ≤ 1000000) (f c : Int) : Rt Try.prog 70 #[.pointer (some ⟨p, 0, none⟩), .int .i64 f, .int .i64 c] w fun v w' => v = .int .i64 (idxV (Ms.isAt f c) l) ∧ w' = w := by
  refine dispatcherref13_Queue_place_calls ?_
  unfold dispatcherref13_Queue_place_F
  have hr := d_row h
  obtain ⟨A, cc, es, _⟩ := reads_cap hr
  refine W_loop dispatcherref13_Queue_place_L0_ok (fun ρ w' => ∃ n : Nat, n ≤ l.length ∧ ρ 7 = .int .i64 n ∧ ρ 0 = .pointer (some ⟨p, 0, none⟩) ∧ ρ 1 = .int .i64 f ∧ ρ 2 = .int .i64 c ∧ (∀ a ∈ l.take n, Ms.isAt f c a = false) ∧ w' = w) (fun ρ _ => l.length - (intOf (ρ 7)).toNat)
    ⟨0, Nat.zero_le _, rfl, rfl, rfl, rfl, by simp, rfl⟩ ?_
  rintro ρ w1 ⟨n, hn, e7, e0, e1, e2, hno, rfl⟩
  rw [dispatcherref13_Queue_place_L0_eq]; unfold dispatcherref13_Queue_place_L0_F
  rw [e7, e0, e1, e2, NK_ptr, (f_all h).e, es, len_sl vMsS, ← es, BK_lss]
  by_cases hlt : n < l.length
  · rw [decide_eq_true (by omega)]
    refine condT ?_
    have hx : l[n]? = some l[n] := List.getElem?_eq_getElem hlt
    generalize hmm : l[n] = m at *
    rw [NK_ptr, (f_all h).e]
    refine ixF hr hx rfl (show fieldOff Try.prog tMs 1 = some 1 by kernel_rfl) (ld1 vI rfl) (u := .int .i64 m.frm) rfl fun _ _ => ?_
    have step : ∀ (ρ' : Sl) (t : Bool), ρ' 0 = ρ 0 → ρ' 1 = ρ 1 → ρ' 2 = ρ 2 → ρ' 7 = .int .i64 n → ρ' 38 = .bool t → t = m.isAt f c →
        sx fn_ Try.prog 40 dispatcherref13_Queue_place_R2 (blkK 1 (seqK (sx fn_ Try.prog 40 dispatcherref13_Queue_place_R3 (seqK (fun ρ w' => (∃ n : Nat, n ≤ l.length ∧ ρ 7 = .int .i64 n ∧ ρ 0 = .pointer (some ⟨p, 0, none⟩) ∧ ρ 1 = .int .i64 f ∧ ρ 2 = .int .i64 c ∧ (∀ a ∈ l.take n, Ms.isAt f c a = false) ∧ w' = w1) ∧ l.length - (intOf (ρ 7)).toNat < l.length - (intOf (.int .i64 (n : Int))).toNat) (blkK 0 (seqK (sx fn_ Try.prog 40 dispatcherref13_Queue_place_R1 (retK Try.prog [ResultVar.tmp 6] fun v w' => v = .int .i64 (idxV (Ms.isAt f c) l) ∧ w' = w1)) (retK Try.prog [ResultVar.tmp 6] fun v w' => v = .int .i64 (idxV (Ms.isAt f c) l) ∧ w' = w1))))) (seqK (fun ρ w' => (∃ n : Nat, n ≤ l.length ∧ ρ 7 = .int .i64 n ∧ ρ 0 = .pointer (some ⟨p, 0, none⟩) ∧ ρ 1 = .int .i64 f ∧ ρ 2 = .int .i64 c ∧ (∀ a ∈ l.take n, Ms.isAt f c a = false) ∧ w' = w1) ∧ l.length - (intOf (ρ 7)).toNat < l.length - (intOf (.int .i64 (n : Int))).toNat) (blkK 0 (seqK (sx fn_ Try.prog 40 dispatcherref13_Queue_place_R1 (retK Try.prog [ResultVar.tmp 6] fun v w' => v = .int .i64 (idxV (Ms.isAt f c) l) ∧ w' = w1)) (retK Try.prog [ResultVar.tmp 6] fun v w' => v = .int .i64 (idxV (Ms.isAt f c) l) ∧ w' = w1)))))) ρ' w1 := by
      intro ρ' t a0 a1 a2 a7 a38 ht
      rw [dispatcherref13_Queue_place_R2_eq]; unfold dispatcherref13_Queue_place_R2_F
      rw [a38]
      refine caseC (fun q => ?_) (fun q => ?_)
      · rw [a7]
        refine ⟨?_, rfl⟩
        unfold idxV
        rw [show l.findIdx? (Ms.isAt f c) = some n from List.findIdx?_eq_some_iff_getElem.2 ⟨hlt, by rw [hmm, ← ht, q], fun j hj => by
          have := hno l[j] (List.mem_take_iff_getElem.2 ⟨j, by omega, rfl⟩)
          simp [this]⟩]
        rfl
      · rw [bk_n, sq_n, dispatcherref13_Queue_place_R3_eq]; unfold dispatcherref13_Queue_place_R3_F
        rw [a7, BK_add, wrap_i (by omega) (by omega)]
        refine ⟨⟨n + 1, hlt, rfl, a0.trans e0, a1.trans e1, a2.trans e2, ?_, rfl⟩, ?_⟩
        · rw [List.take_add_one, hx, Option.toList_some]
          intro a z
          rcases List.mem_append.1 z with z | z
          · exact hno a z
          · rw [List.mem_singleton.1 z, ← ht, q]
        · simp only [sq_n, sq_x, sq_r, bk_n, bk_r, bk_x, rt_r, rt_n, rs_0, rs_t, pk_1, pk_2, up_at, reduceIte, Nat.reduceEqDiff, intOf]; omega
    by_cases c1 : m.frm = f
    · simp only [↓VG_u, ↓UG_u, ↓MG_u, ↓NG_u, ↓PG_u, ↓BG_u, ↓CG_u, ↓IG_u, ↓VGtt, ↓VGtf, ↓VGft, ↓VGff, ↓UGtt, ↓UGtf, ↓UGft, ↓UGff, ↓MGtt, ↓MGtf, ↓MGft, ↓MGff, ↓NGtt, ↓NGtf, ↓NGft, ↓NGff, ↓PGtt, ↓PGtf, ↓PGft, ↓PGff, ↓BGtt, ↓BGtf, ↓BGft, ↓BGff, ↓CGtt, ↓CGtf, ↓CGft, ↓CGff, ↓IGtt, ↓IGtf, ↓IGft, ↓IGff, ↓PKt, ↓PKf, ↓CDt, ↓CDf, ↓NOTt, ↓NOTf, ↓NK_ptr, ↓EQt c1]
      rw [(f_all h).e]
      try simp only [↓VG_u, ↓UG_u, ↓MG_u, ↓NG_u, ↓PG_u, ↓BG_u, ↓CG_u, ↓IG_u, ↓VGtt, ↓VGtf, ↓VGft, ↓VGff, ↓UGtt, ↓UGtf, ↓UGft, ↓UGff, ↓MGtt, ↓MGtf, ↓MGft, ↓MGff, ↓NGtt, ↓NGtf, ↓NGft, ↓NGff, ↓PGtt, ↓PGtf, ↓PGft, ↓PGff, ↓BGtt, ↓BGtf, ↓BGft, ↓BGff, ↓CGtt, ↓CGtf, ↓CGft, ↓CGff, ↓IGtt, ↓IGtf, ↓IGft, ↓IGff, ↓PKt, ↓PKf, ↓CDt, ↓CDf, ↓NOTt, ↓NOTf, ↓NK_ptr]
      refine ixF hr hx rfl (show fieldOff Try.prog tMs 3 = some 3 by kernel_rfl) (ld1 vI rfl) (u := .int .i64 m.call) rfl fun _ _ => ?_
      try simp only [↓VG_u, ↓UG_u, ↓MG_u, ↓NG_u, ↓PG_u, ↓BG_u, ↓CG_u, ↓IG_u, ↓VGtt, ↓VGtf, ↓VGft, ↓VGff, ↓UGtt, ↓UGtf, ↓UGft, ↓UGff, ↓MGtt, ↓MGtf, ↓MGft, ↓MGff, ↓NGtt, ↓NGtf, ↓NGft, ↓NGff, ↓PGtt, ↓PGtf, ↓PGft, ↓PGff, ↓BGtt, ↓BGtf, ↓BGft, ↓BGff, ↓CGtt, ↓CGtf, ↓CGft, ↓CGff, ↓IGtt, ↓IGtf, ↓IGft, ↓IGff, ↓PKt, ↓PKf, ↓CDt, ↓CDf, ↓NOTt, ↓NOTf, ↓NK_ptr]
      by_cases c2 : m.call = c
      · simp only [↓VG_u, ↓UG_u, ↓MG_u, ↓NG_u, ↓PG_u, ↓BG_u, ↓CG_u, ↓IG_u, ↓VGtt, ↓VGtf, ↓VGft, ↓VGff, ↓UGtt, ↓UGtf, ↓UGft, ↓UGff, ↓MGtt, ↓MGtf, ↓MGft, ↓MGff, ↓NGtt, ↓NGtf, ↓NGft, ↓NGff, ↓PGtt, ↓PGtf, ↓PGft, ↓PGff, ↓BGtt, ↓BGtf, ↓BGft, ↓BGff, ↓CGtt, ↓CGtf, ↓CGft, ↓CGff, ↓IGtt, ↓IGtf, ↓IGft, ↓IGff, ↓PKt, ↓PKf, ↓CDt, ↓CDf, ↓NOTt, ↓NOTf, ↓NK_ptr, ↓EQt c2]
        exact step _ true rfl rfl rfl (by first | exact e7 | rfl) rfl (by simp [Ms.isAt, c1, c2])
      · simp only [↓VG_u, ↓UG_u, ↓MG_u, ↓NG_u, ↓PG_u, ↓BG_u, ↓CG_u, ↓IG_u, ↓VGtt, ↓VGtf, ↓VGft, ↓VGff, ↓UGtt, ↓UGtf, ↓UGft, ↓UGff, ↓MGtt, ↓MGtf, ↓MGft, ↓MGff, ↓NGtt, ↓NGtf, ↓NGft, ↓NGff, ↓PGtt, ↓PGtf, ↓PGft, ↓PGff, ↓BGtt, ↓BGtf, ↓BGft, ↓BGff, ↓CGtt, ↓CGtf, ↓CGft, ↓CGff, ↓IGtt, ↓IGtf, ↓IGft, ↓IGff, ↓PKt, ↓PKf, ↓CDt, ↓CDf, ↓NOTt, ↓NOTf, ↓NK_ptr, ↓EQf c2]
        exact step _ false rfl rfl rfl (by first | exact e7 | rfl) rfl (by simp [Ms.isAt, c1, c2])
    · simp only [↓VG_u, ↓UG_u, ↓MG_u, ↓NG_u, ↓PG_u, ↓BG_u, ↓CG_u, ↓IG_u, ↓VGtt, ↓VGtf, ↓VGft, ↓VGff, ↓UGtt, ↓UGtf, ↓UGft, ↓UGff, ↓MGtt, ↓MGtf, ↓MGft, ↓MGff, ↓NGtt, ↓NGtf, ↓NGft, ↓NGff, ↓PGtt, ↓PGtf, ↓PGft, ↓PGff, ↓BGtt, ↓BGtf, ↓BGft, ↓BGff, ↓CGtt, ↓CGtf, ↓CGft, ↓CGff, ↓IGtt, ↓IGtf, ↓IGft, ↓IGff, ↓PKt, ↓PKf, ↓CDt, ↓CDf, ↓NOTt, ↓NOTf, ↓NK_ptr, ↓EQf c1]
      exact step _ false rfl rfl rfl (by first | exact e7 | rfl) rfl (by simp [Ms.isAt, c1])
  · obtain rfl : n = l.length := by omega
    rw [decide_eq_false (by omega)]
    refine condF ?_
    rw [sq_x, bk_x, sq_n, dispatcherref13_Queue_place_R1_eq]; unfold dispatcherref13_Queue_place_R1_F
    refine ⟨?_, rfl⟩
    rw [List.take_length] at hno
    unfold idxV
    rw [List.findIdx?_eq_none_iff.2 hno]
    rfl
theorem RTake_ok (h : DAt w p l V) (hu : l.Pairwise fun a b => ¬ (a.frm = b.frm ∧ a.call = b.call)) (hL : l.length ≤ 1000000) (f c : Int) : Rt Try.prog 71 #[.pointer (some ⟨p, 0, none⟩), .int .i64 f, .int .i64 c] w fun v w' => v = .int .i64 (takeV l f c).2 ∧ DAt w' p (takeV l f c).1 V ∧ DFr p w V w' V := by
  refine dispatcherref13_Queue_Take_calls ?_
  unfold dispatcherref13_Queue_Take_F
  refine CK_st Try.func70 rfl rfl (place_ok h hL f c) ?_
  rintro _ w1 ⟨rfl, rfl⟩
  unfold takeV idxV
  rcases idx_find (Ms.isAt f c) l with ⟨h1, h2⟩ | ⟨j, m, h1, h2, h3, h4⟩
  · rw [h1, h2]
    dsimp only
    simp only [↓VG_u, ↓UG_u, ↓MG_u, ↓NG_u, ↓PG_u, ↓BG_u, ↓CG_u, ↓IG_u, ↓VGtt, ↓VGtf, ↓VGft, ↓VGff, ↓UGtt, ↓UGtf, ↓UGft, ↓UGff, ↓MGtt, ↓MGtf, ↓MGft, ↓MGff, ↓NGtt, ↓NGtf, ↓NGft, ↓NGff, ↓PGtt, ↓PGtf, ↓PGft, ↓PGff, ↓BGtt, ↓BGtf, ↓BGft, ↓BGff, ↓CGtt, ↓CGtf, ↓CGft, ↓CGff, ↓IGtt, ↓IGtf, ↓IGft, ↓IGff, ↓PKt, ↓PKf, ↓CDt, ↓CDf, ↓NOTt, ↓NOTf, ↓NK_ptr, ↓LTt (show (-1 : Int) < 0 by decide)]
    exact ⟨by trivial, h, DFr.refl _ _ _⟩
  · rw [h1, h3]
    dsimp only
    simp only [↓VG_u, ↓UG_u, ↓MG_u, ↓NG_u, ↓PG_u, ↓BG_u, ↓CG_u, ↓IG_u, ↓VGtt, ↓VGtf, ↓VGft, ↓VGff, ↓UGtt, ↓UGtf, ↓UGft, ↓UGff, ↓MGtt, ↓MGtf, ↓MGft, ↓MGff, ↓NGtt, ↓NGtf, ↓NGft, ↓NGff, ↓PGtt, ↓PGtf, ↓PGft, ↓PGff, ↓BGtt, ↓BGtf, ↓BGft, ↓BGff, ↓CGtt, ↓CGtf, ↓CGft, ↓CGff, ↓IGtt, ↓IGtf, ↓IGft, ↓IGff, ↓PKt, ↓PKf, ↓CDt, ↓CDf, ↓NOTt, ↓NOTf, ↓NK_ptr, ↓LTf (show (0 : Int) ≤ (j : Int) by omega)]
    rw [(f_all h).e]
    try simp only [↓VG_u, ↓UG_u, ↓MG_u, ↓NG_u, ↓PG_u, ↓BG_u, ↓CG_u, ↓IG_u, ↓VGtt, ↓VGtf, ↓VGft, ↓VGff, ↓UGtt, ↓UGtf, ↓UGft, ↓UGff, ↓MGtt, ↓MGtf, ↓MGft, ↓MGff, ↓NGtt, ↓NGtf, ↓NGft, ↓NGff, ↓PGtt, ↓PGtf, ↓PGft, ↓PGff, ↓BGtt, ↓BGtf, ↓BGft, ↓BGff, ↓CGtt, ↓CGtf, ↓CGft, ↓CGff, ↓IGtt, ↓IGtf, ↓IGft, ↓IGff, ↓PKt, ↓PKf, ↓CDt, ↓CDf, ↓NOTt, ↓NOTf, ↓NK_ptr]
    have hjl := (List.getElem?_eq_some_iff.1 h2).1
    refine ixF (d_row h) h2 rfl (show fieldOff Try.prog tMs 7 = some 7 by kernel_rfl) (ld1 vB rfl) (u := .bool m.taken) rfl fun _ _ => ?_
    try simp only [↓VG_u, ↓UG_u, ↓MG_u, ↓NG_u, ↓PG_u, ↓BG_u, ↓CG_u, ↓IG_u, ↓VGtt, ↓VGtf, ↓VGft, ↓VGff, ↓UGtt, ↓UGtf, ↓UGft, ↓UGff, ↓MGtt, ↓MGtf, ↓MGft, ↓MGff, ↓NGtt, ↓NGtf, ↓NGft, ↓NGff, ↓PGtt, ↓PGtf, ↓PGft, ↓PGff, ↓BGtt, ↓BGtf, ↓BGft, ↓BGff, ↓CGtt, ↓CGtf, ↓CGft, ↓CGff, ↓IGtt, ↓IGtf, ↓IGft, ↓IGff, ↓PKt, ↓PKf, ↓CDt, ↓CDf, ↓NOTt, ↓NOTf, ↓NK_ptr]
    cases ht : m.taken with
    | true =>
      simp only [↓VG_u, ↓UG_u, ↓MG_u, ↓NG_u, ↓PG_u, ↓BG_u, ↓CG_u, ↓IG_u, ↓VGtt, ↓VGtf, ↓VGft, ↓VGff, ↓UGtt, ↓UGtf, ↓UGft, ↓UGff, ↓MGtt, ↓MGtf, ↓MGft, ↓MGff, ↓NGtt, ↓NGtf, ↓NGft, ↓NGff, ↓PGtt, ↓PGtf, ↓PGft, ↓PGff, ↓BGtt, ↓BGtf, ↓BGft, ↓BGff, ↓CGtt, ↓CGtf, ↓CGft, ↓CGff, ↓IGtt, ↓IGtf, ↓IGft, ↓IGff, ↓PKt, ↓PKf, ↓CDt, ↓CDf, ↓NOTt, ↓NOTf, ↓NK_ptr, if_true]
      exact ⟨by trivial, h, DFr.refl _ _ _⟩
    | false =>
      simp only [↓VG_u, ↓UG_u, ↓MG_u, ↓NG_u, ↓PG_u, ↓BG_u, ↓CG_u, ↓IG_u, ↓VGtt, ↓VGtf, ↓VGft, ↓VGff, ↓UGtt, ↓UGtf, ↓UGft, ↓UGff, ↓MGtt, ↓MGtf, ↓MGft, ↓MGff, ↓NGtt, ↓NGtf, ↓NGft, ↓NGff, ↓PGtt, ↓PGtf, ↓PGft, ↓PGff, ↓BGtt, ↓BGtf, ↓BGft, ↓BGff, ↓CGtt, ↓CGtf, ↓CGft, ↓CGff, ↓IGtt, ↓IGtf, ↓IGft, ↓IGff, ↓PKt, ↓PKf, ↓CDt, ↓CDf, ↓NOTt, ↓NOTf, ↓NK_ptr, Bool.false_eq_true, if_false]
      have hown := h.own
      rw [(f_all h).e]
      obtain ⟨g, cap, ev, cur, hcur⟩ := owns_some hown (by omega)
      subst ev
      have hg : sb (.slice (some ⟨g, 0, none⟩) l.length cap) g := rfl
      have hb := h.blk
      refine VK_of (run_ixa vMsS cMs (by omega) (by omega) w1) ?_
      rw [add_pl, Nat.zero_add, show ((j : Int)).toNat = j by omega]
      rw [fo (show fieldOff Try.prog tMs 7 = some 7 by kernel_rfl), add_pl]
      refine st_row (by kernel_rfl) rfl hown (k := j * 8 + 7) (by omega) fun w3 ho3 hm3 => ?_
      rw [dispatcherref13_Queue_Take_R0_eq]; unfold dispatcherref13_Queue_Take_R0_F
      rw [fl_set (k := 7 + 1) Ms.enc_len (r' := { m with taken := true }) h2 (by omega) rfl, ← all_set hu (List.find?_some h3) h2] at ho3
      refine ⟨rfl, ⟨hm3.blk hb fun z => h.ne hg z.symm, by rw [List.length_map]; exact ho3⟩, ⟨hm3.mono fun b _ z => by rw [z]; exact .inr hg, fun _ z => .inl z⟩⟩
end
end Go.Proofs.Ytmnkedgmpbcicaa.Que
set_option linter.unusedVariables false
set_option linter.unusedSimpArgs false
set_option maxRecDepth 4000
namespace Go.Proofs.Ytmnkedgmpbcicaa.Que
open Go Go.X Go.RowKit Go.Proofs.Ytmnkedgmpbcicaa.XF Go.Proofs.Ytmnkedgmpbcicaa.XK
section
variable {w : World} {p : Nat} {l : List Ms} {V : Value}
theorem RSend_R0 {m : Ms} {mb : Nat} {ρ : Sl} {t : Bool} {w0 : World} {V0 : Value} (h0 : DFr p w0 V0 w V) (h : DAt w p l V) (hL : l.length ≤ 1000000) (hmb : w.heap[mb]? = some (.cells m.enc.toArray tMs (0, 0))) (hmF : ¬ DF p V mb)
    (e0 : ρ 0 = .pointer (some ⟨p, 0, none⟩)) (e3 : ρ 3 = .pointer (some ⟨mb, 0, none⟩)) (e60 : ρ 60 = .bool t) (ht : t = ((l.find? (Ms.isAt m.frm m.call)).isSome || badM m)) :
    sx fn_ Try.prog 71 dispatcherref13_Queue_Send_R0 (seqK (sx fn_ Try.prog 71 dispatcherref13_Queue_Send_R1 (retK Try.prog [ResultVar.tmp 4] fun v w' => v = .int .i64 (sendV l m).2 ∧ ∃ V', DAt w' p (sendV l m).1 V' ∧ DFr p w0 V0 w' V')) (retK Try.prog [ResultVar.tmp 4] fun v w' => v = .int .i64 (sendV l m).2 ∧ ∃ V', DAt w' p (sendV l m).1 V' ∧ DFr p w0 V0 w' V')) ρ w := by
  rw [dispatcherref13_Queue_Send_R0_eq]; unfold dispatcherref13_Queue_Send_R0_F
  rw [e60]
  unfold sendV
  rw [← ht]
  refine caseC (fun q => ?_) (fun q => ?_)
  · rw [q]
    exact ⟨rfl, V, h, h0⟩
  rw [q]
  simp only [Bool.false_eq_true, if_false]
  rw [sq_n, dispatcherref13_Queue_Send_R1_eq]; unfold dispatcherref13_Queue_Send_R1_F
  refine dispatcherref13_Queue_Send_R2_held (D := []) (fun w' => w'.heap[mb]? = some (.cells m.enc.toArray tMs (0, 0))) hmb ?_
  have hd : Mod none_ w { w with drawn := w.drawn + 1 } := (Mod.refl _ w).drawn _
  have hdz : ({ w with drawn := w.drawn + 1 } : World).heap.size = w.heap.size := rfl
  generalize ({ w with drawn := w.drawn + 1 } : World) = wd at *
  unfold dispatcherref13_Queue_Send_R2_H
  simp only [sq_n, sq_x, sq_r, bk_n, bk_r, bk_x, rt_r, rt_n, rs_0, rs_t, pk_1, pk_2, up_at, reduceIte, Nat.reduceEqDiff, e0, e3]
  have h2 := h.calm hd
  have hmb2 := hd.blk hmb id
  refine HN_ptr (HV_of (v := .pointer (some ⟨p, 0, none⟩)) (fun w' _ => by rw [run_fo (off := 0) (by kernel_rfl), add_pl]) ?_)
  refine HV_of (v := .agg m.enc.toArray) (fun w' hw => run_ldB Try.underlying39 rfl (by rw [iMs]; rfl) hw) ?_
  have tail : ∀ (ρ' : Sl) (x : Value) (w3 : World) (K : Value → Value → Value → World → Prop), w3.heap[mb]? = some (.cells m.enc.toArray tMs (0, 0)) → Mod none_ wd w3 → reads w3 8 x 1 m.enc →
      (∀ a b c w5, w5.heap[mb]? = some (.cells m.enc.toArray tMs (0, 0)) → (∃ V', DAt w5 p (l ++ [m]) V' ∧ DFr p w0 V0 w5 V') → K a b c w5) →
      IK Try.prog .append #[tMsS, tMsS] tMsS [false, false] [V, x] w3 fun x68 w => w.heap[mb]? = some (.cells m.enc.toArray tMs (0, 0)) ∧ (HK Try.prog (fun w' => w'.heap[mb]? = some (.cells m.enc.toArray tMs (0, 0))) (nilCk (.pointer (some ⟨p, 0, none⟩))) fun x69 => HK Try.prog (fun w' => w'.heap[mb]? = some (.cells m.enc.toArray tMs (0, 0))) (do pure (Next.value (← Instr.fieldAt tDq x69 0))) fun x70 => UK Try.prog (Instr.storeAt tMsS x70 x68) w fun _ w => w.heap[mb]? = some (.cells m.enc.toArray tMs (0, 0)) ∧ K x68 x69 x70 w) := by
    intro ρ' x w3 K hmb3 hm3 hrd hK
    have h3 := h2.calm hm3
    refine ap_any eMsS h3.own hrd (fun u hu => Ms.enc_mem [m] u (by simpa using hu)) (by unfold maxLen; omega) (by omega) (Nat.zero_le _) fun v' w4 ho4 hm4 hv4 => ?_
    have hmb4 := hm4.blk hmb3 fun z => hmF (.inr z.symm)
    refine ⟨hmb4, ?_⟩
    refine HN_ptr (HV_of (v := .pointer (some ⟨p, 0, none⟩)) (fun w' _ => by rw [run_fo (off := 0) (by kernel_rfl), add_pl]) ?_)
    have hb4 := hm4.blk h3.blk fun z => h3.ne z.symm rfl
    have hv'1 : v'.oneCell' = true := by
      rcases ho4.2 with ⟨e, _⟩ | ⟨_, _, _, e, _⟩ <;> rw [e] <;> rfl
    refine st1 (o := 0) (by kernel_rfl) hv'1 hb4 (by simp) ?_
    have hb5 : (setB w4 p (Obj.cells (#[V].setIfInBounds 0 v') tDq (0, 0))).heap[p]? = some (.cells #[v'] tDq (0, 0)) := by rw [setB_new _ _ _ (X.blk_lt hb4)]; rfl
    have hm5 : Mod (fun k => k = p) w4 (setB w4 p (Obj.cells (#[V].setIfInBounds 0 v') tDq (0, 0))) := (Mod.refl _ w4).set _ fun _ => rfl
    generalize setB w4 p (Obj.cells (#[V].setIfInBounds 0 v') tDq (0, 0)) = w5 at *
    have hpm : ¬ (fun k => k = p) mb := fun z => hmF (.inl z)
    have hmb5 := hm5.blk hmb4 hpm
    have hvp : ¬ sb v' p := fun z => by
      rcases hv4 with y | y
      · exact h3.ne (b := p) (by unfold sb at z ⊢; rw [← y]; exact z) rfl
      · unfold sb at z; rw [z] at y; injection y with y
        have := X.blk_lt h3.blk; omega
    have hs3 := hm3.size
    have hmd : Mod (DF p V) w3 w5 := (hm4.mono fun b _ z => .inr z.symm).trans (hm5.mono fun b _ z => .inl z)
    refine ⟨hmb5, hK _ _ _ w5 hmb5 ⟨v', ⟨hb5, ?_⟩, h0.trans ⟨((hd.trans hm3).mono fun _ _ z => z.elim).trans hmd, fun b z => ?_⟩⟩⟩
    · refine owns_mod ?_ hm5 fun k z y => hvp (y ▸ z)
      rw [List.length_append, List.flatMap_append]
      simpa using ho4
    · rcases z with z | z
      · exact .inl (.inl z)
      · rcases hv4 with y | y
        · exact .inl (.inr (by unfold sb at z ⊢; rw [← y]; exact z))
        · unfold sb at z; rw [z] at y; injection y with y
          exact .inr (by have := hd.size; omega)
  have hld : ∀ w', Mod none_ wd w' → (Instr.loadAt tMsS (.pointer (some ⟨p, 0, none⟩))).run Try.prog w' = .ok V w' := fun w' hw => run_ld1 vMsS rfl (by rw [cell_blk (h2.calm hw).blk]; rfl)
  refine ⟨?_, ?_⟩
  · refine VK_of (hld wd (Mod.refl _ _)) ⟨hmb2, ?_⟩
    refine bs_k (cs := m.enc.toArray) (by kernel_rfl) fun w3 hb3 hm3 hz3 => ⟨hm3.blk hmb2 id, ?_⟩
    refine tail ρ _ w3 _ (hm3.blk hmb2 id) hm3 (reads_blk (size := 8) (n := 1) hb3 rfl) ?_
    intro a b c w5 _ hw
    try rw [sq_n]
    rw [dispatcherref13_Queue_Send_R3_eq]; unfold dispatcherref13_Queue_Send_R3_F
    exact ⟨rfl, hw⟩
  · refine bs_k (cs := m.enc.toArray) (by kernel_rfl) fun w3 hb3 hm3 hz3 => ⟨hm3.blk hmb2 id, ?_⟩
    refine VK_of (hld w3 hm3) ⟨hm3.blk hmb2 id, ?_⟩
    refine tail ρ _ w3 _ (hm3.blk hmb2 id) hm3 (reads_blk (size := 8) (n := 1) hb3 rfl) ?_
    intro a b c w5 _ hw
    try rw [sq_n]
    rw [dispatcherref13_Queue_Send_R3_eq]; unfold dispatcherref13_Queue_Send_R3_F
    exact ⟨rfl, hw⟩
theorem RSend_ok (h : DAt w p l V) (hL : l.length ≤ 1000000) (m : Ms) : Rt Try.prog 52 #[.pointer (some ⟨p, 0, none⟩), .agg m.enc.toArray] w fun v w' => v = .int .i64 (sendV l m).2 ∧ ∃ V', DAt w' p (sendV l m).1 V' ∧ DFr p w V w' V' := by
  refine dispatcherref13_Queue_Send_calls ?_
  unfold dispatcherref13_Queue_Send_F
  refine box_k (cs := m.enc.toArray) rfl fun w1 hb1 hm1 hz1 => ?_
  have h1 := h.calm hm1
  have hmF : ¬ DF p V w.heap.size := fun z => by have := h.old _ z; omega
  have g1 : FO Try.prog w1 tMs 1 1 ⟨w.heap.size, 0, none⟩ 3 (.int .i64 m.frm) := FO.blk hb1 (by kernel_rfl) vI rfl rfl
  have g2 : FO Try.prog w1 tMs 2 2 ⟨w.heap.size, 0, none⟩ 3 (.int .i64 m.to) := FO.blk hb1 (by kernel_rfl) vI rfl rfl
  have g3 : FO Try.prog w1 tMs 3 3 ⟨w.heap.size, 0, none⟩ 3 (.int .i64 m.call) := FO.blk hb1 (by kernel_rfl) vI rfl rfl
  have g4 : FO Try.prog w1 tMs 4 4 ⟨w.heap.size, 0, none⟩ 3 (.int .i64 m.tag) := FO.blk hb1 (by kernel_rfl) vI rfl rfl
  have g6 : FO Try.prog w1 tMs 6 6 ⟨w.heap.size, 0, none⟩ 3 (.int .i64 m.size) := FO.blk hb1 (by kernel_rfl) vI rfl rfl
  have g7 : FO Try.prog w1 tMs 7 7 ⟨w.heap.size, 0, none⟩ 4 (.bool m.taken) := FO.blk hb1 (by kernel_rfl) vB rfl rfl
  have step : ∀ (ρ : Sl) (t : Bool), ρ 0 = .pointer (some ⟨p, 0, none⟩) → ρ 3 = .pointer (some ⟨w.heap.size, 0, none⟩) → ρ 60 = .bool t → t = ((l.find? (Ms.isAt m.frm m.call)).isSome || badM m) →
      sx fn_ Try.prog 71 dispatcherref13_Queue_Send_R0 (seqK (sx fn_ Try.prog 71 dispatcherref13_Queue_Send_R1 (retK Try.prog [ResultVar.tmp 4] fun v w' => v = .int .i64 (sendV l m).2 ∧ ∃ V', DAt w' p (sendV l m).1 V' ∧ DFr p w V w' V')) (retK Try.prog [ResultVar.tmp 4] fun v w' => v = .int .i64 (sendV l m).2 ∧ ∃ V', DAt w' p (sendV l m).1 V' ∧ DFr p w V w' V')) ρ w1 := fun ρ t q0 q3 q60 ht =>
    RSend_R0 (DFr.calm hm1) h1 hL hb1 hmF q0 q3 q60 ht
  rw [g1.e]
  by_cases b1 : m.frm < 0
  · simp only [↓VG_u, ↓UG_u, ↓MG_u, ↓NG_u, ↓PG_u, ↓BG_u, ↓CG_u, ↓IG_u, ↓VGtt, ↓VGtf, ↓VGft, ↓VGff, ↓UGtt, ↓UGtf, ↓UGft, ↓UGff, ↓MGtt, ↓MGtf, ↓MGft, ↓MGff, ↓NGtt, ↓NGtf, ↓NGft, ↓NGff, ↓PGtt, ↓PGtf, ↓PGft, ↓PGff, ↓BGtt, ↓BGtf, ↓BGft, ↓BGff, ↓CGtt, ↓CGtf, ↓CGft, ↓CGff, ↓IGtt, ↓IGtf, ↓IGft, ↓IGff, ↓PKt, ↓PKf, ↓CDt, ↓CDf, ↓NOTt, ↓NOTf, ↓NK_ptr, ↓LTt b1]
    exact step _ true rfl rfl rfl (by simp [badM, Int.not_le.2 b1])
  simp only [↓VG_u, ↓UG_u, ↓MG_u, ↓NG_u, ↓PG_u, ↓BG_u, ↓CG_u, ↓IG_u, ↓VGtt, ↓VGtf, ↓VGft, ↓VGff, ↓UGtt, ↓UGtf, ↓UGft, ↓UGff, ↓MGtt, ↓MGtf, ↓MGft, ↓MGff, ↓NGtt, ↓NGtf, ↓NGft, ↓NGff, ↓PGtt, ↓PGtf, ↓PGft, ↓PGff, ↓BGtt, ↓BGtf, ↓BGft, ↓BGff, ↓CGtt, ↓CGtf, ↓CGft, ↓CGff, ↓IGtt, ↓IGtf, ↓IGft, ↓IGff, ↓PKt, ↓PKf, ↓CDt, ↓CDf, ↓NOTt, ↓NOTf, ↓NK_ptr, ↓LTf (Int.not_lt.1 b1)]
  rw [g1.e]
  try simp only [↓VG_u, ↓UG_u, ↓MG_u, ↓NG_u, ↓PG_u, ↓BG_u, ↓CG_u, ↓IG_u, ↓VGtt, ↓VGtf, ↓VGft, ↓VGff, ↓UGtt, ↓UGtf, ↓UGft, ↓UGff, ↓MGtt, ↓MGtf, ↓MGft, ↓MGff, ↓NGtt, ↓NGtf, ↓NGft, ↓NGff, ↓PGtt, ↓PGtf, ↓PGft, ↓PGff, ↓BGtt, ↓BGtf, ↓BGft, ↓BGff, ↓CGtt, ↓CGtf, ↓CGft, ↓CGff, ↓IGtt, ↓IGtf, ↓IGft, ↓IGff, ↓PKt, ↓PKf, ↓CDt, ↓CDf, ↓NOTt, ↓NOTf, ↓NK_ptr]
  by_cases b2 : m.frm > 63
  · simp only [↓VG_u, ↓UG_u, ↓MG_u, ↓NG_u, ↓PG_u, ↓BG_u, ↓CG_u, ↓IG_u, ↓VGtt, ↓VGtf, ↓VGft, ↓VGff, ↓UGtt, ↓UGtf, ↓UGft, ↓UGff, ↓MGtt, ↓MGtf, ↓MGft, ↓MGff, ↓NGtt, ↓NGtf, ↓NGft, ↓NGff, ↓PGtt, ↓PGtf, ↓PGft, ↓PGff, ↓BGtt, ↓BGtf, ↓BGft, ↓BGff, ↓CGtt, ↓CGtf, ↓CGft, ↓CGff, ↓IGtt, ↓IGtf, ↓IGft, ↓IGff, ↓PKt, ↓PKf, ↓CDt, ↓CDf, ↓NOTt, ↓NOTf, ↓NK_ptr, ↓GTt b2]
    exact step _ true rfl rfl rfl (by simp [badM, Int.not_le.2 b2])
  simp only [↓VG_u, ↓UG_u, ↓MG_u, ↓NG_u, ↓PG_u, ↓BG_u, ↓CG_u, ↓IG_u, ↓VGtt, ↓VGtf, ↓VGft, ↓VGff, ↓UGtt, ↓UGtf, ↓UGft, ↓UGff, ↓MGtt, ↓MGtf, ↓MGft, ↓MGff, ↓NGtt, ↓NGtf, ↓NGft, ↓NGff, ↓PGtt, ↓PGtf, ↓PGft, ↓PGff, ↓BGtt, ↓BGtf, ↓BGft, ↓BGff, ↓CGtt, ↓CGtf, ↓CGft, ↓CGff, ↓IGtt, ↓IGtf, ↓IGft, ↓IGff, ↓PKt, ↓PKf, ↓CDt, ↓CDf, ↓NOTt, ↓NOTf, ↓NK_ptr, ↓GTf (Int.not_lt.1 b2)]
  rw [g2.e]
  try simp only [↓VG_u, ↓UG_u, ↓MG_u, ↓NG_u, ↓PG_u, ↓BG_u, ↓CG_u, ↓IG_u, ↓VGtt, ↓VGtf, ↓VGft, ↓VGff, ↓UGtt, ↓UGtf, ↓UGft, ↓UGff, ↓MGtt, ↓MGtf, ↓MGft, ↓MGff, ↓NGtt, ↓NGtf, ↓NGft, ↓NGff, ↓PGtt, ↓PGtf, ↓PGft, ↓PGff, ↓BGtt, ↓BGtf, ↓BGft, ↓BGff, ↓CGtt, ↓CGtf, ↓CGft, ↓CGff, ↓IGtt, ↓IGtf, ↓IGft, ↓IGff, ↓PKt, ↓PKf, ↓CDt, ↓CDf, ↓NOTt, ↓NOTf, ↓NK_ptr]
  by_cases b3 : m.to < 0
  · simp only [↓VG_u, ↓UG_u, ↓MG_u, ↓NG_u, ↓PG_u, ↓BG_u, ↓CG_u, ↓IG_u, ↓VGtt, ↓VGtf, ↓VGft, ↓VGff, ↓UGtt, ↓UGtf, ↓UGft, ↓UGff, ↓MGtt, ↓MGtf, ↓MGft, ↓MGff, ↓NGtt, ↓NGtf, ↓NGft, ↓NGff, ↓PGtt, ↓PGtf, ↓PGft, ↓PGff, ↓BGtt, ↓BGtf, ↓BGft, ↓BGff, ↓CGtt, ↓CGtf, ↓CGft, ↓CGff, ↓IGtt, ↓IGtf, ↓IGft, ↓IGff, ↓PKt, ↓PKf, ↓CDt, ↓CDf, ↓NOTt, ↓NOTf, ↓NK_ptr, ↓LTt b3]
    exact step _ true rfl rfl rfl (by simp [badM, Int.not_le.2 b3])
  simp only [↓VG_u, ↓UG_u, ↓MG_u, ↓NG_u, ↓PG_u, ↓BG_u, ↓CG_u, ↓IG_u, ↓VGtt, ↓VGtf, ↓VGft, ↓VGff, ↓UGtt, ↓UGtf, ↓UGft, ↓UGff, ↓MGtt, ↓MGtf, ↓MGft, ↓MGff, ↓NGtt, ↓NGtf, ↓NGft, ↓NGff, ↓PGtt, ↓PGtf, ↓PGft, ↓PGff, ↓BGtt, ↓BGtf, ↓BGft, ↓BGff, ↓CGtt, ↓CGtf, ↓CGft, ↓CGff, ↓IGtt, ↓IGtf, ↓IGft, ↓IGff, ↓PKt, ↓PKf, ↓CDt, ↓CDf, ↓NOTt, ↓NOTf, ↓NK_ptr, ↓LTf (Int.not_lt.1 b3)]
  rw [g2.e]
  try simp only [↓VG_u, ↓UG_u, ↓MG_u, ↓NG_u, ↓PG_u, ↓BG_u, ↓CG_u, ↓IG_u, ↓VGtt, ↓VGtf, ↓VGft, ↓VGff, ↓UGtt, ↓UGtf, ↓UGft, ↓UGff, ↓MGtt, ↓MGtf, ↓MGft, ↓MGff, ↓NGtt, ↓NGtf, ↓NGft, ↓NGff, ↓PGtt, ↓PGtf, ↓PGft, ↓PGff, ↓BGtt, ↓BGtf, ↓BGft, ↓BGff, ↓CGtt, ↓CGtf, ↓CGft, ↓CGff, ↓IGtt, ↓IGtf, ↓IGft, ↓IGff, ↓PKt, ↓PKf, ↓CDt, ↓CDf, ↓NOTt, ↓NOTf, ↓NK_ptr]
  by_cases b4 : m.to > 63
  · simp only [↓VG_u, ↓UG_u, ↓MG_u, ↓NG_u, ↓PG_u, ↓BG_u, ↓CG_u, ↓IG_u, ↓VGtt, ↓VGtf, ↓VGft, ↓VGff, ↓UGtt, ↓UGtf, ↓UGft, ↓UGff, ↓MGtt, ↓MGtf, ↓MGft, ↓MGff, ↓NGtt, ↓NGtf, ↓NGft, ↓NGff, ↓PGtt, ↓PGtf, ↓PGft, ↓PGff, ↓BGtt, ↓BGtf, ↓BGft, ↓BGff, ↓CGtt, ↓CGtf, ↓CGft, ↓CGff, ↓IGtt, ↓IGtf, ↓IGft, ↓IGff, ↓PKt, ↓PKf, ↓CDt, ↓CDf, ↓NOTt, ↓NOTf, ↓NK_ptr, ↓GTt b4]
    exact step _ true rfl rfl rfl (by simp [badM, Int.not_le.2 b4])
  simp only [↓VG_u, ↓UG_u, ↓MG_u, ↓NG_u, ↓PG_u, ↓BG_u, ↓CG_u, ↓IG_u, ↓VGtt, ↓VGtf, ↓VGft, ↓VGff, ↓UGtt, ↓UGtf, ↓UGft, ↓UGff, ↓MGtt, ↓MGtf, ↓MGft, ↓MGff, ↓NGtt, ↓NGtf, ↓NGft, ↓NGff, ↓PGtt, ↓PGtf, ↓PGft, ↓PGff, ↓BGtt, ↓BGtf, ↓BGft, ↓BGff, ↓CGtt, ↓CGtf, ↓CGft, ↓CGff, ↓IGtt, ↓IGtf, ↓IGft, ↓IGff, ↓PKt, ↓PKf, ↓CDt, ↓CDf, ↓NOTt, ↓NOTf, ↓NK_ptr, ↓GTf (Int.not_lt.1 b4)]
  rw [g3.e]
  try simp only [↓VG_u, ↓UG_u, ↓MG_u, ↓NG_u, ↓PG_u, ↓BG_u, ↓CG_u, ↓IG_u, ↓VGtt, ↓VGtf, ↓VGft, ↓VGff, ↓UGtt, ↓UGtf, ↓UGft, ↓UGff, ↓MGtt, ↓MGtf, ↓MGft, ↓MGff, ↓NGtt, ↓NGtf, ↓NGft, ↓NGff, ↓PGtt, ↓PGtf, ↓PGft, ↓PGff, ↓BGtt, ↓BGtf, ↓BGft, ↓BGff, ↓CGtt, ↓CGtf, ↓CGft, ↓CGff, ↓IGtt, ↓IGtf, ↓IGft, ↓IGff, ↓PKt, ↓PKf, ↓CDt, ↓CDf, ↓NOTt, ↓NOTf, ↓NK_ptr]
  by_cases b5 : m.call < 0
  · simp only [↓VG_u, ↓UG_u, ↓MG_u, ↓NG_u, ↓PG_u, ↓BG_u, ↓CG_u, ↓IG_u, ↓VGtt, ↓VGtf, ↓VGft, ↓VGff, ↓UGtt, ↓UGtf, ↓UGft, ↓UGff, ↓MGtt, ↓MGtf, ↓MGft, ↓MGff, ↓NGtt, ↓NGtf, ↓NGft, ↓NGff, ↓PGtt, ↓PGtf, ↓PGft, ↓PGff, ↓BGtt, ↓BGtf, ↓BGft, ↓BGff, ↓CGtt, ↓CGtf, ↓CGft, ↓CGff, ↓IGtt, ↓IGtf, ↓IGft, ↓IGff, ↓PKt, ↓PKf, ↓CDt, ↓CDf, ↓NOTt, ↓NOTf, ↓NK_ptr, ↓LTt b5]
    exact step _ true rfl rfl rfl (by simp [badM, b5])
  simp only [↓VG_u, ↓UG_u, ↓MG_u, ↓NG_u, ↓PG_u, ↓BG_u, ↓CG_u, ↓IG_u, ↓VGtt, ↓VGtf, ↓VGft, ↓VGff, ↓UGtt, ↓UGtf, ↓UGft, ↓UGff, ↓MGtt, ↓MGtf, ↓MGft, ↓MGff, ↓NGtt, ↓NGtf, ↓NGft, ↓NGff, ↓PGtt, ↓PGtf, ↓PGft, ↓PGff, ↓BGtt, ↓BGtf, ↓BGft, ↓BGff, ↓CGtt, ↓CGtf, ↓CGft, ↓CGff, ↓IGtt, ↓IGtf, ↓IGft, ↓IGff, ↓PKt, ↓PKf, ↓CDt, ↓CDf, ↓NOTt, ↓NOTf, ↓NK_ptr, ↓LTf (Int.not_lt.1 b5)]
  rw [g4.e]
  try simp only [↓VG_u, ↓UG_u, ↓MG_u, ↓NG_u, ↓PG_u, ↓BG_u, ↓CG_u, ↓IG_u, ↓VGtt, ↓VGtf, ↓VGft, ↓VGff, ↓UGtt, ↓UGtf, ↓UGft, ↓UGff, ↓MGtt, ↓MGtf, ↓MGft, ↓MGff, ↓NGtt, ↓NGtf, ↓NGft, ↓NGff, ↓PGtt, ↓PGtf, ↓PGft, ↓PGff, ↓BGtt, ↓BGtf, ↓BGft, ↓BGff, ↓CGtt, ↓CGtf, ↓CGft, ↓CGff, ↓IGtt, ↓IGtf, ↓IGft, ↓IGff, ↓PKt, ↓PKf, ↓CDt, ↓CDf, ↓NOTt, ↓NOTf, ↓NK_ptr]
  by_cases b6 : m.tag < 0
  · simp only [↓VG_u, ↓UG_u, ↓MG_u, ↓NG_u, ↓PG_u, ↓BG_u, ↓CG_u, ↓IG_u, ↓VGtt, ↓VGtf, ↓VGft, ↓VGff, ↓UGtt, ↓UGtf, ↓UGft, ↓UGff, ↓MGtt, ↓MGtf, ↓MGft, ↓MGff, ↓NGtt, ↓NGtf, ↓NGft, ↓NGff, ↓PGtt, ↓PGtf, ↓PGft, ↓PGff, ↓BGtt, ↓BGtf, ↓BGft, ↓BGff, ↓CGtt, ↓CGtf, ↓CGft, ↓CGff, ↓IGtt, ↓IGtf, ↓IGft, ↓IGff, ↓PKt, ↓PKf, ↓CDt, ↓CDf, ↓NOTt, ↓NOTf, ↓NK_ptr, ↓LTt b6]
    exact step _ true rfl rfl rfl (by simp [badM, Int.not_le.2 b6])
  simp only [↓VG_u, ↓UG_u, ↓MG_u, ↓NG_u, ↓PG_u, ↓BG_u, ↓CG_u, ↓IG_u, ↓VGtt, ↓VGtf, ↓VGft, ↓VGff, ↓UGtt, ↓UGtf, ↓UGft, ↓UGff, ↓MGtt, ↓MGtf, ↓MGft, ↓MGff, ↓NGtt, ↓NGtf, ↓NGft, ↓NGff, ↓PGtt, ↓PGtf, ↓PGft, ↓PGff, ↓BGtt, ↓BGtf, ↓BGft, ↓BGff, ↓CGtt, ↓CGtf, ↓CGft, ↓CGff, ↓IGtt, ↓IGtf, ↓IGft, ↓IGff, ↓PKt, ↓PKf, ↓CDt, ↓CDf, ↓NOTt, ↓NOTf, ↓NK_ptr, ↓LTf (Int.not_lt.1 b6)]
  rw [g4.e]
  try simp only [↓VG_u, ↓UG_u, ↓MG_u, ↓NG_u, ↓PG_u, ↓BG_u, ↓CG_u, ↓IG_u, ↓VGtt, ↓VGtf, ↓VGft, ↓VGff, ↓UGtt, ↓UGtf, ↓UGft, ↓UGff, ↓MGtt, ↓MGtf, ↓MGft, ↓MGff, ↓NGtt, ↓NGtf, ↓NGft, ↓NGff, ↓PGtt, ↓PGtf, ↓PGft, ↓PGff, ↓BGtt, ↓BGtf, ↓BGft, ↓BGff, ↓CGtt, ↓CGtf, ↓CGft, ↓CGff, ↓IGtt, ↓IGtf, ↓IGft, ↓IGff, ↓PKt, ↓PKf, ↓CDt, ↓CDf, ↓NOTt, ↓NOTf, ↓NK_ptr]
  by_cases b7 : m.tag > 32767
  · simp only [↓VG_u, ↓UG_u, ↓MG_u, ↓NG_u, ↓PG_u, ↓BG_u, ↓CG_u, ↓IG_u, ↓VGtt, ↓VGtf, ↓VGft, ↓VGff, ↓UGtt, ↓UGtf, ↓UGft, ↓UGff, ↓MGtt, ↓MGtf, ↓MGft, ↓MGff, ↓NGtt, ↓NGtf, ↓NGft, ↓NGff, ↓PGtt, ↓PGtf, ↓PGft, ↓PGff, ↓BGtt, ↓BGtf, ↓BGft, ↓BGff, ↓CGtt, ↓CGtf, ↓CGft, ↓CGff, ↓IGtt, ↓IGtf, ↓IGft, ↓IGff, ↓PKt, ↓PKf, ↓CDt, ↓CDf, ↓NOTt, ↓NOTf, ↓NK_ptr, ↓GTt b7]
    exact step _ true rfl rfl rfl (by simp [badM, Int.not_le.2 b7])
  simp only [↓VG_u, ↓UG_u, ↓MG_u, ↓NG_u, ↓PG_u, ↓BG_u, ↓CG_u, ↓IG_u, ↓VGtt, ↓VGtf, ↓VGft, ↓VGff, ↓UGtt, ↓UGtf, ↓UGft, ↓UGff, ↓MGtt, ↓MGtf, ↓MGft, ↓MGff, ↓NGtt, ↓NGtf, ↓NGft, ↓NGff, ↓PGtt, ↓PGtf, ↓PGft, ↓PGff, ↓BGtt, ↓BGtf, ↓BGft, ↓BGff, ↓CGtt, ↓CGtf, ↓CGft, ↓CGff, ↓IGtt, ↓IGtf, ↓IGft, ↓IGff, ↓PKt, ↓PKf, ↓CDt, ↓CDf, ↓NOTt, ↓NOTf, ↓NK_ptr, ↓GTf (Int.not_lt.1 b7)]
  rw [g6.e]
  try simp only [↓VG_u, ↓UG_u, ↓MG_u, ↓NG_u, ↓PG_u, ↓BG_u, ↓CG_u, ↓IG_u, ↓VGtt, ↓VGtf, ↓VGft, ↓VGff, ↓UGtt, ↓UGtf, ↓UGft, ↓UGff, ↓MGtt, ↓MGtf, ↓MGft, ↓MGff, ↓NGtt, ↓NGtf, ↓NGft, ↓NGff, ↓PGtt, ↓PGtf, ↓PGft, ↓PGff, ↓BGtt, ↓BGtf, ↓BGft, ↓BGff, ↓CGtt, ↓CGtf, ↓CGft, ↓CGff, ↓IGtt, ↓IGtf, ↓IGft, ↓IGff, ↓PKt, ↓PKf, ↓CDt, ↓CDf, ↓NOTt, ↓NOTf, ↓NK_ptr]
  by_cases b8 : m.size < 1
  · simp only [↓VG_u, ↓UG_u, ↓MG_u, ↓NG_u, ↓PG_u, ↓BG_u, ↓CG_u, ↓IG_u, ↓VGtt, ↓VGtf, ↓VGft, ↓VGff, ↓UGtt, ↓UGtf, ↓UGft, ↓UGff, ↓MGtt, ↓MGtf, ↓MGft, ↓MGff, ↓NGtt, ↓NGtf, ↓NGft, ↓NGff, ↓PGtt, ↓PGtf, ↓PGft, ↓PGff, ↓BGtt, ↓BGtf, ↓BGft, ↓BGff, ↓CGtt, ↓CGtf, ↓CGft, ↓CGff, ↓IGtt, ↓IGtf, ↓IGft, ↓IGff, ↓PKt, ↓PKf, ↓CDt, ↓CDf, ↓NOTt, ↓NOTf, ↓NK_ptr, ↓LTt b8]
    exact step _ true rfl rfl rfl (by simp [badM, Int.not_le.2 b8])
  simp only [↓VG_u, ↓UG_u, ↓MG_u, ↓NG_u, ↓PG_u, ↓BG_u, ↓CG_u, ↓IG_u, ↓VGtt, ↓VGtf, ↓VGft, ↓VGff, ↓UGtt, ↓UGtf, ↓UGft, ↓UGff, ↓MGtt, ↓MGtf, ↓MGft, ↓MGff, ↓NGtt, ↓NGtf, ↓NGft, ↓NGff, ↓PGtt, ↓PGtf, ↓PGft, ↓PGff, ↓BGtt, ↓BGtf, ↓BGft, ↓BGff, ↓CGtt, ↓CGtf, ↓CGft, ↓CGff, ↓IGtt, ↓IGtf, ↓IGft, ↓IGff, ↓PKt, ↓PKf, ↓CDt, ↓CDf, ↓NOTt, ↓NOTf, ↓NK_ptr, ↓LTf (Int.not_lt.1 b8)]
  rw [g6.e]
  try simp only [↓VG_u, ↓UG_u, ↓MG_u, ↓NG_u, ↓PG_u, ↓BG_u, ↓CG_u, ↓IG_u, ↓VGtt, ↓VGtf, ↓VGft, ↓VGff, ↓UGtt, ↓UGtf, ↓UGft, ↓UGff, ↓MGtt, ↓MGtf, ↓MGft, ↓MGff, ↓NGtt, ↓NGtf, ↓NGft, ↓NGff, ↓PGtt, ↓PGtf, ↓PGft, ↓PGff, ↓BGtt, ↓BGtf, ↓BGft, ↓BGff, ↓CGtt, ↓CGtf, ↓CGft, ↓CGff, ↓IGtt, ↓IGtf, ↓IGft, ↓IGff, ↓PKt, ↓PKf, ↓CDt, ↓CDf, ↓NOTt, ↓NOTf, ↓NK_ptr]
  by_cases b9 : m.size > 64
  · simp only [↓VG_u, ↓UG_u, ↓MG_u, ↓NG_u, ↓PG_u, ↓BG_u, ↓CG_u, ↓IG_u, ↓VGtt, ↓VGtf, ↓VGft, ↓VGff, ↓UGtt, ↓UGtf, ↓UGft, ↓UGff, ↓MGtt, ↓MGtf, ↓MGft, ↓MGff, ↓NGtt, ↓NGtf, ↓NGft, ↓NGff, ↓PGtt, ↓PGtf, ↓PGft, ↓PGff, ↓BGtt, ↓BGtf, ↓BGft, ↓BGff, ↓CGtt, ↓CGtf, ↓CGft, ↓CGff, ↓IGtt, ↓IGtf, ↓IGft, ↓IGff, ↓PKt, ↓PKf, ↓CDt, ↓CDf, ↓NOTt, ↓NOTf, ↓NK_ptr, ↓GTt b9]
    exact step _ true rfl rfl rfl (by simp [badM, Int.not_le.2 b9])
  simp only [↓VG_u, ↓UG_u, ↓MG_u, ↓NG_u, ↓PG_u, ↓BG_u, ↓CG_u, ↓IG_u, ↓VGtt, ↓VGtf, ↓VGft, ↓VGff, ↓UGtt, ↓UGtf, ↓UGft, ↓UGff, ↓MGtt, ↓MGtf, ↓MGft, ↓MGff, ↓NGtt, ↓NGtf, ↓NGft, ↓NGff, ↓PGtt, ↓PGtf, ↓PGft, ↓PGff, ↓BGtt, ↓BGtf, ↓BGft, ↓BGff, ↓CGtt, ↓CGtf, ↓CGft, ↓CGff, ↓IGtt, ↓IGtf, ↓IGft, ↓IGff, ↓PKt, ↓PKf, ↓CDt, ↓CDf, ↓NOTt, ↓NOTf, ↓NK_ptr, ↓GTf (Int.not_lt.1 b9)]
  rw [g7.e]
  try simp only [↓VG_u, ↓UG_u, ↓MG_u, ↓NG_u, ↓PG_u, ↓BG_u, ↓CG_u, ↓IG_u, ↓VGtt, ↓VGtf, ↓VGft, ↓VGff, ↓UGtt, ↓UGtf, ↓UGft, ↓UGff, ↓MGtt, ↓MGtf, ↓MGft, ↓MGff, ↓NGtt, ↓NGtf, ↓NGft, ↓NGff, ↓PGtt, ↓PGtf, ↓PGft, ↓PGff, ↓BGtt, ↓BGtf, ↓BGft, ↓BGff, ↓CGtt, ↓CGtf, ↓CGft, ↓CGff, ↓IGtt, ↓IGtf, ↓IGft, ↓IGff, ↓PKt, ↓PKf, ↓CDt, ↓CDf, ↓NOTt, ↓NOTf, ↓NK_ptr]
  cases b10 : m.taken with
  | true =>
    simp only [↓VG_u, ↓UG_u, ↓MG_u, ↓NG_u, ↓PG_u, ↓BG_u, ↓CG_u, ↓IG_u, ↓VGtt, ↓VGtf, ↓VGft, ↓VGff, ↓UGtt, ↓UGtf, ↓UGft, ↓UGff, ↓MGtt, ↓MGtf, ↓MGft, ↓MGff, ↓NGtt, ↓NGtf, ↓NGft, ↓NGff, ↓PGtt, ↓PGtf, ↓PGft, ↓PGff, ↓BGtt, ↓BGtf, ↓BGft, ↓BGff, ↓CGtt, ↓CGtf, ↓CGft, ↓CGff, ↓IGtt, ↓IGtf, ↓IGft, ↓IGff, ↓PKt, ↓PKf, ↓CDt, ↓CDf, ↓NOTt, ↓NOTf, ↓NK_ptr]
    exact step _ true rfl rfl rfl (by simp [badM, b10])
  | false =>
    simp only [↓VG_u, ↓UG_u, ↓MG_u, ↓NG_u, ↓PG_u, ↓BG_u, ↓CG_u, ↓IG_u, ↓VGtt, ↓VGtf, ↓VGft, ↓VGff, ↓UGtt, ↓UGtf, ↓UGft, ↓UGff, ↓MGtt, ↓MGtf, ↓MGft, ↓MGff, ↓NGtt, ↓NGtf, ↓NGft, ↓NGff, ↓PGtt, ↓PGtf, ↓PGft, ↓PGff, ↓BGtt, ↓BGtf, ↓BGft, ↓BGff, ↓CGtt, ↓CGtf, ↓CGft, ↓CGff, ↓IGtt, ↓IGtf, ↓IGft, ↓IGff, ↓PKt, ↓PKf, ↓CDt, ↓CDf, ↓NOTt, ↓NOTf, ↓NK_ptr]
    rw [g1.e]
    try simp only [↓VG_u, ↓UG_u, ↓MG_u, ↓NG_u, ↓PG_u, ↓BG_u, ↓CG_u, ↓IG_u, ↓VGtt, ↓VGtf, ↓VGft, ↓VGff, ↓UGtt, ↓UGtf, ↓UGft, ↓UGff, ↓MGtt, ↓MGtf, ↓MGft, ↓MGff, ↓NGtt, ↓NGtf, ↓NGft, ↓NGff, ↓PGtt, ↓PGtf, ↓PGft, ↓PGff, ↓BGtt, ↓BGtf, ↓BGft, ↓BGff, ↓CGtt, ↓CGtf, ↓CGft, ↓CGff, ↓IGtt, ↓IGtf, ↓IGft, ↓IGff, ↓PKt, ↓PKf, ↓CDt, ↓CDf, ↓NOTt, ↓NOTf, ↓NK_ptr]
    rw [g3.e]
    try simp only [↓VG_u, ↓UG_u, ↓MG_u, ↓NG_u, ↓PG_u, ↓BG_u, ↓CG_u, ↓IG_u, ↓VGtt, ↓VGtf, ↓VGft, ↓VGff, ↓UGtt, ↓UGtf, ↓UGft, ↓UGff, ↓MGtt, ↓MGtf, ↓MGft, ↓MGff, ↓NGtt, ↓NGtf, ↓NGft, ↓NGff, ↓PGtt, ↓PGtf, ↓PGft, ↓PGff, ↓BGtt, ↓BGtf, ↓BGft, ↓BGff, ↓CGtt, ↓CGtf, ↓CGft, ↓CGff, ↓IGtt, ↓IGtf, ↓IGft, ↓IGff, ↓PKt, ↓PKf, ↓CDt, ↓CDf, ↓NOTt, ↓NOTf, ↓NK_ptr]
    refine CK_st Try.func70 rfl rfl (place_ok h1 hL m.frm m.call) ?_
    rintro _ w2 ⟨rfl, rfl⟩
    have hbad : badM m = false := by
      simp only [badM, b10, Bool.false_or, Bool.or_eq_false_iff, Bool.not_eq_false', Bool.and_eq_true, decide_eq_true_eq, decide_eq_false_iff_not]
      omega
    rcases idx_find (Ms.isAt m.frm m.call) l with ⟨q1, q2⟩ | ⟨j, x, q1, q2, q3, _⟩
    · unfold idxV
      rw [q1]
      dsimp only
      simp only [↓VG_u, ↓UG_u, ↓MG_u, ↓NG_u, ↓PG_u, ↓BG_u, ↓CG_u, ↓IG_u, ↓VGtt, ↓VGtf, ↓VGft, ↓VGff, ↓UGtt, ↓UGtf, ↓UGft, ↓UGff, ↓MGtt, ↓MGtf, ↓MGft, ↓MGff, ↓NGtt, ↓NGtf, ↓NGft, ↓NGff, ↓PGtt, ↓PGtf, ↓PGft, ↓PGff, ↓BGtt, ↓BGtf, ↓BGft, ↓BGff, ↓CGtt, ↓CGtf, ↓CGft, ↓CGff, ↓IGtt, ↓IGtf, ↓IGft, ↓IGff, ↓PKt, ↓PKf, ↓CDt, ↓CDf, ↓NOTt, ↓NOTf, ↓NK_ptr, ↓BK_geq]
      exact step _ false rfl rfl rfl (by rw [q2, hbad]; rfl)
    · unfold idxV
      rw [q1]
      dsimp only
      simp only [↓VG_u, ↓UG_u, ↓MG_u, ↓NG_u, ↓PG_u, ↓BG_u, ↓CG_u, ↓IG_u, ↓VGtt, ↓VGtf, ↓VGft, ↓VGff, ↓UGtt, ↓UGtf, ↓UGft, ↓UGff, ↓MGtt, ↓MGtf, ↓MGft, ↓MGff, ↓NGtt, ↓NGtf, ↓NGft, ↓NGff, ↓PGtt, ↓PGtf, ↓PGft, ↓PGff, ↓BGtt, ↓BGtf, ↓BGft, ↓BGff, ↓CGtt, ↓CGtf, ↓CGft, ↓CGff, ↓IGtt, ↓IGtf, ↓IGft, ↓IGff, ↓PKt, ↓PKf, ↓CDt, ↓CDf, ↓NOTt, ↓NOTf, ↓NK_ptr, ↓BK_geq]
      exact step _ true rfl rfl (by congr 1) (by rw [q3]; rfl)
theorem RCopy_ok (h : DAt w p l V) (hL : l.length ≤ 1000000) : Rt Try.prog 56 #[.pointer (some ⟨p, 0, none⟩)] w fun v w' => ∃ q V', v = .pointer (some ⟨q, 0, none⟩) ∧ DAt w' q l V' ∧ (∀ b, DF q V' b → w.heap.size ≤ b) ∧ Mod none_ w w' := by
  refine dispatcherref13_Queue_Copy_calls ?_
  unfold dispatcherref13_Queue_Copy_F
  refine bs0_k vMsS iMs fun w1 hb1 hm1 hz1 => ?_
  have h1 := h.calm hm1
  rw [NK_ptr, (f_all h1).e]
  have hown : w1.ownsRow w.heap.size tMs 8 (.slice (some ⟨w.heap.size, 0, none⟩) 0 0) 0 [] := owns_zero hb1 (Nat.le_refl _)
  refine ap_any eMsS hown (d_row h1) (Ms.enc_mem l) (by unfold maxLen; omega) (by omega) (by omega) fun v' w2 h2 hm2 _ => ?_
  have hm12 : Mod none_ w w2 := hm1.then hm2 fun i hi q => by
    have : i = w.heap.size := by simpa [Value.ownBlock] using q
    omega
  have hc : v' = .slice none 0 0 ∨ ∃ g n c, v' = .slice (some ⟨g, 0, none⟩) n c := by
    rcases h2.2 with ⟨e, _⟩ | ⟨g, c, _, e, _⟩
    · exact .inl e
    · exact .inr ⟨g, _, c, e⟩
  rw [build_ok (cs := #[v']) (by rcases hc with rfl | ⟨g, n, c, rfl⟩ <;> kernel_rfl)]
  refine box_k (cs := #[v']) rfl fun w3 hb3 hm3 hz3 => ?_
  have hs := hm12.size
  refine ⟨w2.heap.size, v', rfl, ⟨hb3, owns_base (owns_mod (by simpa using h2) hm3 fun _ _ => id) (Nat.zero_le _)⟩, fun b z => ?_, hm12.trans hm3⟩
  rcases z with z | z
  · omega
  · exact (owns_bd h2 b z).1
end
end Go.Proofs.Ytmnkedgmpbcicaa.Que
set_option linter.unusedVariables false
set_option linter.unusedSimpArgs false
set_option maxRecDepth 4000
namespace Go.X
open Go Go.RowKit
theorem cut_lo {P : Program} {w : World} {K : Value → World → Prop} {t e : TypeId} {sz : Nat} (hu : P.underlying t = some (.slice e)) (hc : P.cellsOf e = sz + 1) {v : Value} {n i : Nat} {xs : List Value} (h : reads w (sz + 1) v n xs) (hij : i ≤ n)
    (hk : ∀ v', reads w (sz + 1) v' (n - i) (xs.drop (i * (sz + 1))) → K v' w) : VK P (Instr.sliceAt t v (some (.int .i64 (i : Int))) none none) w K := by
  obtain ⟨hl, A, c, rfl, hnc, hr⟩ := h
  obtain ⟨z, hz, hzs⟩ := info_of hc
  have he : P.elem t = e := by simp [Program.elem, hu]
  have hrun : (Instr.sliceAt t (.slice A n c) (some (.int .i64 (i : Int))) none none).run P w = .ok (sliced A i n c (sz + 1)) w := by
    rw [run_sliceAt_slice (h := elem_of hu), run_slice_l w t A n c (elem_of hu) .i64 _ (by omega) (by omega), he]
    simp [sizeOf, typeInfo, hz, hzs]
  refine VK_of hrun (hk _ ⟨?_, ?_⟩)
  · rw [List.length_drop, hl, ← Nat.sub_mul]
  · refine ⟨_, _, rfl, by omega, fun k u hku => ?_⟩
    rw [List.getElem?_drop] at hku
    have hlt : i * (sz + 1) + k < n * (sz + 1) := by
      have := (List.getElem?_eq_some_iff.1 hku).1
      omega
    obtain ⟨a, rfl, hcell⟩ := hr _ u hku
    by_cases hci : c = i
    · have : i < n := Nat.lt_of_mul_lt_mul_right (a := sz + 1) (by omega)
      omega
    · refine ⟨a.add (i * (sz + 1)), by simp [sliced, hci], ?_⟩
      rw [add_add]
      exact hcell
theorem owns_pre {P : Program} {w : World} {t e : TypeId} {sz base : Nat} (hu : P.underlying t = some (.slice e)) (hc : P.cellsOf e = sz + 1) {v : Value} {n k : Nat} {xs : List Value} (h : w.ownsRow base e (sz + 1) v n xs) (hk : k ≤ n) :
    ∃ v', (∀ w', (Instr.sliceAt t v none (some (.int .i64 (k : Int))) none).run P w' = .ok v' w') ∧ w.ownsRow base e (sz + 1) v' k (xs.take (k * (sz + 1))) ∧ v'.ownBlock = v.ownBlock := by
  obtain ⟨z, hz, hzs⟩ := info_of hc
  have he : P.elem t = e := by simp [Program.elem, hu]
  have run : ∀ (A : Option Addr) (n c : Nat) (w' : World), k ≤ c → (Instr.sliceAt t (.slice A n c) none (some (.int .i64 (k : Int))) none).run P w' = .ok (sliced A 0 k c (sz + 1)) w' := fun A n c w' hkc => by
    rw [run_sliceAt_slice (h := elem_of hu), run_slice_h w' t A n c (elem_of hu) .i64 _ (by omega) (by omega), he]
    simp [sizeOf, typeInfo, hz, hzs]
  obtain ⟨hl, ⟨rfl, rfl⟩ | ⟨g, cap, cur, rfl, hb, hg, hn, hm, hs, ht⟩⟩ := h
  · obtain rfl : k = 0 := by omega
    refine ⟨.slice none 0 0, fun w' => by rw [run _ _ _ _ (Nat.le_refl _)]; simp [sliced], ?_, rfl⟩
    simpa using World.ownsRow_nil _ _ _ _
  · refine ⟨.slice (some ⟨g, 0, none⟩) k cap, fun w' => ?_, ⟨?_, .inr ⟨g, cap, cur, rfl, hb, hg, by omega, hm, hs, ?_⟩⟩, rfl⟩
    · rw [run _ _ _ _ (by omega)]
      simp only [sliced, Nat.sub_zero, Nat.zero_mul, add_pl]
      by_cases hc0 : cap = 0
      · simp [hc0]
      · simp [hc0]; try rfl
    · rw [List.length_take, hl]
      exact Nat.min_eq_left (Nat.mul_le_mul_right _ hk)
    · rw [← ht, List.take_take, Nat.min_eq_left (Nat.mul_le_mul_right _ hk)]
theorem ltM_below {S : List Ms} {x : Ms} (hs : SortedL ltM S) {k : Nat} {y : Ms} (hy : S[k]? = some y) (h : ltM x y = false) : ∀ a ∈ S.take (k + 1), ltM x a = false := by
  intro a ha
  obtain ⟨i, hi, rfl⟩ := List.mem_take_iff_getElem.1 ha
  have := hs.le_at ltM_wo (i := i) (j := k) (by omega) (List.getElem?_eq_getElem (by omega)) hy
  exact ltM_wo.tr _ _ _ this h
end Go.X
namespace Go.Proofs.Ytmnkedgmpbcicaa.Que
open Go Go.X Go.RowKit Go.Proofs.Ytmnkedgmpbcicaa.XF Go.Proofs.Ytmnkedgmpbcicaa.XK
theorem BK_neqL (t : TypeId) (x y : Operand) (a b : List UInt8) {P : Program} {w : World} {K : Value → World → Prop} : BK P .neq t x y (strV a) (strV b) w K = K (.bool (decide (a ≠ b))) w := by
  unfold strV
  rw [BK_neqS, toL, toL]
  congr 2
  by_cases h : a = b <;> simp [h]
theorem ahead_ok (a b : Ms) (w : World) : Rt Try.prog 61 #[.agg a.enc.toArray, .agg b.enc.toArray] w fun v w' => v = .bool (ltM a b) ∧ Mod none_ w w' := by
  refine dispatcherref13_ahead_calls ?_
  unfold dispatcherref13_ahead_F
  refine box_k (cs := a.enc.toArray) rfl fun w1 hb1 hm1 hz1 => ?_
  refine box_k (cs := b.enc.toArray) rfl fun w2 hb2 hm2 hz2 => ?_
  have hb1' := hm2.blk hb1 id
  have hm := hm1.trans hm2
  have a0 : FO Try.prog w2 tMs 0 0 ⟨w.heap.size, 0, none⟩ 9 (strV a.key) := FO.blk hb1' (by kernel_rfl) vS rfl rfl
  have a1 : FO Try.prog w2 tMs 1 1 ⟨w.heap.size, 0, none⟩ 3 (.int .i64 a.frm) := FO.blk hb1' (by kernel_rfl) vI rfl rfl
  have a2 : FO Try.prog w2 tMs 2 2 ⟨w.heap.size, 0, none⟩ 3 (.int .i64 a.to) := FO.blk hb1' (by kernel_rfl) vI rfl rfl
  have b0 : FO Try.prog w2 tMs 0 0 ⟨w1.heap.size, 0, none⟩ 9 (strV b.key) := FO.blk hb2 (by kernel_rfl) vS rfl rfl
  have b1 : FO Try.prog w2 tMs 1 1 ⟨w1.heap.size, 0, none⟩ 3 (.int .i64 b.frm) := FO.blk hb2 (by kernel_rfl) vI rfl rfl
  have b2 : FO Try.prog w2 tMs 2 2 ⟨w1.heap.size, 0, none⟩ 3 (.int .i64 b.to) := FO.blk hb2 (by kernel_rfl) vI rfl rfl
  rw [a0.e, b0.e, BK_neqL]
  by_cases c0 : a.key = b.key
  · rw [decide_eq_false (by simpa using c0)]
    refine condF ?_
    rw [a1.e, b1.e]
    by_cases c1 : a.frm = b.frm
    · rw [NEf c1]
      refine condF ?_
      rw [a2.e, b2.e, BK_lss]
      refine ⟨?_, hm⟩
      congr 1
      simp [ltM, ltC, Ms.ch, c0, c1, bl_irr]
    · rw [NEt c1]
      refine condT ?_
      rw [a1.e, b1.e, BK_lss]
      refine ⟨?_, hm⟩
      congr 1
      simp [ltM, ltC, Ms.ch, c0, c1, bl_irr]
  · rw [decide_eq_true c0]
    refine condT ?_
    rw [a0.e, b0.e, BK_lssS]
    refine ⟨?_, hm⟩
    congr 1
    simp [ltM, ltC, Ms.ch, c0]
section
variable {w : World} {p : Nat} {l : List Ms} {V : Value}
theorem rleft_L3 {K : Exit → Sl → World → Prop} {ρ : Sl} {S : List Ms} {o : Value} {x : Ms} {i B : Nat} (h : DAt w p l V) (hx : l[i]? = some x) (hL : l.length ≤ 1000000) (hs : SortedL ltM S) (hO : w.ownsRow B tMs 8 o S.length (S.flatMap Ms.enc)) (hSl : S.length ≤ 1000000)
    (e0 : ρ 0 = .pointer (some ⟨p, 0, none⟩)) (e3 : ρ 3 = o) (e4 : ρ 4 = .int .i64 i) (e5 : ρ 5 = .int .i64 S.length)
    (hk : ∀ (ρ' : Sl) (w' : World) (k : Nat), ρ' 0 = ρ 0 → ρ' 3 = ρ 3 → ρ' 4 = ρ 4 → ρ' 5 = .int .i64 k → k ≤ S.length → Mod none_ w w' → (∀ b ∈ S.drop k, ltM x b = true) → (∀ a ∈ S.take k, ltM x a = false) → K (.exit 2) ρ' w') : W fn_ Try.prog 65 (Code.loop dispatcherref13_Queue_Left_L3) K ρ w := by
  have hil := (List.getElem?_eq_some_iff.1 hx).1
  refine W_loop dispatcherref13_Queue_Left_L3_ok (fun ρ' w' => ∃ k : Nat, k ≤ S.length ∧ ρ' 5 = .int .i64 k ∧ ρ' 0 = .pointer (some ⟨p, 0, none⟩) ∧ ρ' 3 = o ∧ ρ' 4 = .int .i64 i ∧ (∀ b ∈ S.drop k, ltM x b = true) ∧ Mod none_ w w') (fun ρ' _ => (intOf (ρ' 5)).toNat)
    ⟨S.length, Nat.le_refl _, e5, e0, e3, e4, by simp, Mod.refl _ _⟩ ?_
  rintro ρ' w3 ⟨k, hk3, a5, a0, a3, a4, hno, hm3⟩
  rw [dispatcherref13_Queue_Left_L3_eq]; unfold dispatcherref13_Queue_Left_L3_F
  rw [a5]
  refine dispatcherref13_Queue_Left_R5_tail (D := []) ?_
  have hd : Mod none_ w3 { w3 with drawn := w3.drawn + 1 } := (Mod.refl _ w3).drawn _
  generalize ({ w3 with drawn := w3.drawn + 1 } : World) = wd at *
  have hmd := hm3.trans hd
  unfold dispatcherref13_Queue_Left_R5_T
  simp only [sq_n, sq_x, sq_r, bk_n, bk_r, bk_x, rt_r, rt_n, rs_0, rs_t, pk_1, pk_2, up_at, reduceIte, Nat.reduceEqDiff, a0, a3, a4, a5]
  have fin : ∀ (ρ2 : Sl) (w4 : World) (t : Bool), ρ2 0 = ρ' 0 → ρ2 3 = ρ' 3 → ρ2 4 = ρ' 4 → ρ2 5 = ρ' 5 → ρ2 42 = .bool t → Mod none_ w w4 → (t = true → ∃ k', k = k' + 1 ∧ ∀ b ∈ S.drop k', ltM x b = true) → (t = false → ∀ a ∈ S.take k, ltM x a = false) →
      sx fn_ Try.prog 65 dispatcherref13_Queue_Left_R6 (seqK (sx fn_ Try.prog 65 dispatcherref13_Queue_Left_R7 (seqK (fun ρ' w' => (∃ k : Nat, k ≤ S.length ∧ ρ' 5 = .int .i64 k ∧ ρ' 0 = .pointer (some ⟨p, 0, none⟩) ∧ ρ' 3 = o ∧ ρ' 4 = .int .i64 i ∧ (∀ b ∈ S.drop k, ltM x b = true) ∧ Mod none_ w w') ∧ (intOf (ρ' 5)).toNat < (intOf (.int .i64 (k : Int))).toNat) K)) (seqK (fun ρ' w' => (∃ k : Nat, k ≤ S.length ∧ ρ' 5 = .int .i64 k ∧ ρ' 0 = .pointer (some ⟨p, 0, none⟩) ∧ ρ' 3 = o ∧ ρ' 4 = .int .i64 i ∧ (∀ b ∈ S.drop k, ltM x b = true) ∧ Mod none_ w w') ∧ (intOf (ρ' 5)).toNat < (intOf (.int .i64 (k : Int))).toNat) K)) ρ2 w4 := by
    intro ρ2 w4 t b0 b3 b4 b5 b42 hm4 ht hf
    rw [dispatcherref13_Queue_Left_R6_eq]; unfold dispatcherref13_Queue_Left_R6_F
    rw [b42]
    refine caseC (fun q => ?_) (fun q => ?_)
    · obtain ⟨k', rfl, hk'⟩ := ht q
      rw [sq_n, dispatcherref13_Queue_Left_R7_eq]; unfold dispatcherref13_Queue_Left_R7_F
      rw [b5, a5, BK_sub, wrap_i (by omega) (by omega)]
      refine ⟨⟨k', by omega, by show Value.int .i64 _ = _; congr 1; omega, b0.trans a0, b3.trans a3, b4.trans a4, hk', hm4⟩, ?_⟩
      simp only [sq_n, sq_x, sq_r, bk_n, bk_r, bk_x, rt_r, rt_n, rs_0, rs_t, pk_1, pk_2, up_at, reduceIte, Nat.reduceEqDiff, intOf]; omega
    · exact hk ρ2 w4 k (b0.trans (a0.trans e0.symm)) (b3.trans (a3.trans e3.symm)) (b4.trans (a4.trans e4.symm)) (b5.trans a5) hk3 hm4 hno (hf q)
  rcases Nat.eq_zero_or_pos k with rfl | hpos
  · refine Qgtr ?_
    rw [decide_eq_false (by omega)]
    simp only [↓VG_u, ↓UG_u, ↓MG_u, ↓NG_u, ↓PG_u, ↓BG_u, ↓CG_u, ↓IG_u, ↓VGtt, ↓VGtf, ↓VGft, ↓VGff, ↓UGtt, ↓UGtf, ↓UGft, ↓UGff, ↓MGtt, ↓MGtf, ↓MGft, ↓MGff, ↓NGtt, ↓NGtf, ↓NGft, ↓NGff, ↓PGtt, ↓PGtf, ↓PGft, ↓PGff, ↓BGtt, ↓BGtf, ↓BGft, ↓BGff, ↓CGtt, ↓CGtf, ↓CGft, ↓CGff, ↓IGtt, ↓IGtf, ↓IGft, ↓IGff, ↓PKt, ↓PKf, ↓CDt, ↓CDf, ↓NOTt, ↓NOTf, ↓NK_ptr, QG_b, Bool.false_eq_true, if_false]
    refine fin _ wd false ?_ ?_ ?_ ?_ ?_ hmd (fun q => by cases q) (fun _ a ha => by simp at ha) <;> rfl
  · obtain ⟨k', rfl⟩ : ∃ k', k = k' + 1 := ⟨k - 1, by omega⟩
    have hy : S[k']? = some S[k'] := List.getElem?_eq_getElem (by omega)
    generalize S[k'] = y at *
    have hD := h.calm hmd
    have hO3 := owns_mod hO hmd fun _ _ => id
    obtain ⟨g, cap, ev, _⟩ := owns_some hD.own (by omega)
    obtain ⟨g2, cap2, eo, _⟩ := owns_some hO3 (by omega)
    have hDV : Dat wd g cap l := by have := hD.own; rw [ev] at this; exact this
    have hDO : Dat wd g2 cap2 S := by have := owns_base hO3 (Nat.zero_le _); rw [eo] at this; exact this
    subst ev
    subst eo
    refine Qgtr ?_
    rw [decide_eq_true (by omega)]
    rw [QG_b, if_pos rfl]
    refine QM ?_
    rw [QG_b, if_pos rfl]
    refine QN_ptr ?_
    rw [QG_b, if_pos rfl]
    refine Qfo (off := 0) (by kernel_rfl) ?_
    rw [QG_b, if_pos rfl]
    refine Qld (v := dv g cap l.length) vMsS rfl (fun w' hw => by rw [hw, add_pl, cell_blk hD.blk]; rfl) ?_
    rw [QG_b, if_pos rfl]
    refine QM ?_
    rw [QG_b, if_pos rfl]
    refine QV_of (v := .pointer (some ⟨g, i * 8, none⟩)) (fun w' hw => Dat.ix rfl hil w') ?_
    rw [QG_b, if_pos rfl]
    refine QV_of (v := .agg x.enc.toArray) (fun w' hw => by rw [hw]; exact hDV.run_ld hx) ?_
    rw [QG_b, if_pos rfl]
    refine QM ?_
    rw [QG_b, if_pos rfl]
    refine QM ?_
    rw [QG_b, if_pos rfl]
    refine Qsub ?_
    rw [wrap_i (by omega) (by omega), QG_b, if_pos rfl]
    refine QV_of (v := .pointer (some ⟨g2, k' * 8, none⟩)) (fun w' hw => Dat.ix (by omega) (by omega) w') ?_
    rw [QG_b, if_pos rfl]
    refine QV_of (v := .agg y.enc.toArray) (fun w' hw => by rw [hw]; exact hDO.run_ld hy) ?_
    rw [CG_b, if_pos rfl]
    refine CK_st Try.func61 rfl rfl (ahead_ok x y wd) ?_
    rintro _ w4 ⟨rfl, hm4⟩
    rw [PK_bool, if_pos rfl]
    refine fin _ w4 (ltM x y) ?_ ?_ ?_ ?_ ?_ (hmd.trans hm4) (fun q => ⟨k', rfl, fun b hb => ?_⟩) (fun q a ha => ltM_below hs hy q a ha)
    any_goals rfl
    rw [List.drop_eq_getElem_cons (by omega)] at hb
    rcases List.mem_cons.1 hb with rfl | hb
    · rw [(List.getElem?_eq_some_iff.1 hy).2]; exact q
    · exact hno b hb
end
end Go.Proofs.Ytmnkedgmpbcicaa.Que
set_option linter.unusedVariables false
set_option linter.unusedSimpArgs false
set_option maxRecDepth 4000
namespace Go.X
theorem fl_dropA {α : Type} {enc : α → List Value} {k : Nat} (hk : ∀ a, (enc a).length = k) : ∀ (xs : List α) (n : Nat), (xs.flatMap enc).drop (n * k) = (xs.drop n).flatMap enc
  | [], n => by simp
  | x :: xs, 0 => by simp
  | x :: xs, n + 1 => by
    rw [List.drop_succ_cons, List.flatMap_cons, ← fl_dropA hk xs n]
    rw [show (n + 1) * k = (enc x).length + n * k by rw [hk, Nat.succ_mul]; omega, List.drop_length_add_append]
end Go.X
namespace Go.Proofs.Ytmnkedgmpbcicaa.Que
open Go Go.X Go.RowKit Go.Proofs.Ytmnkedgmpbcicaa.XF Go.Proofs.Ytmnkedgmpbcicaa.XK
section
variable {w : World} {p : Nat} {l : List Ms} {V : Value}
theorem rleft_R4 {K : Exit → Sl → World → Prop} {ρ : Sl} {S : List Ms} {o : Value} {x : Ms} {i k B : Nat} (h : DAt w p l V) (hB : ∀ b, DF p V b → b < B) (hx : l[i]? = some x) (hL : l.length ≤ 1000000) (hO : w.ownsRow B tMs 8 o S.length (S.flatMap Ms.enc)) (hBw : B ≤ w.heap.size) (hSl : S.length ≤ 1000000) (hkS : k ≤ S.length)
    (e0 : ρ 0 = .pointer (some ⟨p, 0, none⟩)) (e3 : ρ 3 = o) (e4 : ρ 4 = .int .i64 i) (e5 : ρ 5 = .int .i64 k)
    (hk : ∀ (ρ' : Sl) (w' : World) (o' : Value), ρ' 0 = ρ 0 → ρ' 3 = o' → ρ' 4 = ρ 4 → w'.ownsRow B tMs 8 o' (S.take k ++ x :: S.drop k).length ((S.take k ++ x :: S.drop k).flatMap Ms.enc) → Mod (fun b => B ≤ b) w w' → K .normal ρ' w') : sx fn_ Try.prog 65 dispatcherref13_Queue_Left_R4 K ρ w := by
  have hil := (List.getElem?_eq_some_iff.1 hx).1
  rw [dispatcherref13_Queue_Left_R4_eq]; unfold dispatcherref13_Queue_Left_R4_F
  rw [e3, e5]
  refine bs0_k vMsS iMs fun w1 hb1 hm1 hz1 => ?_
  have hO1 := owns_mod hO hm1 fun _ _ => id
  refine cut_lo vMsS cMs (reads_of_owns hO1) hkS fun u hu => ?_
  have hdl : (S.drop k).length = S.length - k := by rw [List.length_drop]
  have hu' : MsRow w1 u (S.drop k) := by
    unfold MsRow
    rw [hdl, ← fl_dropA (k := 7 + 1) Ms.enc_len]
    exact hu
  have hown : w1.ownsRow w.heap.size tMs 8 (.slice (some ⟨w.heap.size, 0, none⟩) 0 0) 0 [] := owns_zero hb1 (Nat.le_refl _)
  refine ap_any eMsS hown hu' (Ms.enc_mem _) (by unfold maxLen; omega) (by omega) (by omega) fun r w2 h2 hm2 _ => ?_
  have hm12 : Mod none_ w w2 := hm1.then hm2 fun i hi q => by
    have : i = w.heap.size := by simpa [Value.ownBlock] using q
    omega
  have hR2 : w2.ownsRow w.heap.size tMs 8 r (S.drop k).length ((S.drop k).flatMap Ms.enc) := by simpa using h2
  have hO2 := owns_mod hO hm12 fun _ _ => id
  have hs2 := hm12.size
  refine dispatcherref13_Queue_Left_R8_held (D := []) (fun w' => DAt w' p l V) ((h.calm hm12).calm ((Mod.refl _ w2).drawn _)) ?_
  have hd : Mod none_ w2 { w2 with drawn := w2.drawn + 1 } := (Mod.refl _ w2).drawn _
  have hdz : ({ w2 with drawn := w2.drawn + 1 } : World).heap.size = w2.heap.size := rfl
  generalize ({ w2 with drawn := w2.drawn + 1 } : World) = wd at *
  have hDd := (h.calm hm12).calm hd
  have hOd := owns_mod hO2 hd fun _ _ => id
  have hRd := owns_mod hR2 hd fun _ _ => id
  unfold dispatcherref13_Queue_Left_R8_H
  simp only [sq_n, sq_x, sq_r, bk_n, bk_r, bk_x, rt_r, rt_n, rs_0, rs_t, pk_1, pk_2, up_at, reduceIte, Nat.reduceEqDiff, e0, e3, e4, e5]
  obtain ⟨v', hrun, hP, hPb⟩ := owns_pre vMsS cMs hOd hkS
  rw [fl_take (k := 7 + 1) Ms.enc_len] at hP
  have htl : (S.take k).length = k := by rw [List.length_take]; omega
  obtain ⟨g, cap, ev, _⟩ := owns_some h.own (by omega)
  subst ev
  refine HV_of (v := v') (fun w' _ => hrun w') ?_
  refine HN_ptr (HV_of (v := .pointer (some ⟨p, 0, none⟩)) (fun w' _ => by rw [run_fo (off := 0) (by kernel_rfl), add_pl]) ?_)
  refine HV_of (v := dv g cap l.length) (fun w' hw => run_ld1 vMsS rfl (by rw [cell_blk hw.blk]; rfl)) ?_
  refine HV_of (v := .pointer (some ⟨g, i * 8, none⟩)) (fun w' _ => Dat.ix rfl hil w') ?_
  refine HV_of (v := .agg x.enc.toArray) (fun w' hw => Dat.run_ld (show Dat w' g cap l from hw.own) hx) ?_
  refine bs_k (cs := x.enc.toArray) (by kernel_rfl) fun w3 hb3 hm3 hz3 => ⟨hDd.calm hm3, ?_⟩
  have hP3 := owns_mod hP hm3 fun _ _ => id
  refine ap_any eMsS hP3 (reads_blk (size := 8) (n := 1) hb3 rfl) (fun u hu => Ms.enc_mem [x] u (by simpa using hu)) (by unfold maxLen; omega) (by omega) (by have := hm3.size; omega) fun v2 w4 h4 hm4 hv4 => ?_
  have hPB := owns_bd hP3
  have hsz3 := hm3.size
  have hD4 : DAt w4 p l (.slice (some ⟨g, 0, none⟩) l.length cap) := (hDd.calm hm3).mod hm4 fun b z y => by
    have := hB b z
    have := (hPB b y.symm).1
    omega
  refine ⟨hD4, ?_⟩
  have hR4 : MsRow w4 r (S.drop k) := by
    refine reads_of_owns (owns_mod (owns_mod hRd hm3 fun _ _ => id) hm4 fun q z y => ?_)
    have h1 := (owns_bd hRd q z).1
    rw [hPb] at y
    have h2 := (owns_bd hO q y.symm).2
    omega
  have hsz4 := hm4.size
  refine ap_any eMsS h4 hR4 (Ms.enc_mem _) (by unfold maxLen; omega) (by omega) (by omega) fun v3 w5 h5 hm5 hv5 => ?_
  have hD5 : DAt w5 p l (.slice (some ⟨g, 0, none⟩) l.length cap) := hD4.mod hm5 fun b z y => by
    have := hB b z
    have := (owns_bd h4 b y.symm).1
    omega
  refine ⟨hD5, ?_⟩
  refine hk _ w5 v3 (by first | rfl | exact e0.symm) rfl (by first | rfl | exact e4.symm) ?_ ((((hm12.trans hd).trans hm3).mono fun _ _ z => z.elim).trans ((hm4.mono fun b _ z => (hPB b z.symm).1).trans (hm5.mono fun b _ z => (owns_bd h4 b z.symm).1)))
  have e1 : (S.take k ++ x :: S.drop k).length = k + 1 + (S.drop k).length := by
    rw [List.length_append, htl, List.length_cons]; omega
  have e2 : (S.take k ++ x :: S.drop k).flatMap Ms.enc = (S.take k).flatMap Ms.enc ++ x.enc ++ (S.drop k).flatMap Ms.enc := by
    rw [List.flatMap_append, List.flatMap_cons, List.append_assoc]
  rw [e1, e2]
  simpa using h5
theorem RLeft_ok (h : DAt w p l V) (hL : l.length ≤ 500000) : Rt Try.prog 37 #[.pointer (some ⟨p, 0, none⟩)] w (LeftP w l) := by
  refine dispatcherref13_Queue_Left_calls ?_
  unfold dispatcherref13_Queue_Left_F
  have hB := h.old
  refine W_loop dispatcherref13_Queue_Left_L0_ok (fun ρ w' => ∃ (i : Nat) (o : Value) (S : List Ms), i ≤ l.length ∧ ρ 4 = .int .i64 i ∧ ρ 0 = .pointer (some ⟨p, 0, none⟩) ∧ ρ 3 = o ∧ Stab ltM ((l.take i).filter nt) S ∧ w'.ownsRow w.heap.size tMs 8 o S.length (S.flatMap Ms.enc) ∧ Mod none_ w w') (fun ρ _ => l.length - (intOf (ρ 4)).toNat)
    ⟨0, .slice none 0 0, [], Nat.zero_le _, rfl, rfl, rfl, ⟨List.Pairwise.nil, fun _ => by simp⟩, World.ownsRow_nil _ _ _ _, Mod.refl _ _⟩ ?_
  rintro ρ w1 ⟨i, o, S, hi, e4, e0, e3, hS, hO, hm1⟩
  have h1 := h.calm hm1
  obtain ⟨A, cc, es, _⟩ := reads_cap (d_row h1)
  rw [dispatcherref13_Queue_Left_L0_eq]; unfold dispatcherref13_Queue_Left_L0_F
  rw [e4, e0, e3, NK_ptr, (f_all h1).e, es, len_sl vMsS, ← es, BK_lss]
  have lS : S.length = ((l.take i).filter nt).length := Stab.len ltM_wo hS.eq
  have lS2 : S.length ≤ i := by
    rw [lS]
    exact Nat.le_trans (List.length_filter_le _ _) (by rw [List.length_take]; omega)
  by_cases hlt : i < l.length
  · rw [decide_eq_true (by omega)]
    refine condT ?_
    have hx : l[i]? = some l[i] := List.getElem?_eq_getElem hlt
    have etk : l.take (i + 1) = l.take i ++ [l[i]] := by rw [List.take_add_one, hx]; rfl
    generalize l[i] = x at *
    rw [NK_ptr, (f_all h1).e]
    refine ixF (d_row h1) hx rfl (show fieldOff Try.prog tMs 7 = some 7 by kernel_rfl) (ld1 vB rfl) (u := .bool x.taken) rfl fun _ _ => ?_
    have nx : ∀ (ρ2 : Sl) (w' : World) (o2 : Value) (S2 : List Ms), ρ2 4 = .int .i64 i → ρ2 0 = .pointer (some ⟨p, 0, none⟩) → ρ2 3 = o2 → Stab ltM ((l.take (i + 1)).filter nt) S2 → w'.ownsRow w.heap.size tMs 8 o2 S2.length (S2.flatMap Ms.enc) → Mod none_ w w' →
        sx fn_ Try.prog 65 dispatcherref13_Queue_Left_R2 (seqK (fun ρ w' => (∃ (i : Nat) (o : Value) (S : List Ms), i ≤ l.length ∧ ρ 4 = .int .i64 i ∧ ρ 0 = .pointer (some ⟨p, 0, none⟩) ∧ ρ 3 = o ∧ Stab ltM ((l.take i).filter nt) S ∧ w'.ownsRow w.heap.size tMs 8 o S.length (S.flatMap Ms.enc) ∧ Mod none_ w w') ∧ l.length - (intOf (ρ 4)).toNat < l.length - (intOf (.int .i64 (i : Int))).toNat) (blkK 0 (seqK (sx fn_ Try.prog 65 dispatcherref13_Queue_Left_R1 (retK Try.prog [ResultVar.tmp 2] (LeftP w l))) (retK Try.prog [ResultVar.tmp 2] (LeftP w l))))) ρ2 w' := by
      intro ρ2 w' o2 S2 b4 b0 b3 hS2 hO2 hm2
      rw [dispatcherref13_Queue_Left_R2_eq]; unfold dispatcherref13_Queue_Left_R2_F
      rw [b4, BK_add, wrap_i (by omega) (by omega)]
      refine ⟨⟨i + 1, o2, S2, hlt, rfl, b0, b3, hS2, hO2, hm2⟩, ?_⟩
      simp only [sq_n, sq_x, sq_r, bk_n, bk_r, bk_x, rt_r, rt_n, rs_0, rs_t, pk_1, pk_2, up_at, reduceIte, Nat.reduceEqDiff, intOf]; omega
    cases ht : x.taken with
    | true =>
      refine condT ?_
      have e1 : (l.take (i + 1)).filter nt = (l.take i).filter nt := by rw [etk, List.filter_append]; simp [nt, ht]
      exact nx _ w1 o S (by first | rfl | exact e4) (by first | rfl | exact e0) (by first | rfl | exact e3) (by rw [e1]; exact hS) hO hm1
    | false =>
      refine condF ?_
      have e1 : (l.take (i + 1)).filter nt = (l.take i).filter nt ++ [x] := by rw [etk, List.filter_append]; simp [nt, ht]
      obtain ⟨A2, cc2, es2, _⟩ := reads_cap (reads_of_owns hO)
      rw [es2, len_sl vMsS, ← es2]
      refine rleft_L3 (i := i) (x := x) (S := S) (o := o) (B := w.heap.size) h1 hx (by omega) hS.so hO (by omega) (by first | rfl | exact e0) (by first | rfl | exact e3) (by first | rfl | exact e4) rfl ?_
      intro ρ3 w3 k c0 c3 c4 c5 hk hm3 hgt hle
      rw [bk_x, sq_n]
      refine rleft_R4 (i := i) (x := x) (S := S) (o := o) (B := w.heap.size) (k := k) (h1.calm hm3) hB hx (by omega) (owns_mod hO hm3 fun _ _ => id) (hm1.trans hm3).size (by omega) hk (c0.trans (by first | rfl | exact e0)) (c3.trans (by first | rfl | exact e3)) (c4.trans (by first | rfl | exact e4)) c5 ?_
      intro ρ4 w4 o4 d0 d3 d4 hO4 hm4
      rw [bk_n, sq_n]
      refine nx ρ4 w4 o4 _ (d4.trans (c4.trans (by first | rfl | exact e4))) (d0.trans (c0.trans (by first | rfl | exact e0))) d3 ?_ hO4 ((hm1.trans hm3).then hm4 fun i hi z => by omega)
      rw [e1]
      have hst := stab_ins ltM_wo (S1 := S.take k) (S2 := S.drop k) (x := x) (by rw [List.take_append_drop]; exact hS.so) hle hgt
      rw [List.take_append_drop] at hst
      exact Stab.trans (fun y => by rw [List.filter_append, List.filter_append, hS.eq y]) hst
  · obtain rfl : i = l.length := by omega
    rw [decide_eq_false (by omega)]
    refine condF ?_
    rw [sq_x, bk_x, sq_n, dispatcherref13_Queue_Left_R1_eq]; unfold dispatcherref13_Queue_Left_R1_F
    rw [List.take_length] at hS
    refine ⟨S, hS, ?_, hm1⟩
    show w1.ownsRow _ _ _ (ρ 3) _ _
    rw [e3]; exact hO
end
end Go.Proofs.Ytmnkedgmpbcicaa.Que
set_option linter.unusedVariables false
set_option linter.unusedSimpArgs false
set_option maxRecDepth 4000
namespace Go.Proofs.Ytmnkedgmpbcicaa.Que
open Go Go.X Go.RowKit Go.Proofs.Ytmnkedgmpbcicaa.XF Go.Proofs.Ytmnkedgmpbcicaa.XK
theorem gMs : Try.prog.eqGuardType Try.prog.depth tMs = false := by kernel_rfl
theorem is2' (w : World) : (isAgg 2).run Try.prog w = .ok false w := by unfold isAgg; rw [Sem.run_bind, run_underlying Try.underlying2 w]; rfl
theorem is4' (w : World) : (isAgg 4).run Try.prog w = .ok false w := by unfold isAgg; rw [Sem.run_bind, run_underlying Try.underlying4 w]; rfl
theorem eqMs (a b : Ms) (w : World) : (Op.equalIn 10000 39 (.agg a.enc.toArray) (.agg b.enc.toArray)).run Try.prog w = .ok (decide (a = b)) w := by
  show (Op.equalIn (9999 + 1) 39 (.agg a.enc.toArray) (.agg b.enc.toArray)).run Try.prog w = _
  rw [run_equalIn_struct w 9999 39 _ _ (by simp [Program.fieldsOf, Try.underlying39]) (by kernel_rfl)]
  obtain ⟨a1, a2, a3, a4, a5, a6, a7, a8⟩ := a; obtain ⟨b1, b2, b3, b4, b5, b6, b7, b8⟩ := b
  have e1 : ∀ l : List UInt8, (⟨l.toArray⟩ : ByteArray).toList = l := fun l => by simp
  simp [Program.fieldsOf, Try.underlying39, Op.eqFields, part, is3, is9, is2', is4', Sem.run_bind, Ms.enc, strV, run_equalIn_int w 9998 3 .i64 .i64 _ _ Try.underlying3, run_equalIn_int w 9998 2 .i64 .i64 _ _ Try.underlying2, run_equalIn_string w 9998 9 _ _ Try.underlying9, run_equalIn_bool w 9998 4 _ _ Try.underlying4, e1]
  by_cases h1 : a1 = b1 <;> by_cases h2 : a2 = b2 <;> by_cases h3 : a3 = b3 <;> by_cases h4 : a4 = b4 <;> by_cases h5 : a5 = b5 <;> by_cases h6 : a6 = b6 <;> by_cases h7 : a7 = b7 <;> by_cases h8 : a8 = b8 <;> simp [h1, h2, h3, h4, h5, h6, h7, h8, e1]
theorem rMsN (a b : Ms) (w : World) : (binOp .neq tMs (.agg a.enc.toArray) (.agg b.enc.toArray)).run Try.prog w = .ok (.bool (!decide (a = b))) w := by
  show (do let x ← Op.equalIn 10000 tMs (.agg a.enc.toArray) (.agg b.enc.toArray); pure (Value.bool !x) : Sem Value).run Try.prog w = _
  rw [Sem.run_bind, eqMs]; rfl
theorem own_at {w : World} {v : Value} {l : List Ms} {B i : Nat} {m : Ms} (h : w.ownsRow B tMs 8 v l.length (l.flatMap Ms.enc)) (hi : l[i]? = some m) : ∃ a, (∀ w', (Instr.indexAt tMsS v (.int .i64 (i : Int))).run Try.prog w' = .ok (.pointer (some a)) w') ∧ ∀ w', Mod none_ w w' → (Instr.loadAt tMs (.pointer (some a))).run Try.prog w' = .ok (.agg m.enc.toArray) w' := by
  have hil := (List.getElem?_eq_some_iff.1 hi).1
  obtain ⟨g, cap, ev, _⟩ := owns_some h (by omega)
  subst ev
  have hD : Dat w g cap l := owns_base h (Nat.zero_le _)
  exact ⟨_, fun w' => Dat.ix rfl hil w', fun w' hw => (hD.calm hw).run_ld hi⟩
theorem Same_ok {w : World} {v u : Value} {a b : List Ms} {B B' : Nat} (ha : w.ownsRow B tMs 8 v a.length (a.flatMap Ms.enc)) (hb : w.ownsRow B' tMs 8 u b.length (b.flatMap Ms.enc)) (hl : a.length ≤ 1000000) : Rt Try.prog 15 #[v, u] w fun x w' => x = .bool (decide (a = b)) ∧ Mod none_ w w' := by
  refine dispatcherref13_Same_calls ?_
  unfold dispatcherref13_Same_F
  obtain ⟨A, c, es, _⟩ := reads_cap (reads_of_owns ha)
  obtain ⟨A2, c2, es2, _⟩ := reads_cap (reads_of_owns hb)
  rw [es, len_sl vMsS, ← es, es2, len_sl vMsS, ← es2, BK_neq]
  by_cases hlen : a.length = b.length
  · rw [show ((a.length : Int) != (b.length : Int)) = false by rw [hlen]; simp]
    refine condF ?_
    refine W_loop dispatcherref13_Same_L0_ok (fun ρ w' => ∃ i : Nat, i ≤ a.length ∧ ρ 5 = .int .i64 i ∧ ρ 0 = v ∧ ρ 1 = u ∧ a.take i = b.take i ∧ Mod none_ w w') (fun ρ _ => a.length - (intOf (ρ 5)).toNat)
      ⟨0, Nat.zero_le _, rfl, rfl, rfl, by simp, Mod.refl _ _⟩ ?_
    rintro ρ w1 ⟨i, hi, e5, e0, e1, heq, hm⟩
    rw [dispatcherref13_Same_L0_eq]; unfold dispatcherref13_Same_L0_F
    rw [e5, e0, es, len_sl vMsS, ← es, BK_lss]
    by_cases hlt : i < a.length
    · rw [decide_eq_true (by omega)]
      refine condT ?_
      have hx : a[i]? = some a[i] := List.getElem?_eq_getElem hlt
      have hy : b[i]? = some b[i] := List.getElem?_eq_getElem (by omega)
      have ta : a.take (i + 1) = a.take i ++ [a[i]] := by rw [List.take_add_one, hx]; rfl
      have tb : b.take (i + 1) = b.take i ++ [b[i]] := by rw [List.take_add_one, hy]; rfl
      generalize a[i] = x at *
      generalize b[i] = y at *
      obtain ⟨p1, r1, l1⟩ := own_at ha hx
      obtain ⟨p2, r2, l2⟩ := own_at hb hy
      refine dispatcherref13_Same_R2_quiet (D := []) (fun w' => Mod none_ w w') (hm.trans ((Mod.refl _ w1).drawn _)) ?_
      have key : ∀ (ρ' : Sl) (K : Exit → Sl → World → Prop), ρ' 0 = v → ρ' 1 = u → ρ' 5 = .int .i64 i →
          (∀ (ρ2 : Sl) (w' : World), ρ2 0 = v → ρ2 1 = u → ρ2 5 = .int .i64 i → ρ2 25 = .bool (!decide (x = y)) → Mod none_ w w' → K .normal ρ2 w') → dispatcherref13_Same_R2_Q (fun w' => Mod none_ w w') K ρ' := by
        intro ρ' K q0 q1 q5 hK
        unfold dispatcherref13_Same_R2_Q
        rw [q0, q1, q5]
        refine QV_of (fun w' _ => r1 w') (QV_of (fun w' hw => l1 w' hw) (QV_of (fun w' _ => r2 w') (QV_of (fun w' hw => l2 w' hw) ?_)))
        refine QB_of (v := .bool (!decide (x = y))) (fun w => run_eqGuard_agg w .neq _ _ _ _ _ gMs) (fun w => rMsN _ _ w) ?_
        intro w' hw
        exact hK _ w' q0 q1 q5 rfl hw
      refine key _ _ (by first | exact e0 | rfl) (by first | exact e1 | rfl) (by first | exact e5 | rfl) ?_
      intro ρ2 w' q0 q1 q5 q25 hw
      rw [sq_n, dispatcherref13_Same_R3_eq]; unfold dispatcherref13_Same_R3_F
      rw [q25]
      refine caseC (fun q => ?_) (fun q => ?_)
      · refine ⟨?_, hw⟩
        rw [decide_eq_false]
        · rfl
        · intro z
          rw [z, hy] at hx
          have : ¬ (x = y) := by simpa using q
          exact this (Option.some.inj hx).symm
      · have hxy : x = y := by simpa using q
        rw [bk_n, sq_n, dispatcherref13_Same_R4_eq]; unfold dispatcherref13_Same_R4_F
        rw [q5, BK_add, wrap_i (by omega) (by omega)]
        refine ⟨⟨i + 1, hlt, rfl, q0, q1, by rw [ta, tb, heq, hxy], hw⟩, ?_⟩
        simp only [sq_n, sq_x, sq_r, bk_n, bk_r, bk_x, rt_r, rt_n, rs_0, rs_t, pk_1, pk_2, up_at, reduceIte, Nat.reduceEqDiff, intOf]; omega
    · obtain rfl : i = a.length := by omega
      rw [decide_eq_false (by omega)]
      refine condF ?_
      rw [sq_x, bk_x, sq_n, dispatcherref13_Same_R1_eq]; unfold dispatcherref13_Same_R1_F
      refine ⟨?_, hm⟩
      rw [List.take_length, hlen, List.take_length] at heq
      rw [decide_eq_true heq]; rfl
  · rw [show ((a.length : Int) != (b.length : Int)) = true by rw [bne_iff_ne]; omega]
    refine condT ⟨?_, Mod.refl _ _⟩
    rw [decide_eq_false fun z => hlen (by rw [z])]
end Go.Proofs.Ytmnkedgmpbcicaa.Que
set_option linter.unusedVariables false
set_option linter.unusedSimpArgs false
set_option maxRecDepth 4000
namespace Go.X
open Go Go.RowKit
def isV (m : Ms) (k : List UInt8) (f t : Int) : Bool := !m.taken && decide (m.ch = (k, f, t))
end Go.X
namespace Go.Proofs.Ytmnkedgmpbcicaa.Que
open Go Go.X Go.RowKit Go.Proofs.Ytmnkedgmpbcicaa.XF Go.Proofs.Ytmnkedgmpbcicaa.XK
theorem BK_eqlL (t : TypeId) (x y : Operand) (a b : List UInt8) {P : Program} {w : World} {K : Value → World → Prop} : BK P .eql t x y (strV a) (strV b) w K = K (.bool (decide (a = b))) w := by
  unfold strV
  rw [BK_eqlS, toL, toL]
  congr 2
  by_cases h : a = b <;> simp [h]
theorem is_ok (m : Ms) (k : List UInt8) (f t : Int) (w : World) : Rt Try.prog 88 #[.agg m.enc.toArray, strV k, .int .i64 f, .int .i64 t] w fun v w' => v = .bool (isV m k f t) ∧ Mod none_ w w' := by
  refine dispatcherref13_is_calls ?_
  unfold dispatcherref13_is_F
  refine box_k (cs := m.enc.toArray) rfl fun w1 hb1 hm1 hz1 => ?_
  have g0 : FO Try.prog w1 tMs 0 0 ⟨w.heap.size, 0, none⟩ 9 (strV m.key) := FO.blk hb1 (by kernel_rfl) vS rfl rfl
  have g1 : FO Try.prog w1 tMs 1 1 ⟨w.heap.size, 0, none⟩ 3 (.int .i64 m.frm) := FO.blk hb1 (by kernel_rfl) vI rfl rfl
  have g2 : FO Try.prog w1 tMs 2 2 ⟨w.heap.size, 0, none⟩ 3 (.int .i64 m.to) := FO.blk hb1 (by kernel_rfl) vI rfl rfl
  have g7 : FO Try.prog w1 tMs 7 7 ⟨w.heap.size, 0, none⟩ 4 (.bool m.taken) := FO.blk hb1 (by kernel_rfl) vB rfl rfl
  rw [g7.e, not_ok]
  unfold isV
  cases m.taken with
  | true =>
    simp only [Bool.not_true, ↓VG_u, ↓UG_u, ↓MG_u, ↓NG_u, ↓PG_u, ↓BG_u, ↓CG_u, ↓IG_u, ↓VGtt, ↓VGtf, ↓VGft, ↓VGff, ↓UGtt, ↓UGtf, ↓UGft, ↓UGff, ↓MGtt, ↓MGtf, ↓MGft, ↓MGff, ↓NGtt, ↓NGtf, ↓NGft, ↓NGff, ↓PGtt, ↓PGtf, ↓PGft, ↓PGff, ↓BGtt, ↓BGtf, ↓BGft, ↓BGff, ↓CGtt, ↓CGtf, ↓CGft, ↓CGff, ↓IGtt, ↓IGtf, ↓IGft, ↓IGff, ↓PKt, ↓PKf, ↓CDt, ↓CDf, ↓NOTt, ↓NOTf, ↓NK_ptr]
    exact ⟨rfl, hm1⟩
  | false =>
    simp only [Bool.not_false, ↓VG_u, ↓UG_u, ↓MG_u, ↓NG_u, ↓PG_u, ↓BG_u, ↓CG_u, ↓IG_u, ↓VGtt, ↓VGtf, ↓VGft, ↓VGff, ↓UGtt, ↓UGtf, ↓UGft, ↓UGff, ↓MGtt, ↓MGtf, ↓MGft, ↓MGff, ↓NGtt, ↓NGtf, ↓NGft, ↓NGff, ↓PGtt, ↓PGtf, ↓PGft, ↓PGff, ↓BGtt, ↓BGtf, ↓BGft, ↓BGff, ↓CGtt, ↓CGtf, ↓CGft, ↓CGff, ↓IGtt, ↓IGtf, ↓IGft, ↓IGff, ↓PKt, ↓PKf, ↓CDt, ↓CDf, ↓NOTt, ↓NOTf, ↓NK_ptr]
    rw [g0.e]
    try simp only [↓VG_u, ↓UG_u, ↓MG_u, ↓NG_u, ↓PG_u, ↓BG_u, ↓CG_u, ↓IG_u, ↓VGtt, ↓VGtf, ↓VGft, ↓VGff, ↓UGtt, ↓UGtf, ↓UGft, ↓UGff, ↓MGtt, ↓MGtf, ↓MGft, ↓MGff, ↓NGtt, ↓NGtf, ↓NGft, ↓NGff, ↓PGtt, ↓PGtf, ↓PGft, ↓PGff, ↓BGtt, ↓BGtf, ↓BGft, ↓BGff, ↓CGtt, ↓CGtf, ↓CGft, ↓CGff, ↓IGtt, ↓IGtf, ↓IGft, ↓IGff, ↓PKt, ↓PKf, ↓CDt, ↓CDf, ↓NOTt, ↓NOTf, ↓NK_ptr]
    rw [BK_eqlL]
    by_cases c0 : m.key = k
    · rw [decide_eq_true c0]
      simp only [↓VG_u, ↓UG_u, ↓MG_u, ↓NG_u, ↓PG_u, ↓BG_u, ↓CG_u, ↓IG_u, ↓VGtt, ↓VGtf, ↓VGft, ↓VGff, ↓UGtt, ↓UGtf, ↓UGft, ↓UGff, ↓MGtt, ↓MGtf, ↓MGft, ↓MGff, ↓NGtt, ↓NGtf, ↓NGft, ↓NGff, ↓PGtt, ↓PGtf, ↓PGft, ↓PGff, ↓BGtt, ↓BGtf, ↓BGft, ↓BGff, ↓CGtt, ↓CGtf, ↓CGft, ↓CGff, ↓IGtt, ↓IGtf, ↓IGft, ↓IGff, ↓PKt, ↓PKf, ↓CDt, ↓CDf, ↓NOTt, ↓NOTf, ↓NK_ptr]
      rw [g1.e]
      try simp only [↓VG_u, ↓UG_u, ↓MG_u, ↓NG_u, ↓PG_u, ↓BG_u, ↓CG_u, ↓IG_u, ↓VGtt, ↓VGtf, ↓VGft, ↓VGff, ↓UGtt, ↓UGtf, ↓UGft, ↓UGff, ↓MGtt, ↓MGtf, ↓MGft, ↓MGff, ↓NGtt, ↓NGtf, ↓NGft, ↓NGff, ↓PGtt, ↓PGtf, ↓PGft, ↓PGff, ↓BGtt, ↓BGtf, ↓BGft, ↓BGff, ↓CGtt, ↓CGtf, ↓CGft, ↓CGff, ↓IGtt, ↓IGtf, ↓IGft, ↓IGff, ↓PKt, ↓PKf, ↓CDt, ↓CDf, ↓NOTt, ↓NOTf, ↓NK_ptr]
      by_cases c1 : m.frm = f
      · simp only [↓VG_u, ↓UG_u, ↓MG_u, ↓NG_u, ↓PG_u, ↓BG_u, ↓CG_u, ↓IG_u, ↓VGtt, ↓VGtf, ↓VGft, ↓VGff, ↓UGtt, ↓UGtf, ↓UGft, ↓UGff, ↓MGtt, ↓MGtf, ↓MGft, ↓MGff, ↓NGtt, ↓NGtf, ↓NGft, ↓NGff, ↓PGtt, ↓PGtf, ↓PGft, ↓PGff, ↓BGtt, ↓BGtf, ↓BGft, ↓BGff, ↓CGtt, ↓CGtf, ↓CGft, ↓CGff, ↓IGtt, ↓IGtf, ↓IGft, ↓IGff, ↓PKt, ↓PKf, ↓CDt, ↓CDf, ↓NOTt, ↓NOTf, ↓NK_ptr, ↓EQt c1]
        rw [g2.e]
        try simp only [↓VG_u, ↓UG_u, ↓MG_u, ↓NG_u, ↓PG_u, ↓BG_u, ↓CG_u, ↓IG_u, ↓VGtt, ↓VGtf, ↓VGft, ↓VGff, ↓UGtt, ↓UGtf, ↓UGft, ↓UGff, ↓MGtt, ↓MGtf, ↓MGft, ↓MGff, ↓NGtt, ↓NGtf, ↓NGft, ↓NGff, ↓PGtt, ↓PGtf, ↓PGft, ↓PGff, ↓BGtt, ↓BGtf, ↓BGft, ↓BGff, ↓CGtt, ↓CGtf, ↓CGft, ↓CGff, ↓IGtt, ↓IGtf, ↓IGft, ↓IGff, ↓PKt, ↓PKf, ↓CDt, ↓CDf, ↓NOTt, ↓NOTf, ↓NK_ptr]
        by_cases c2 : m.to = t
        · simp only [↓VG_u, ↓UG_u, ↓MG_u, ↓NG_u, ↓PG_u, ↓BG_u, ↓CG_u, ↓IG_u, ↓VGtt, ↓VGtf, ↓VGft, ↓VGff, ↓UGtt, ↓UGtf, ↓UGft, ↓UGff, ↓MGtt, ↓MGtf, ↓MGft, ↓MGff, ↓NGtt, ↓NGtf, ↓NGft, ↓NGff, ↓PGtt, ↓PGtf, ↓PGft, ↓PGff, ↓BGtt, ↓BGtf, ↓BGft, ↓BGff, ↓CGtt, ↓CGtf, ↓CGft, ↓CGff, ↓IGtt, ↓IGtf, ↓IGft, ↓IGff, ↓PKt, ↓PKf, ↓CDt, ↓CDf, ↓NOTt, ↓NOTf, ↓NK_ptr, ↓EQt c2]
          exact ⟨by simp [Ms.ch, c0, c1, c2], hm1⟩
        · simp only [↓VG_u, ↓UG_u, ↓MG_u, ↓NG_u, ↓PG_u, ↓BG_u, ↓CG_u, ↓IG_u, ↓VGtt, ↓VGtf, ↓VGft, ↓VGff, ↓UGtt, ↓UGtf, ↓UGft, ↓UGff, ↓MGtt, ↓MGtf, ↓MGft, ↓MGff, ↓NGtt, ↓NGtf, ↓NGft, ↓NGff, ↓PGtt, ↓PGtf, ↓PGft, ↓PGff, ↓BGtt, ↓BGtf, ↓BGft, ↓BGff, ↓CGtt, ↓CGtf, ↓CGft, ↓CGff, ↓IGtt, ↓IGtf, ↓IGft, ↓IGff, ↓PKt, ↓PKf, ↓CDt, ↓CDf, ↓NOTt, ↓NOTf, ↓NK_ptr, ↓EQf c2]
          exact ⟨by simp [Ms.ch, c2], hm1⟩
      · simp only [↓VG_u, ↓UG_u, ↓MG_u, ↓NG_u, ↓PG_u, ↓BG_u, ↓CG_u, ↓IG_u, ↓VGtt, ↓VGtf, ↓VGft, ↓VGff, ↓UGtt, ↓UGtf, ↓UGft, ↓UGff, ↓MGtt, ↓MGtf, ↓MGft, ↓MGff, ↓NGtt, ↓NGtf, ↓NGft, ↓NGff, ↓PGtt, ↓PGtf, ↓PGft, ↓PGff, ↓BGtt, ↓BGtf, ↓BGft, ↓BGff, ↓CGtt, ↓CGtf, ↓CGft, ↓CGff, ↓IGtt, ↓IGtf, ↓IGft, ↓IGff, ↓PKt, ↓PKf, ↓CDt, ↓CDf, ↓NOTt, ↓NOTf, ↓NK_ptr, ↓EQf c1]
        exact ⟨by simp [Ms.ch, c1], hm1⟩
    · rw [decide_eq_false c0]
      simp only [↓VG_u, ↓UG_u, ↓MG_u, ↓NG_u, ↓PG_u, ↓BG_u, ↓CG_u, ↓IG_u, ↓VGtt, ↓VGtf, ↓VGft, ↓VGff, ↓UGtt, ↓UGtf, ↓UGft, ↓UGff, ↓MGtt, ↓MGtf, ↓MGft, ↓MGff, ↓NGtt, ↓NGtf, ↓NGft, ↓NGff, ↓PGtt, ↓PGtf, ↓PGft, ↓PGff, ↓BGtt, ↓BGtf, ↓BGft, ↓BGff, ↓CGtt, ↓CGtf, ↓CGft, ↓CGff, ↓IGtt, ↓IGtf, ↓IGft, ↓IGff, ↓PKt, ↓PKf, ↓CDt, ↓CDf, ↓NOTt, ↓NOTf, ↓NK_ptr]
      exact ⟨by simp [Ms.ch, c0], hm1⟩
section
variable {w : World} {p : Nat} {l : List Ms} {V : Value}
end
end Go.Proofs.Ytmnkedgmpbcicaa.Que
