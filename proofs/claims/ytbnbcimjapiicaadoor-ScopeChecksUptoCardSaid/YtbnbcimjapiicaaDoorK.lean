/- mayExpr. -/
import Derived.Test.YtbnbcimjapiicaaDoorJ
set_option linter.unusedVariables false
set_option linter.unusedSimpArgs false
set_option maxRecDepth 4000
namespace Go.Proofs.YtbnbcimjapiicaaDoor.Tr
open Go Go.X Go.RowKit Go.Proofs.YtbnbcimjapiicaaDoor.XF Go.Proofs.YtbnbcimjapiicaaDoor.XK

section
variable {e : Ex} {w w1 : World} (hok : e.Ok w) (hg : Gl w) (hsz : e.sz ≤ 1099511627776) (ih : ∀ a ∈ e.args, MayOk a) {b1 b3 : Nat} {ρ : Sl}
include hok hg hsz ih
theorem may1 (h : MSt e w w1 b1 b3 ρ (Ex.ok1 e) 0 ByteArray.empty) :
    sx fn_ Tryd.prog 88 tree_mayExpr_R1 (retK Tryd.prog [ResultVar.tmp 2] fun v w' => v = .bool e.may ∧ Mod none_ w w') ρ w1 := by
  have hmay : e.may = ((Ex.ok1 e) && (if e.op = 1 then decide (0 ≤ e.num) && decide (e.num < 1000000000000000000) && decide (e.name.size = 0) else decide (e.num = 0) && (if e.op = 2 ∨ e.op = 3 then nameP e.name else if e.op = 5 then plainP e.name else decide (e.name.size = 0))) && Ex.mayL e.args) := by
    rw [Ex.may_eq]; rfl
  rw [tree_mayExpr_R1_eq]
  unfold tree_mayExpr_R1_F
  simp only [h.h1, fo25_0, fo25_1, fo40_0, fo40_1, fo60_0, fo60_1, fo60_2, fo60_3, fo62_0, fo62_1, fo62_2, fo62_3, fo62_4, fo62_5, fo62_6, fo62_7, ld2, ld3, ld5, ld9, ld22, ld23, ld58, len9, len22, len23, len52, len58, ldK_some, cellE, blkC_c, add_pl, Nat.zero_add, List.getElem?_toArray, List.getElem?_cons_succ, List.getElem?_cons_zero, Ex.c0, Ex.c1, Ex.c2, Ex.c3, Ex.c4, Ex.c5, St.c0, St.c1, St.c2, St.c3, St.c4, St.c5, St.c6, St.c7, St.c8, St.c9, h.hb1]
  refine caseI (fun hp => condT ?_) (fun hp => condF ?_)
  · simp only [h.h1, h.h3, fo25_0, fo25_1, fo40_0, fo40_1, fo60_0, fo60_1, fo60_2, fo60_3, fo62_0, fo62_1, fo62_2, fo62_3, fo62_4, fo62_5, fo62_6, fo62_7, ld2, ld3, ld5, ld9, ld22, ld23, ld58, len9, len22, len23, len52, len58, ldK_some, cellE, blkC_c, add_pl, Nat.zero_add, List.getElem?_toArray, List.getElem?_cons_succ, List.getElem?_cons_zero, Ex.c0, Ex.c1, Ex.c2, Ex.c3, Ex.c4, Ex.c5, St.c0, St.c1, St.c2, St.c3, St.c4, St.c5, St.c6, St.c7, St.c8, St.c9, h.hb1]
    refine st_k cI64 rfl h.hb3 (by simp [ownB]) fun w2 hb2 hold hsz2 hm2 => ?_
    have hb1' : w2.heap[b1]? = some (.cells e.cells.toArray 60 (0, 0)) := (hold _ h.ne).trans h.hb1
    have hmm : Mod none_ w w2 := h.m.then hm2 fun i hi q => by have := h.le; omega
    have st : ∀ (ρ' : Sl) (k : Bool), ρ' 1 = ρ 1 → ρ' 3 = ρ 3 → ρ' 4 = .bool k → MSt e w w2 b1 b3 ρ' k e.num ByteArray.empty := fun ρ' k q1 q3 q4 => ⟨hmm, q1.trans h.h1, q3.trans h.h3, q4, hb1', hb2, h.le, h.ne⟩
    have hnn : (e.num == e.num) = true := beq_self_eq_true _
    have hes : (ByteArray.empty.data.toList == e.name.data.toList) = decide (e.name.size = 0) := by rw [← empty_iff, Bool.beq_comm]; rfl
    rw [h.h4, hmay, if_pos hp]
    have fin : ∀ (ρ' : Sl) (k : Bool), ρ' 1 = ρ 1 → ρ' 3 = ρ 3 → ρ' 4 = .bool k → k = ((Ex.ok1 e) && (decide (0 ≤ e.num) && decide (e.num < 1000000000000000000))) → sx fn_ Tryd.prog 88 tree_mayExpr_R2 (retK Tryd.prog [ResultVar.tmp 2] fun v w' => v = .bool ((Ex.ok1 e) && (decide (0 ≤ e.num) && decide (e.num < 1000000000000000000) && decide (e.name.size = 0)) && Ex.mayL e.args) ∧ Mod none_ w w') ρ' w2 := by
      intro ρ' k q1 q3 q4 hk
      refine may2 hok hg hsz ih (b1 := b1) (b3 := b3) (ok := k) (num := e.num) (name := ByteArray.empty) (st ρ' k q1 q3 q4) ?_
      rw [hk, hnn, hes]
      cases (Ex.ok1 e) <;> cases decide (0 ≤ e.num) <;> cases decide (e.num < 1000000000000000000) <;> cases decide (e.name.size = 0) <;> rfl
    cases hk1 : (Ex.ok1 e) with
    | false =>
      rw [hk1] at fin
      simp only [CondK_bool, MG_u, NG_u, VG_u, UG_u, PG_u, BG_u, CG_u, IG_u, MG_b, NG_b, VG_b, UG_b, PG_b, BG_b, CG_b, IG_b, PK_bool, NK_ptr, not_ok, reduceCtorEq, if_true, if_false, Bool.true_eq_false, Bool.false_eq_true, Bool.not_true, Bool.not_false]
      refine fin _ false ?_ ?_ ?_ ?_ <;> rfl
    | true =>
      rw [hk1] at fin
      simp only [CondK_bool, MG_u, NG_u, VG_u, UG_u, PG_u, BG_u, CG_u, IG_u, MG_b, NG_b, VG_b, UG_b, PG_b, BG_b, CG_b, IG_b, PK_bool, NK_ptr, not_ok, reduceCtorEq, if_true, if_false, Bool.true_eq_false, Bool.false_eq_true, Bool.not_true, Bool.not_false, fo25_0, fo25_1, fo40_0, fo40_1, fo60_0, fo60_1, fo60_2, fo60_3, fo62_0, fo62_1, fo62_2, fo62_3, fo62_4, fo62_5, fo62_6, fo62_7, ld2, ld3, ld5, ld9, ld22, ld23, ld58, len9, len22, len23, len52, len58, ldK_some, cellE, blkC_c, add_pl, Nat.zero_add, List.getElem?_toArray, List.getElem?_cons_succ, List.getElem?_cons_zero, Ex.c0, Ex.c1, Ex.c2, Ex.c3, Ex.c4, Ex.c5, St.c0, St.c1, St.c2, St.c3, St.c4, St.c5, St.c6, St.c7, St.c8, St.c9, hb1', BK_geq]
      cases hk2 : decide (0 ≤ e.num) with
      | false =>
        rw [hk2] at fin
        simp only [CondK_bool, MG_u, NG_u, VG_u, UG_u, PG_u, BG_u, CG_u, IG_u, MG_b, NG_b, VG_b, UG_b, PG_b, BG_b, CG_b, IG_b, PK_bool, NK_ptr, not_ok, reduceCtorEq, if_true, if_false, Bool.true_eq_false, Bool.false_eq_true, Bool.not_true, Bool.not_false]
        refine fin _ false ?_ ?_ ?_ ?_ <;> rfl
      | true =>
        rw [hk2] at fin
        simp only [CondK_bool, MG_u, NG_u, VG_u, UG_u, PG_u, BG_u, CG_u, IG_u, MG_b, NG_b, VG_b, UG_b, PG_b, BG_b, CG_b, IG_b, PK_bool, NK_ptr, not_ok, reduceCtorEq, if_true, if_false, Bool.true_eq_false, Bool.false_eq_true, Bool.not_true, Bool.not_false, fo25_0, fo25_1, fo40_0, fo40_1, fo60_0, fo60_1, fo60_2, fo60_3, fo62_0, fo62_1, fo62_2, fo62_3, fo62_4, fo62_5, fo62_6, fo62_7, ld2, ld3, ld5, ld9, ld22, ld23, ld58, len9, len22, len23, len52, len58, ldK_some, cellE, blkC_c, add_pl, Nat.zero_add, List.getElem?_toArray, List.getElem?_cons_succ, List.getElem?_cons_zero, Ex.c0, Ex.c1, Ex.c2, Ex.c3, Ex.c4, Ex.c5, St.c0, St.c1, St.c2, St.c3, St.c4, St.c5, St.c6, St.c7, St.c8, St.c9, hb1', BK_lss]
        refine fin _ (decide (e.num < 1000000000000000000)) ?_ ?_ ?_ ?_ <;> rfl
  · rw [hmay, if_neg hp]
    have go := fun (ρ' : Sl) (t : Bool) (q1 : ρ' 1 = ρ 1) (q3 : ρ' 3 = ρ 3) (q4 : ρ' 4 = ρ 4) (q43 : ρ' 43 = .bool t) (q26 : ρ' 26 = .int .u8 e.op) (ht : t = decide (e.op = 2 ∨ e.op = 3)) => may3 hok hg hsz ih (h.later (ρ' := ρ') (ok' := Ex.ok1 e) (Mod.refl _ _) q1 q3 (q4.trans h.h4)) q43 q26 ht hp
    refine caseI (fun h2 => condT ?_) (fun h2 => condF ?_)
    · refine go _ true ?_ ?_ ?_ ?_ ?_ (by rw [decide_eq_true (Or.inl h2)]) <;> rfl
    · rw [BK_eql]
      refine go _ (e.op == 3) ?_ ?_ ?_ ?_ ?_ ?_
      · rfl
      · rfl
      · rfl
      · rfl
      · rfl
      · by_cases h3 : e.op = 3
        · rw [decide_eq_true (Or.inr h3), h3]; rfl
        · rw [decide_eq_false (by omega), beq_eq_false_iff_ne]; exact h3
end
theorem mayExpr_ok : ∀ e : Ex, MayOk e := by
  intro e
  induction e using Ex.ind with
  | h e ih =>
    intro w hg hok hsz
    obtain ⟨A, c, hs, _⟩ := reads_cap hok.args.1
    refine tree_mayExpr_calls ?_
    unfold tree_mayExpr_F
    refine box_k (cs := e.cells.toArray) rfl fun w1 hb1 hm1 hs1 => ?_
    simp only [fo25_0, fo25_1, fo40_0, fo40_1, fo60_0, fo60_1, fo60_2, fo60_3, fo62_0, fo62_1, fo62_2, fo62_3, fo62_4, fo62_5, fo62_6, fo62_7, ld2, ld3, ld5, ld9, ld22, ld23, ld58, len9, len22, len23, len52, len58, ldK_some, cellE, blkC_c, add_pl, Nat.zero_add, List.getElem?_toArray, List.getElem?_cons_succ, List.getElem?_cons_zero, Ex.c0, Ex.c1, Ex.c2, Ex.c3, Ex.c4, Ex.c5, St.c0, St.c1, St.c2, St.c3, St.c4, St.c5, St.c6, St.c7, St.c8, St.c9, hb1]
    rw [build_ok (bEx _)]
    refine lcl_k (cs := ownB e.op 0 ByteArray.empty) zEx _ iEx rfl (by simp [ownB, Value.oneCell']) fun w2 hb2 hm2 hs2 => ?_
    have hb1' := hm2.blk hb1 id
    have hmm := hm1.trans hm2
    have ne : w.heap.size ≠ w1.heap.size := by omega
    refine tree_mayExpr_R0_quiet (D := []) (fun w' => Mod none_ w2 w') ((Mod.refl _ w2).drawn _) ?_
    unfold tree_mayExpr_R0_Q
    have cell : ∀ (w' : World), Mod none_ w2 w' → ∀ (j : Nat) v, e.cells[j]? = some v → w'.cell? ⟨w.heap.size, 0 + j, none⟩ = some v := fun w' hw j v hv => by
      rw [cell_blk (hw.blk hb1' id), Nat.zero_add]
      simpa using hv
    refine Qfo (off := 0) (a := ⟨w.heap.size, 0, none⟩) (by kernel_rfl) (Qld uU8 rfl (v := .int .u8 e.op) (fun w' hw => by rw [add_pl]; exact cell w' hw 0 _ rfl) (Qgeq ?_))
    have fin : ∀ (k : Bool) (ρ' : Sl), k = (Ex.ok1 e) → ρ' 1 = .pointer (some ⟨w.heap.size, 0, none⟩) → ρ' 3 = .pointer (some ⟨w1.heap.size, 0, none⟩) → ρ' 4 = .bool k → ∀ w', Mod none_ w2 w' →
        sx fn_ Tryd.prog 88 tree_mayExpr_R1 (retK Tryd.prog [ResultVar.tmp 2] fun v w' => v = .bool e.may ∧ Mod none_ w w') ρ' w' := fun k ρ' hk q1 q3 q4 w' hw =>
      may1 hok hg hsz ih (b1 := w.heap.size) (b3 := w1.heap.size) ⟨hmm.trans hw, q1, q3, hk ▸ q4, hw.blk hb1' id, hw.blk hb2 id, by omega, ne⟩
    by_cases h1 : 1 ≤ e.op
    · rw [decide_eq_true h1]
      simp only [QG_b, if_true]
      refine Qfo (off := 0) (a := ⟨w.heap.size, 0, none⟩) (by kernel_rfl) (Qld uU8 rfl (v := .int .u8 e.op) (fun w' hw => by rw [add_pl]; exact cell w' hw 0 _ rfl) (Qleq (QP_of ?_)))
      simp only [if_true]
      by_cases h20 : e.op ≤ 20
      · rw [decide_eq_true h20]
        simp only [QG_b, if_true]
        refine Qfo (off := 3) (a := ⟨w.heap.size, 0, none⟩) (by kernel_rfl) (Qld uExs rfl (v := .slice A e.args.length c) (fun w' hw => by rw [add_pl]; exact cell w' hw 3 _ (by rw [← hs]; rfl)) (QI_len uExs _ _ _ _ ?_))
        refine Qfo (off := 0) (a := ⟨w.heap.size, 0, none⟩) (by kernel_rfl) (Qld uU8 rfl (v := .int .u8 e.op) (fun w' hw => by rw [add_pl]; exact cell w' hw 0 _ rfl) ?_)
        refine QC_rt Tryd.func111 rfl rfl (v := .int .i64 (sidesP e.op)) (fun w' hw => sides_ok e.op w') (fun w' u w'' hw hu => ⟨hu.1, by rw [hu.2]; exact hw⟩) (Qeql (QP_of ?_))
        simp only [if_true]
        intro w3 hm3
        refine fin ((e.args.length : Int) == (sidesP e.op : Int)) _ ?_ ?_ ?_ ?_ w3 hm3
        · unfold Ex.ok1
          rw [decide_eq_true h1, decide_eq_true h20]
          by_cases q : e.args.length = sidesP e.op
          · rw [decide_eq_true q, q]; simp
          · rw [decide_eq_false q, beq_eq_false_iff_ne.2 (by omega)]; rfl
        · rfl
        · rfl
        · rfl
      · rw [decide_eq_false h20]
        simp only [QG_b, Bool.false_eq_true, if_false]
        refine QP_of ?_
        simp only [Bool.false_eq_true, if_false]
        intro w3 hm3
        refine fin false _ (by unfold Ex.ok1; rw [decide_eq_false h20]; simp) ?_ ?_ ?_ w3 hm3 <;> rfl
    · rw [decide_eq_false h1]
      simp only [QG_b, Bool.false_eq_true, if_false]
      refine QP_of ?_
      simp only [Bool.false_eq_true, if_false, QG_b]
      refine QP_of ?_
      simp only [Bool.false_eq_true, if_false]
      intro w3 hm3
      refine fin false _ (by unfold Ex.ok1; rw [decide_eq_false h1]; rfl) ?_ ?_ ?_ w3 hm3 <;> rfl
end Go.Proofs.YtbnbcimjapiicaaDoor.Tr
