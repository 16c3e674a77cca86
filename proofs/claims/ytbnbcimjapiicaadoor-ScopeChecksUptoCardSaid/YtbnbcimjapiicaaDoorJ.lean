/- Whether an expression may be: the whole. -/
import Derived.Test.YtbnbcimjapiicaaDoorI
set_option linter.unusedVariables false
set_option linter.unusedSimpArgs false
set_option maxRecDepth 4000
namespace Go.Proofs.YtbnbcimjapiicaaDoor.Tr
open Go Go.X Go.RowKit Go.Proofs.YtbnbcimjapiicaaDoor.XF Go.Proofs.YtbnbcimjapiicaaDoor.XK

def Ex.ok1 (e : Ex) : Bool := decide (1 ≤ e.op) && decide (e.op ≤ 20) && decide (e.args.length = sidesP e.op)
theorem cU8 : Tryd.prog.cellsOf 5 = 1 := by kernel_rfl
theorem cI64 : Tryd.prog.cellsOf 2 = 1 := by kernel_rfl
theorem bEx (op : Int) : Tryd.prog.built 60 [(0, .int .u8 op)] = some #[.int .u8 op, .int .i64 0, .string ByteArray.empty, .slice none 0 0, .int .i64 0, .int .i64 0] := by kernel_rfl
/-- What stands in the own block. -/
def ownB (op num : Int) (name : ByteArray) : Array Value := #[.int .u8 op, .int .i64 num, .string name, .slice none 0 0, .int .i64 0, .int .i64 0]
structure MSt (e : Ex) (w w1 : World) (b1 b3 : Nat) (ρ : Sl) (ok : Bool) (num : Int) (name : ByteArray) : Prop where
  m : Mod none_ w w1
  h1 : ρ 1 = .pointer (some ⟨b1, 0, none⟩)
  h3 : ρ 3 = .pointer (some ⟨b3, 0, none⟩)
  h4 : ρ 4 = .bool ok
  hb1 : w1.heap[b1]? = some (.cells e.cells.toArray 60 (0, 0))
  hb3 : w1.heap[b3]? = some (.cells (ownB e.op num name) 60 (0, 0))
  le : w.heap.size ≤ b3
  ne : b1 ≠ b3
theorem MSt.later {e : Ex} {w w1 w2 : World} {b1 b3 : Nat} {ρ ρ' : Sl} {ok ok' : Bool} {num : Int} {name : ByteArray} (h : MSt e w w1 b1 b3 ρ ok num name) (hm : Mod none_ w1 w2) (h1 : ρ' 1 = ρ 1) (h3 : ρ' 3 = ρ 3) (h4 : ρ' 4 = .bool ok') : MSt e w w2 b1 b3 ρ' ok' num name :=
  ⟨h.m.trans hm, h1.trans h.h1, h3.trans h.h3, h4, hm.blk h.hb1 id, hm.blk h.hb3 id, h.le, h.ne⟩
section
variable {e : Ex} {w w1 : World} (hok : e.Ok w) (hg : Gl w) (hsz : e.sz ≤ 1099511627776) (ih : ∀ a ∈ e.args, MayOk a) {b1 b3 : Nat} {ρ : Sl} {ok : Bool}
include hok hg hsz ih
theorem may2 {num : Int} {name : ByteArray} (h : MSt e w w1 b1 b3 ρ ok num name) {z : Bool} (hz : (ok && (num == e.num) && (name.data.toList == e.name.data.toList) && Ex.mayL e.args) = z) :
    sx fn_ Tryd.prog 88 tree_mayExpr_R2 (retK Tryd.prog [ResultVar.tmp 2] fun v w' => v = .bool z ∧ Mod none_ w w') ρ w1 := by
  subst hz
  exact mayR2 hok hg hsz h.m ih h.hb1 h.hb3 h.h1 h.h3 h.h4
theorem may3 (h : MSt e w w1 b1 b3 ρ ok 0 ByteArray.empty) {t : Bool} (h43 : ρ 43 = .bool t) (h26 : ρ 26 = .int .u8 e.op) (ht : t = decide (e.op = 2 ∨ e.op = 3)) (h1 : e.op ≠ 1) :
    sx fn_ Tryd.prog 88 tree_mayExpr_R3 (blkK 0 (seqK (sx fn_ Tryd.prog 88 tree_mayExpr_R2 (retK Tryd.prog [ResultVar.tmp 2] fun v w' => v = .bool (ok && (decide (e.num = 0) && (if e.op = 2 ∨ e.op = 3 then nameP e.name else if e.op = 5 then plainP e.name else decide (e.name.size = 0))) && Ex.mayL e.args) ∧ Mod none_ w w'))
      (retK Tryd.prog [ResultVar.tmp 2] fun v w' => v = .bool (ok && (decide (e.num = 0) && (if e.op = 2 ∨ e.op = 3 then nameP e.name else if e.op = 5 then plainP e.name else decide (e.name.size = 0))) && Ex.mayL e.args) ∧ Mod none_ w w'))) ρ w1 := by
  have hn0 : ((0 : Int) == e.num) = decide (e.num = 0) := by
    by_cases q : e.num = 0
    · rw [q]; rfl
    · rw [decide_eq_false q, beq_eq_false_iff_ne]; omega
  have hss : (e.name.data.toList == e.name.data.toList) = true := beq_self_eq_true _
  rw [tree_mayExpr_R3_eq]
  unfold tree_mayExpr_R3_F
  rw [h43]
  subst ht
  refine caseC (fun hp => ?_) (fun hp => ?_)
  · rw [decide_eq_true_eq] at hp
    simp only [h.h1, h.h3, fo25_0, fo25_1, fo40_0, fo40_1, fo60_0, fo60_1, fo60_2, fo60_3, fo62_0, fo62_1, fo62_2, fo62_3, fo62_4, fo62_5, fo62_6, fo62_7, ld2, ld3, ld5, ld9, ld22, ld23, ld58, len9, len22, len23, len52, len58, ldK_some, cellE, blkC_c, add_pl, Nat.zero_add, List.getElem?_toArray, List.getElem?_cons_succ, List.getElem?_cons_zero, Ex.c0, Ex.c1, Ex.c2, Ex.c3, Ex.c4, Ex.c5, St.c0, St.c1, St.c2, St.c3, St.c4, St.c5, St.c6, St.c7, St.c8, St.c9, h.hb1]
    refine st_k cS rfl h.hb3 (by simp [ownB]) fun w2 hb2 hold hsz2 hm2 => ?_
    have hb1' : w2.heap[b1]? = some (.cells e.cells.toArray 60 (0, 0)) := (hold _ h.ne).trans h.hb1
    have hmm : Mod none_ w w2 := h.m.then hm2 fun i hi q => by have := h.le; omega
    have st : ∀ (ρ' : Sl) (k : Bool), ρ' 1 = ρ 1 → ρ' 3 = ρ 3 → ρ' 4 = .bool k → MSt e w w2 b1 b3 ρ' k 0 e.name := fun ρ' k q1 q3 q4 => ⟨hmm, q1.trans h.h1, q3.trans h.h3, q4, hb1', hb2, h.le, h.ne⟩
    rw [h.h4]
    cases ok with
    | false =>
      simp only [CondK_bool, MG_u, NG_u, VG_u, UG_u, PG_u, BG_u, CG_u, IG_u, MG_b, NG_b, VG_b, UG_b, PG_b, BG_b, CG_b, IG_b, PK_bool, NK_ptr, not_ok, reduceCtorEq, if_true, if_false, Bool.true_eq_false, Bool.false_eq_true, Bool.not_true, Bool.not_false]
      rw [bk_n, sq_n]
      refine may2 hok hg hsz ih (b1 := b1) (b3 := b3) (ok := false) (num := 0) (name := e.name) ?_ ?_
      · refine st _ false ?_ ?_ ?_ <;> rfl
      · rfl
    | true =>
      simp only [CondK_bool, MG_u, NG_u, VG_u, UG_u, PG_u, BG_u, CG_u, IG_u, MG_b, NG_b, VG_b, UG_b, PG_b, BG_b, CG_b, IG_b, PK_bool, NK_ptr, not_ok, reduceCtorEq, if_true, if_false, Bool.true_eq_false, Bool.false_eq_true, Bool.not_true, Bool.not_false, fo25_0, fo25_1, fo40_0, fo40_1, fo60_0, fo60_1, fo60_2, fo60_3, fo62_0, fo62_1, fo62_2, fo62_3, fo62_4, fo62_5, fo62_6, fo62_7, ld2, ld3, ld5, ld9, ld22, ld23, ld58, len9, len22, len23, len52, len58, ldK_some, cellE, blkC_c, add_pl, Nat.zero_add, List.getElem?_toArray, List.getElem?_cons_succ, List.getElem?_cons_zero, Ex.c0, Ex.c1, Ex.c2, Ex.c3, Ex.c4, Ex.c5, St.c0, St.c1, St.c2, St.c3, St.c4, St.c5, St.c6, St.c7, St.c8, St.c9, hb1']
      refine CK_st Tryd.func50 rfl rfl (Name_ok (hg.mod hmm) e.name hok.fine.2.2.1) ?_
      rintro _ w3 ⟨rfl, hm3⟩
      rw [bk_n, sq_n]
      refine may2 hok hg hsz ih (b1 := b1) (b3 := b3) (ok := nameP e.name) (num := 0) (name := e.name) ?_ ?_
      · refine (st ρ _ rfl rfl h.h4).later hm3 ?_ ?_ ?_ <;> rfl
      rw [if_pos hp, hn0, hss]
      cases nameP e.name <;> cases decide (e.num = 0) <;> rfl
  · rw [decide_eq_false_iff_not] at hp
    rw [h26]
    refine caseI (fun h5 => condT ?_) (fun h5 => condF ?_)
    · simp only [h.h1, h.h3, fo25_0, fo25_1, fo40_0, fo40_1, fo60_0, fo60_1, fo60_2, fo60_3, fo62_0, fo62_1, fo62_2, fo62_3, fo62_4, fo62_5, fo62_6, fo62_7, ld2, ld3, ld5, ld9, ld22, ld23, ld58, len9, len22, len23, len52, len58, ldK_some, cellE, blkC_c, add_pl, Nat.zero_add, List.getElem?_toArray, List.getElem?_cons_succ, List.getElem?_cons_zero, Ex.c0, Ex.c1, Ex.c2, Ex.c3, Ex.c4, Ex.c5, St.c0, St.c1, St.c2, St.c3, St.c4, St.c5, St.c6, St.c7, St.c8, St.c9, h.hb1]
      refine st_k cS rfl h.hb3 (by simp [ownB]) fun w2 hb2 hold hsz2 hm2 => ?_
      have hb1' : w2.heap[b1]? = some (.cells e.cells.toArray 60 (0, 0)) := (hold _ h.ne).trans h.hb1
      have hmm : Mod none_ w w2 := h.m.then hm2 fun i hi q => by have := h.le; omega
      have st : ∀ (w3 : World) (ρ' : Sl) (k : Bool), Mod none_ w2 w3 → ρ' 1 = ρ 1 → ρ' 3 = ρ 3 → ρ' 4 = .bool k → MSt e w w3 b1 b3 ρ' k 0 e.name := fun w3 ρ' k hm3 q1 q3 q4 => ⟨hmm.trans hm3, q1.trans h.h1, q3.trans h.h3, q4, hm3.blk hb1' id, hm3.blk hb2 id, h.le, h.ne⟩
      refine tree_mayExpr_R4_quiet (D := []) (fun w' => Mod none_ w2 w') ((Mod.refl _ w2).drawn _) ?_
      unfold tree_mayExpr_R4_Q
      have e4 : ∀ ρ' : Sl, ρ' 4 = ρ 4 → ρ' 4 = .bool ok := fun ρ' q => q.trans h.h4
      simp only [sq_n, sq_x, sq_r, bk_n, bk_r, bk_x, rt_r, rt_n, rs_0, rs_t, pk_1, pk_2, up_at, reduceIte, Nat.reduceEqDiff, h.h4, h.h1, QG_b]
      cases ok with
      | false =>
        simp only [Bool.false_eq_true, if_false]
        refine QP_of ?_
        simp only [Bool.false_eq_true, if_false]
        intro w3 hm3
        refine may2 hok hg hsz ih (b1 := b1) (b3 := b3) (ok := false) (num := 0) (name := e.name) ?_ ?_
        · refine st w3 _ false hm3 ?_ ?_ ?_ <;> rfl
        · rfl
      | true =>
        simp only [if_true]
        refine QV_of (fun w' _ => cut_plain w' _) ?_
        refine Qfo (off := 2) (by kernel_rfl) (Qld uS rfl (v := .string e.name) (fun w' hw => by rw [add_pl, cell_blk (hw.blk hb1' id)]; rfl) ?_)
        refine QC_rt Tryd.func90 rfl rfl (v := .bool (plainP e.name)) (fun w' hw => Contains_ok e.name (l := plainL) (reads_at ((hg.mod hmm).mod hw).plain (by decide)) (by decide)) (fun w' u w'' hw hu => ⟨hu.1, by rw [hu.2]; exact hw⟩) ?_
        refine QP_of ?_
        simp only [if_true]
        intro w3 hm3
        refine may2 hok hg hsz ih (b1 := b1) (b3 := b3) (ok := plainP e.name) (num := 0) (name := e.name) ?_ ?_
        · refine st w3 _ (plainP e.name) hm3 ?_ ?_ ?_ <;> rfl
        rw [if_neg hp, if_pos h5, hn0, hss]
        cases plainP e.name <;> cases decide (e.num = 0) <;> rfl
    · rw [bk_n, sq_n]
      refine may2 hok hg hsz ih (b1 := b1) (b3 := b3) (ok := ok) (num := 0) (name := ByteArray.empty) ?_ ?_
      · refine h.later (Mod.refl _ _) ?_ ?_ h.h4 <;> rfl
      rw [if_neg hp, if_neg h5, hn0, show (ByteArray.empty.data.toList == e.name.data.toList) = decide (e.name.size = 0) by rw [← empty_iff, Bool.beq_comm]; rfl]
      cases ok <;> cases decide (e.num = 0) <;> cases decide (e.name.size = 0) <;> rfl
end
end Go.Proofs.YtbnbcimjapiicaaDoor.Tr
