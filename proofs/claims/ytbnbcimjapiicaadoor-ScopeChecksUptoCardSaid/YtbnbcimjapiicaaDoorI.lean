/- Whether an expression may be. -/
import Derived.Test.YtbnbcimjapiicaaDoorH
set_option linter.unusedVariables false
set_option linter.unusedSimpArgs false
set_option maxRecDepth 4000
namespace Go.Proofs.YtbnbcimjapiicaaDoor.Tr
open Go Go.X Go.RowKit Go.Proofs.YtbnbcimjapiicaaDoor.XF Go.Proofs.YtbnbcimjapiicaaDoor.XK

def MayOk (a : Ex) : Prop := ∀ w, Gl w → a.Ok w → a.sz ≤ 1099511627776 → Rt Tryd.prog 96 #[.agg a.cells.toArray] w fun v w' => v = .bool a.may ∧ Mod none_ w w'
theorem not_may_call {l : List Ex} (ih : ∀ a ∈ l, MayOk a) {w : World} (hg : Gl w) {s : Value} (h : ExsOk w s l) (hsz : Ex.szL l ≤ 1099511627776) :
    ∀ a ∈ l, ∀ w', Mod none_ w w' → ∀ K : Value → World → Prop, (∀ w'', Mod none_ w' w'' → K (.bool (!a.may)) w'') → CK Tryd.prog (.func (.func 112) #[] #[]) [.agg a.cells.toArray] w' K := by
  intro a ha w' hm K hk
  refine CK_st (R := fun v w'' => v = .bool (!a.may) ∧ Mod none_ w' w'') Tryd.func112 rfl rfl ?_ (fun v w'' hv => by rw [hv.1]; exact hk w'' hv.2)
  refine tree_mayExpr_1_calls ?_
  unfold tree_mayExpr_1_F
  refine box_k (cs := a.cells.toArray) rfl fun w1 hb1 hm1 _ => ?_
  refine ldB (cs := a.cells.toArray) Tryd.underlying60 rfl iEx hb1 ?_
  refine CK_st Tryd.func96 rfl rfl (ih a ha w1 ((hg.mod hm).mod hm1) (((h.2 a ha).mod hm).mod hm1) (by have := Ex.szL_mem ha; omega)) ?_
  rintro _ w2 ⟨rfl, hm2⟩
  simp only [CondK_bool, MG_u, NG_u, VG_u, UG_u, PG_u, BG_u, CG_u, IG_u, MG_b, NG_b, VG_b, UG_b, PG_b, BG_b, CG_b, IG_b, PK_bool, NK_ptr, not_ok, reduceCtorEq, if_true, if_false, Bool.true_eq_false, Bool.false_eq_true, Bool.not_true, Bool.not_false]
  exact ⟨trivial, hm1.trans hm2⟩
theorem any_not_may (l : List Ex) : (!l.any fun a => !a.may) = Ex.mayL l := by
  rw [Ex.mayL_eq]
  induction l with
  | nil => rfl
  | cons a r ih => simp only [List.any_cons, List.all_cons, Bool.not_or, Bool.not_not, ih]
theorem mayR2 {e : Ex} {w w1 : World} (hok : e.Ok w) (hg : Gl w) (hsz : e.sz ≤ 1099511627776) (hm : Mod none_ w w1) (ih : ∀ a ∈ e.args, MayOk a) {b1 b3 : Nat} {x0 x3 x4 x5 : Value} {onum : Int} {oname : ByteArray}
    (hb1 : w1.heap[b1]? = some (.cells e.cells.toArray 60 (0, 0))) (hb3 : w1.heap[b3]? = some (.cells #[x0, .int .i64 onum, .string oname, x3, x4, x5] 60 (0, 0))) {ρ : Sl} {ok : Bool}
    (h1 : ρ 1 = .pointer (some ⟨b1, 0, none⟩)) (h3 : ρ 3 = .pointer (some ⟨b3, 0, none⟩)) (h4 : ρ 4 = .bool ok) :
    sx fn_ Tryd.prog 88 tree_mayExpr_R2 (retK Tryd.prog [ResultVar.tmp 2] fun v w' => v = .bool (ok && (onum == e.num) && (oname.data.toList == e.name.data.toList) && Ex.mayL e.args) ∧ Mod none_ w w') ρ w1 := by
  obtain ⟨A, c, hs, _⟩ := reads_cap hok.args.1
  rw [tree_mayExpr_R2_eq]
  unfold tree_mayExpr_R2_F
  simp only [h1, h3, h4]
  cases ok with
  | false =>
    simp only [CondK_bool, MG_u, NG_u, VG_u, UG_u, PG_u, BG_u, CG_u, IG_u, MG_b, NG_b, VG_b, UG_b, PG_b, BG_b, CG_b, IG_b, PK_bool, NK_ptr, not_ok, reduceCtorEq, if_true, if_false, Bool.true_eq_false, Bool.false_eq_true, Bool.not_true, Bool.not_false]
    exact ⟨rfl, hm⟩
  | true =>
    simp only [CondK_bool, MG_u, NG_u, VG_u, UG_u, PG_u, BG_u, CG_u, IG_u, MG_b, NG_b, VG_b, UG_b, PG_b, BG_b, CG_b, IG_b, PK_bool, NK_ptr, not_ok, reduceCtorEq, if_true, if_false, Bool.true_eq_false, Bool.false_eq_true, Bool.not_true, Bool.not_false, fo25_0, fo25_1, fo40_0, fo40_1, fo60_0, fo60_1, fo60_2, fo60_3, fo62_0, fo62_1, fo62_2, fo62_3, fo62_4, fo62_5, fo62_6, fo62_7, ld2, ld3, ld5, ld9, ld22, ld23, ld58, len9, len22, len23, len52, len58, ldK_some, cellE, blkC_c, add_pl, Nat.zero_add, List.getElem?_toArray, List.getElem?_cons_succ, List.getElem?_cons_zero, Ex.c0, Ex.c1, Ex.c2, Ex.c3, Ex.c4, Ex.c5, St.c0, St.c1, St.c2, St.c3, St.c4, St.c5, St.c6, St.c7, St.c8, St.c9, hb1, hb3, BK_eql]
    cases hn : (onum == e.num) with
    | false =>
      simp only [CondK_bool, MG_u, NG_u, VG_u, UG_u, PG_u, BG_u, CG_u, IG_u, MG_b, NG_b, VG_b, UG_b, PG_b, BG_b, CG_b, IG_b, PK_bool, NK_ptr, not_ok, reduceCtorEq, if_true, if_false, Bool.true_eq_false, Bool.false_eq_true, Bool.not_true, Bool.not_false]
      exact ⟨rfl, hm⟩
    | true =>
      simp only [CondK_bool, MG_u, NG_u, VG_u, UG_u, PG_u, BG_u, CG_u, IG_u, MG_b, NG_b, VG_b, UG_b, PG_b, BG_b, CG_b, IG_b, PK_bool, NK_ptr, not_ok, reduceCtorEq, if_true, if_false, Bool.true_eq_false, Bool.false_eq_true, Bool.not_true, Bool.not_false, fo25_0, fo25_1, fo40_0, fo40_1, fo60_0, fo60_1, fo60_2, fo60_3, fo62_0, fo62_1, fo62_2, fo62_3, fo62_4, fo62_5, fo62_6, fo62_7, ld2, ld3, ld5, ld9, ld22, ld23, ld58, len9, len22, len23, len52, len58, ldK_some, cellE, blkC_c, add_pl, Nat.zero_add, List.getElem?_toArray, List.getElem?_cons_succ, List.getElem?_cons_zero, Ex.c0, Ex.c1, Ex.c2, Ex.c3, Ex.c4, Ex.c5, St.c0, St.c1, St.c2, St.c3, St.c4, St.c5, St.c6, St.c7, St.c8, St.c9, hb1, hb3, BK_eqlS, ByteArray.toList_eq]
      cases ho : (oname.data.toList == e.name.data.toList) with
      | false =>
        simp only [CondK_bool, MG_u, NG_u, VG_u, UG_u, PG_u, BG_u, CG_u, IG_u, MG_b, NG_b, VG_b, UG_b, PG_b, BG_b, CG_b, IG_b, PK_bool, NK_ptr, not_ok, reduceCtorEq, if_true, if_false, Bool.true_eq_false, Bool.false_eq_true, Bool.not_true, Bool.not_false]
        exact ⟨rfl, hm⟩
      | true =>
        simp only [CondK_bool, MG_u, NG_u, VG_u, UG_u, PG_u, BG_u, CG_u, IG_u, MG_b, NG_b, VG_b, UG_b, PG_b, BG_b, CG_b, IG_b, PK_bool, NK_ptr, not_ok, reduceCtorEq, if_true, if_false, Bool.true_eq_false, Bool.false_eq_true, Bool.not_true, Bool.not_false, fo25_0, fo25_1, fo40_0, fo40_1, fo60_0, fo60_1, fo60_2, fo60_3, fo62_0, fo62_1, fo62_2, fo62_3, fo62_4, fo62_5, fo62_6, fo62_7, ld2, ld3, ld5, ld9, ld22, ld23, ld58, len9, len22, len23, len52, len58, ldK_some, cellE, blkC_c, add_pl, Nat.zero_add, List.getElem?_toArray, List.getElem?_cons_succ, List.getElem?_cons_zero, Ex.c0, Ex.c1, Ex.c2, Ex.c3, Ex.c4, Ex.c5, St.c0, St.c1, St.c2, St.c3, St.c4, St.c5, St.c6, St.c7, St.c8, St.c9, hb1]
        have hszL : Ex.szL e.args ≤ 1099511627776 := by rw [Ex.sz_eq] at hsz; omega
        refine CK_st Tryd.func94 rfl rfl (ContainsFuncEx_ok (hok.args.mod hm) (by have := Ex.len_sz e.args; omega) (not_may_call ih (hg.mod hm) (hok.args.mod hm) hszL)) ?_
        rintro _ w2 ⟨rfl, hm2⟩
        simp only [CondK_bool, MG_u, NG_u, VG_u, UG_u, PG_u, BG_u, CG_u, IG_u, MG_b, NG_b, VG_b, UG_b, PG_b, BG_b, CG_b, IG_b, PK_bool, NK_ptr, not_ok, reduceCtorEq, if_true, if_false, Bool.true_eq_false, Bool.false_eq_true, Bool.not_true, Bool.not_false]
        refine ⟨?_, hm.trans hm2⟩
        rw [any_not_may]
        rfl
end Go.Proofs.YtbnbcimjapiicaaDoor.Tr
