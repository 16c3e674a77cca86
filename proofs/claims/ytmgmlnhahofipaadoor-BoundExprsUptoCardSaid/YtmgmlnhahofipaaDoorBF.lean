/- BoundExprs: the chapter's number, and the law. -/
import Derived.Test.YtmgmlnhahofipaaDoorBE
set_option linter.unusedVariables false
set_option linter.unusedSimpArgs false
set_option maxRecDepth 4000
namespace Go.Proofs.YtmgmlnhahofipaaDoor.Tr
open Go Go.X Go.RowKit Go.Proofs.YtmgmlnhahofipaaDoor.XF Go.Proofs.YtmgmlnhahofipaaDoor.XK

theorem may_args {e : Ex} (h : e.may = true) : e.args.length = sidesP e.op ∧ 1 ≤ e.op ∧ e.op ≤ 20 ∧ ∀ a ∈ e.args, a.may = true := by
  rw [Ex.may_eq, Bool.and_eq_true, Ex.mayL_eq, List.all_eq_true] at h
  obtain ⟨h1, h2⟩ := h
  unfold Ex.own at h1
  simp only [Bool.and_eq_true, decide_eq_true_eq] at h1
  exact ⟨h1.1.2, h1.1.1.1, h1.1.1.2, h2⟩
/-- An expression of a row, read where a region draws. -/
theorem QldEx {C : World → Prop} {e : Ex} {a : Addr} {K : Value → Prop} (h : ∀ w, C w → ∀ j u, e.cells[j]? = some u → w.cell? (a.add j) = some u) (hk : K (.agg e.cells.toArray)) : QK Tryd.prog C (do pure (Next.value (← Instr.loadAt 24 (.pointer (some a))))) K :=
  QV_of (fun w hw => run_ldA (cs := e.cells) Tryd.underlying24 rfl iEx (h w hw)) hk
theorem exprR_ok : ∀ (e : Ex) (w : World), e.Ok w → e.sz ≤ 1099511627776 → e.may = true → Rt Tryd.prog 21 #[.agg e.cells.toArray] w fun v w' => v = .int .i64 e.steps ∧ Mod none_ w w' := by
  intro e
  induction e using Ex.ind with
  | h e ih =>
    intro w hok hsz hmay
    obtain ⟨hl, h1, h20, hall⟩ := may_args hmay
    obtain ⟨A, c, hs, _⟩ := reads_cap hok.args.1
    have hszL : Ex.szL e.args ≤ 1099511627776 := by rw [Ex.sz_eq] at hsz; omega
    refine dispatcherref09_expr_calls ?_
    unfold dispatcherref09_expr_F
    refine box_k (cs := e.cells.toArray) rfl fun w1 hb1 hm1 _ => ?_
    have d0 : FAt Tryd.prog w1 24 0 ⟨w.heap.size, 0, none⟩ 5 (.int .u8 e.op) := FAt.mk' (off := 0) (by kernel_rfl) uU8 rfl (by rw [add_pl, cell_blk hb1]; rfl)
    have cell : ∀ (w' : World), Mod none_ w1 w' → ∀ (j : Nat) v, e.cells[j]? = some v → w'.cell? ((⟨w.heap.size, 0, none⟩ : Addr).add j) = some v := fun w' hw j v hv => by
      rw [add_pl, cell_blk (hw.blk hb1 id), Nat.zero_add]
      simpa using hv
    have hst := Ex.stepsL_sz e.args
    have hrow : ∀ w', Mod none_ w1 w' → ExsOk w' (.slice A e.args.length c) e.args := fun w' hw => by rw [← hs]; exact (hok.args.mod hm1).mod hw
    -- two parts
    have two : sidesP e.op = 2 → ∃ x y, e.args = [x, y] := fun q => by
      rw [q] at hl
      match hh : e.args, hl with
      | [x, y], _ => exact ⟨x, y, rfl⟩
    have r0 := Mod.refl none_ w1
    refine d0.vk' fun x3 => ?_
    have nine : ∀ (k : Nat), e.op ≠ 3 → e.op ≠ 4 → e.op ≠ 6 → e.op ≠ 7 → e.op ≠ 1 → e.op ≠ 2 → e.op ≠ 5 → sidesP e.op = 2 := fun k a b c d f g h => by
      unfold sidesP; rw [if_pos (by omega)]
    have go0 : ∀ (ρ' : Sl) (t : Bool), ρ' 1 = .pointer (some ⟨w.heap.size, 0, none⟩) → ρ' 4 = .int .u8 e.op → ρ' 5 = .bool t → t = decide (e.op = 3 ∨ e.op = 4 ∨ e.op = 6 ∨ e.op = 7) →
        sx fn_ Tryd.prog 47 dispatcherref09_expr_R0 (blkK 0 (seqK (sx fn_ Tryd.prog 47 dispatcherref09_expr_R1 (retK Tryd.prog [ResultVar.tmp 2] fun v w' => v = .int .i64 e.steps ∧ Mod none_ w w')) (retK Tryd.prog [ResultVar.tmp 2] fun v w' => v = .int .i64 e.steps ∧ Mod none_ w w'))) ρ' w1 := by
      intro ρ' t q1 q4 q5 ht
      rw [dispatcherref09_expr_R0_eq]
      unfold dispatcherref09_expr_R0_F
      rw [q5, q4, q1]
      subst ht
      refine caseC (fun hp => ?_) (fun hp => ?_)
      · rw [decide_eq_true_eq] at hp
        have hone : sidesP e.op = 1 := by unfold sidesP; rw [if_neg (by omega), if_pos hp]
        rw [hone] at hl
        obtain ⟨x, hx⟩ : ∃ x, e.args = [x] := by
          match hh : e.args, hl with
          | [x], _ => exact ⟨x, rfl⟩
        have hmem : x ∈ e.args := by rw [hx]; simp
        have hsx := Ex.szL_mem hmem
        simp only [fo24_0, fo24_1, fo24_2, fo24_3, fo31_0, fo31_1, fo43_0, fo43_1, fo45_0, fo45_1, fo45_2, fo45_3, fo45_4, fo45_5, fo45_6, fo45_7, ld2, ld3, ld5, ld9, ld22, ld28, ld29, len9, len22, len28, len29, len93, ldK_some, cellE, blkC_c, add_pl, Nat.zero_add, List.getElem?_toArray, List.getElem?_cons_succ, List.getElem?_cons_zero, Ex.c0, Ex.c1, Ex.c2, Ex.c3, Ex.c4, Ex.c5, St.c0, St.c1, St.c2, St.c3, St.c4, St.c5, St.c6, St.c7, St.c8, St.c9, hb1, hs]
        refine ixEx (i := 0) (e := x) (hrow w1 r0) (by rw [hx]; rfl) fun y => ?_
        refine CK_st Tryd.func21 rfl rfl (ih x hmem w1 ((hok.args.mod hm1).2 x hmem) (by omega) (hall x hmem)) ?_
        rintro _ w2 ⟨rfl, hm2⟩
        have := Ex.steps_sz x
        rw [BK_add, wrap_i (n := (x.steps : Int) + 1) (by omega) (by omega)]
        refine ⟨?_, hm1.trans hm2⟩
        show Value.int .i64 ((x.steps : Int) + 1) = _
        rw [Ex.steps_eq e, hx]
        unfold exW
        rw [if_neg (by omega)]
        simp only [Ex.stepsL]
        congr 1
        omega
      rw [decide_eq_false_iff_not] at hp
      have go2 : ∀ (ρ' : Sl) (t : Bool), ρ' 1 = .pointer (some ⟨w.heap.size, 0, none⟩) → ρ' 4 = .int .u8 e.op → ρ' 16 = .bool t → t = decide (e.op = 19 ∨ e.op = 20) →
          sx fn_ Tryd.prog 47 dispatcherref09_expr_R2 (blkK 0 (seqK (sx fn_ Tryd.prog 47 dispatcherref09_expr_R1 (retK Tryd.prog [ResultVar.tmp 2] fun v w' => v = .int .i64 e.steps ∧ Mod none_ w w')) (retK Tryd.prog [ResultVar.tmp 2] fun v w' => v = .int .i64 e.steps ∧ Mod none_ w w'))) ρ' w1 := by
        intro ρ' t q1 q4 q16 ht
        rw [dispatcherref09_expr_R2_eq]
        unfold dispatcherref09_expr_R2_F
        rw [q16, q4]
        subst ht
        refine caseC (fun h2 => ?_) (fun h2 => ?_)
        · rw [decide_eq_true_eq] at h2
          obtain ⟨x, y, hx⟩ := two (by unfold sidesP; rw [if_pos (by omega)])
          have hmx : x ∈ e.args := by rw [hx]; simp
          have hmy : y ∈ e.args := by rw [hx]; simp
          have hsum : Ex.szL e.args = x.sz + (y.sz + 0) := by rw [hx]; rfl
          have tx := Ex.steps_sz x
          have ty := Ex.steps_sz y
          refine dispatcherref09_expr_R5_quiet (D := []) (fun w' => Mod none_ w1 w') ((Mod.refl _ w1).drawn _) ?_
          unfold dispatcherref09_expr_R5_Q
          rw [q1]
          refine Qfo (off := 3) (a := ⟨w.heap.size, 0, none⟩) (by kernel_rfl) (Qld uExs rfl (v := .slice A e.args.length c) (fun w' hw => cell w' hw 3 _ (by rw [← hs]; rfl)) ?_)
          refine QixEx (i := 0) (e := x) (w0 := w1) r0 hrow (by rw [hx]; rfl) fun a ha => QldEx ha ?_
          refine QC_rt Tryd.func21 rfl rfl (v := .int .i64 x.steps) (fun w' hw => ih x hmx w' ((hrow w' hw).2 x hmx) (by omega) (hall x hmx)) (fun w' u w'' hw hu => ⟨hu.1, hw.trans hu.2⟩) ?_
          refine Qfo (off := 3) (a := ⟨w.heap.size, 0, none⟩) (by kernel_rfl) (Qld uExs rfl (v := .slice A e.args.length c) (fun w' hw => cell w' hw 3 _ (by rw [← hs]; rfl)) ?_)
          refine QixEx (i := 1) (e := y) (w0 := w1) r0 hrow (by rw [hx]; rfl) fun a ha => QldEx ha ?_
          refine QC_rt Tryd.func21 rfl rfl (v := .int .i64 y.steps) (fun w' hw => ih y hmy w' ((hrow w' hw).2 y hmy) (by omega) (hall y hmy)) (fun w' u w'' hw hu => ⟨hu.1, hw.trans hu.2⟩) (Qadd (Qadd ?_))
          intro w2 hm2
          rw [sq_n, dispatcherref09_expr_R6_eq]
          unfold dispatcherref09_expr_R6_F
          refine ⟨?_, hm1.trans hm2⟩
          show Value.int .i64 (IntKind.i64.wrap (IntKind.i64.wrap ((x.steps : Int) + (y.steps : Int)) + 3)) = _
          rw [wrap_i (n := (x.steps : Int) + (y.steps : Int)) (by omega) (by omega), wrap_i (n := (x.steps : Int) + (y.steps : Int) + 3) (by omega) (by omega), Ex.steps_eq e, hx]
          unfold exW
          rw [if_pos h2]
          simp only [Ex.stepsL]
          congr 1
          omega
        · rw [decide_eq_false_iff_not] at h2
          have go7 : ∀ (ρ' : Sl) (t : Bool), ρ' 1 = .pointer (some ⟨w.heap.size, 0, none⟩) → ρ' 31 = .bool t → t = decide (e.op = 1 ∨ e.op = 2 ∨ e.op = 5) →
              sx fn_ Tryd.prog 47 dispatcherref09_expr_R7 (blkK 0 (seqK (sx fn_ Tryd.prog 47 dispatcherref09_expr_R1 (retK Tryd.prog [ResultVar.tmp 2] fun v w' => v = .int .i64 e.steps ∧ Mod none_ w w')) (retK Tryd.prog [ResultVar.tmp 2] fun v w' => v = .int .i64 e.steps ∧ Mod none_ w w'))) ρ' w1 := by
            intro ρ' t q1 q31 ht
            rw [dispatcherref09_expr_R7_eq]
            unfold dispatcherref09_expr_R7_F
            rw [q31]
            subst ht
            refine caseC (fun h3 => ?_) (fun h3 => ?_)
            · rw [decide_eq_true_eq] at h3
              refine ⟨?_, hm1⟩
              have hz : e.args = [] := List.length_eq_zero_iff.1 (by rw [hl]; unfold sidesP; rw [if_neg (by omega), if_neg (by omega)])
              show Value.int .i64 1 = _
              rw [Ex.steps_eq, hz]
              unfold exW
              rw [if_neg h2]
              rfl
            · rw [decide_eq_false_iff_not] at h3
              rw [bk_n, sq_n, dispatcherref09_expr_R1_eq]
              unfold dispatcherref09_expr_R1_F
              obtain ⟨x, y, hx⟩ := two (by unfold sidesP; rw [if_pos (by omega)])
              have hmx : x ∈ e.args := by rw [hx]; simp
              have hmy : y ∈ e.args := by rw [hx]; simp
              have hsum : Ex.szL e.args = x.sz + (y.sz + 0) := by rw [hx]; rfl
              have tx := Ex.steps_sz x
              have ty := Ex.steps_sz y
              refine dispatcherref09_expr_R3_quiet (D := []) (fun w' => Mod none_ w1 w') ((Mod.refl _ w1).drawn _) ?_
              unfold dispatcherref09_expr_R3_Q
              rw [q1]
              refine Qfo (off := 3) (a := ⟨w.heap.size, 0, none⟩) (by kernel_rfl) (Qld uExs rfl (v := .slice A e.args.length c) (fun w' hw => cell w' hw 3 _ (by rw [← hs]; rfl)) ?_)
              refine QixEx (i := 0) (e := x) (w0 := w1) r0 hrow (by rw [hx]; rfl) fun a ha => QldEx ha ?_
              refine QC_rt Tryd.func21 rfl rfl (v := .int .i64 x.steps) (fun w' hw => ih x hmx w' ((hrow w' hw).2 x hmx) (by omega) (hall x hmx)) (fun w' u w'' hw hu => ⟨hu.1, hw.trans hu.2⟩) ?_
              refine Qfo (off := 3) (a := ⟨w.heap.size, 0, none⟩) (by kernel_rfl) (Qld uExs rfl (v := .slice A e.args.length c) (fun w' hw => cell w' hw 3 _ (by rw [← hs]; rfl)) ?_)
              refine QixEx (i := 1) (e := y) (w0 := w1) r0 hrow (by rw [hx]; rfl) fun a ha => QldEx ha ?_
              refine QC_rt Tryd.func21 rfl rfl (v := .int .i64 y.steps) (fun w' hw => ih y hmy w' ((hrow w' hw).2 y hmy) (by omega) (hall y hmy)) (fun w' u w'' hw hu => ⟨hu.1, hw.trans hu.2⟩) (Qadd (Qadd ?_))
              intro w2 hm2
              rw [sq_n, dispatcherref09_expr_R4_eq]
              unfold dispatcherref09_expr_R4_F
              refine ⟨?_, hm1.trans hm2⟩
              show Value.int .i64 (IntKind.i64.wrap (IntKind.i64.wrap ((x.steps : Int) + (y.steps : Int)) + 1)) = _
              rw [wrap_i (n := (x.steps : Int) + (y.steps : Int)) (by omega) (by omega), wrap_i (n := (x.steps : Int) + (y.steps : Int) + 1) (by omega) (by omega), Ex.steps_eq e, hx]
              unfold exW
              rw [if_neg h2]
              simp only [Ex.stepsL]
              congr 1
              omega
          refine caseI (fun h3 => condT ?_) (fun h3 => condF ?_)
          · refine go7 _ true ?_ rfl (by rw [decide_eq_true (Or.inl h3)])
            exact q1
          refine caseI (fun h4 => condT ?_) (fun h4 => condF ?_)
          · refine go7 _ true ?_ rfl (by rw [decide_eq_true (Or.inr (Or.inl h4))])
            exact q1
          rw [BK_eql]
          refine go7 _ (e.op == 5) ?_ rfl ?_
          · exact q1
          · rw [beq_dec]
            by_cases q : e.op = 5
            · rw [decide_eq_true q, decide_eq_true (Or.inr (Or.inr q))]
            · rw [decide_eq_false q, decide_eq_false (by omega)]
      refine caseI (fun h3 => condT ?_) (fun h3 => condF ?_)
      · refine go2 _ true ?_ ?_ rfl (by rw [decide_eq_true (Or.inl h3)])
        · exact q1
        · exact q4
      rw [BK_eql]
      refine go2 _ (e.op == 20) ?_ ?_ rfl ?_
      · exact q1
      · exact q4
      · rw [beq_dec]
        by_cases q : e.op = 20
        · rw [decide_eq_true q, decide_eq_true (Or.inr q)]
        · rw [decide_eq_false q, decide_eq_false (by omega)]
    refine caseI (fun h3 => condT ?_) (fun h3 => condF ?_)
    · exact go0 _ true rfl rfl rfl (by rw [decide_eq_true (Or.inl h3)])
    refine caseI (fun h4 => condT ?_) (fun h4 => condF ?_)
    · exact go0 _ true rfl rfl rfl (by rw [decide_eq_true (Or.inr (Or.inl h4))])
    refine caseI (fun h6 => condT ?_) (fun h6 => condF ?_)
    · exact go0 _ true rfl rfl rfl (by rw [decide_eq_true (Or.inr (Or.inr (Or.inl h6)))])
    rw [BK_eql]
    refine go0 _ (e.op == 7) rfl rfl rfl ?_
    rw [beq_dec]
    by_cases q : e.op = 7
    · rw [decide_eq_true q, decide_eq_true (Or.inr (Or.inr (Or.inr q)))]
    · rw [decide_eq_false q, decide_eq_false (by omega)]
theorem ExprR_ok {w : World} {e : Ex} (hok : e.Ok w) (hsz : e.sz ≤ 1048576) : Rt Tryd.prog 9 #[.agg e.cells.toArray] w fun v w' => v = .int .i64 (exprP e) ∧ Mod none_ w w' := by
  refine dispatcherref09_Expr_calls ?_
  unfold dispatcherref09_Expr_F
  refine box_k (cs := e.cells.toArray) rfl fun w1 hb1 hm1 _ => ?_
  refine ldB (cs := e.cells.toArray) Tryd.underlying24 rfl iEx hb1 ?_
  refine CK_st Tryd.func19 rfl rfl (MayExprR_ok e w1 (hok.mod hm1) (by omega)) ?_
  rintro _ w2 ⟨rfl, hm2⟩
  have hm12 := hm1.trans hm2
  have hb2 := hm2.blk hb1 id
  rw [not_ok]
  unfold exprP
  cases hp : e.may with
  | false =>
    simp only [CondK_bool, MG_u, NG_u, VG_u, UG_u, PG_u, BG_u, CG_u, IG_u, MG_b, NG_b, VG_b, UG_b, PG_b, BG_b, CG_b, IG_b, PK_bool, NK_ptr, not_ok, reduceCtorEq, if_true, if_false, Bool.true_eq_false, Bool.false_eq_true, Bool.not_true, Bool.not_false]
    refine ⟨?_, hm12⟩
    rw [if_neg (by simp)]
    rfl
  | true =>
    simp only [CondK_bool, MG_u, NG_u, VG_u, UG_u, PG_u, BG_u, CG_u, IG_u, MG_b, NG_b, VG_b, UG_b, PG_b, BG_b, CG_b, IG_b, PK_bool, NK_ptr, not_ok, reduceCtorEq, if_true, if_false, Bool.true_eq_false, Bool.false_eq_true, Bool.not_true, Bool.not_false]
    refine ldB (cs := e.cells.toArray) Tryd.underlying24 rfl iEx hb2 ?_
    refine CK_st Tryd.func20 rfl rfl (DeepExpr_ok e w2 (hok.mod hm12) (by omega)) ?_
    rintro _ w3 ⟨rfl, hm3⟩
    have hb3 := hm3.blk hb2 id
    have hm13 := hm12.trans hm3
    rw [BK_gtr]
    by_cases hd : e.deep ≤ 32
    · rw [show decide ((32 : Int) < (e.deep : Int)) = false by rw [decide_eq_false_iff_not]; omega]
      simp only [CondK_bool, MG_u, NG_u, VG_u, UG_u, PG_u, BG_u, CG_u, IG_u, MG_b, NG_b, VG_b, UG_b, PG_b, BG_b, CG_b, IG_b, PK_bool, NK_ptr, not_ok, reduceCtorEq, if_true, if_false, Bool.true_eq_false, Bool.false_eq_true, Bool.not_true, Bool.not_false]
      refine ldB (cs := e.cells.toArray) Tryd.underlying24 rfl iEx hb3 ?_
      refine CK_st Tryd.func21 rfl rfl (exprR_ok e w3 (hok.mod hm13) (by omega) hp) ?_
      rintro _ w4 ⟨rfl, hm4⟩
      refine ⟨?_, hm13.trans hm4⟩
      rw [if_pos ⟨by first | rfl | trivial, hd⟩]
    · rw [show decide ((32 : Int) < (e.deep : Int)) = true by rw [decide_eq_true_eq]; omega]
      simp only [CondK_bool, MG_u, NG_u, VG_u, UG_u, PG_u, BG_u, CG_u, IG_u, MG_b, NG_b, VG_b, UG_b, PG_b, BG_b, CG_b, IG_b, PK_bool, NK_ptr, not_ok, reduceCtorEq, if_true, if_false, Bool.true_eq_false, Bool.false_eq_true, Bool.not_true, Bool.not_false]
      refine ⟨?_, hm13⟩
      rw [if_neg (fun q => hd q.2)]
      rfl
theorem BoundExprs_ok {w : World} (hg : Gl w) {e : Ex} (hok : e.Ok w) (hsz : e.sz ≤ 1048576) : Rt Tryd.prog 3 #[.agg e.cells.toArray] w fun v w' => v = .bool true ∧ Mod none_ w w' := by
  refine dispatcherlaw09_BoundExprs_calls ?_
  unfold dispatcherlaw09_BoundExprs_F
  refine box_k (cs := e.cells.toArray) rfl fun w1 hb1 hm1 _ => ?_
  refine ldB (cs := e.cells.toArray) Tryd.underlying24 rfl iEx hb1 ?_
  refine bs_k (bRowE e) fun w2 hb2 hm2 hs2 => ?_
  have eE : Tryd.prog.elem 22 = 24 := by kernel_rfl
  rw [eE] at hb2
  have hm12 := hm1.trans hm2
  have hrow : ExsOk w2 (.slice (some ⟨w1.heap.size, 0, none⟩) 1 1) [e] := one_row (hok.mod hm12) hb2
  refine CK_st Tryd.func7 rfl rfl (ManyExprs_ok w2 _ hrow (by simp only [Ex.szL]; omega)) ?_
  rintro _ w3 ⟨rfl, hm3⟩
  have hm13 := hm12.trans hm3
  have hb3 := (hm2.trans hm3).blk hb1 id
  rw [BK_gtr]
  refine caseC (fun hp => ⟨rfl, hm13⟩) (fun hp => ?_)
  refine dispatcherlaw09_BoundExprs_R0_quiet (D := []) (fun w' => Mod none_ w3 w') ((Mod.refl _ w3).drawn _) ?_
  unfold dispatcherlaw09_BoundExprs_R0_Q
  have ld : ∀ w', Mod none_ w3 w' → (Instr.loadAt 24 (.pointer (some ⟨w.heap.size, 0, none⟩))).run Tryd.prog w' = .ok (.agg e.cells.toArray) w' := fun w' hw => run_ldB (cs := e.cells.toArray) Tryd.underlying24 rfl iEx (hw.blk hb3 id)
  refine QV_of ld ?_
  refine QC_rt Tryd.func8 rfl rfl (v := .int .i64 (exprP e)) (fun w' hw => bExpr_ok ((hg.mod hm13).mod hw) ((hok.mod hm13).mod hw) hsz) (fun w' u w'' hw hu => ⟨hu.1, hw.trans hu.2⟩) ?_
  refine QV_of ld ?_
  refine QC_rt Tryd.func9 rfl rfl (v := .int .i64 (exprP e)) (fun w' hw => ExprR_ok ((hok.mod hm13).mod hw) hsz) (fun w' u w'' hw hu => ⟨hu.1, hw.trans hu.2⟩) (Qeql ?_)
  rw [beq_self_eq_true]
  intro w4 hm4
  rw [sq_n, dispatcherlaw09_BoundExprs_R1_eq]
  unfold dispatcherlaw09_BoundExprs_R1_F
  exact ⟨rfl, hm13.trans hm4⟩
end Go.Proofs.YtmgmlnhahofipaaDoor.Tr
