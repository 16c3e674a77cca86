/- Several texts of this repo, one behind the other. -/
import Derived.Test.YtmgmlnhahofipaaDoorT2
import Derived.Test.YtmgmlnhahofipaaDoorSA
import Derived.Test.YtmgmlnhahofipaaDoorU
import Derived.Test.YtmgmlnhahofipaaDoorXH
/-! How many instructions an expression takes. -/
set_option linter.unusedVariables false
set_option linter.unusedSimpArgs false
set_option maxRecDepth 4000
namespace Go.Proofs.YtmgmlnhahofipaaDoor.Tr
open Go Go.X Go.RowKit Go.Proofs.YtmgmlnhahofipaaDoor.XF Go.Proofs.YtmgmlnhahofipaaDoor.XK

theorem bexpr_ok : ∀ (e : Ex) (w : World), e.Ok w → e.sz ≤ 1099511627776 → Rt Tryd.prog 18 #[.agg e.cells.toArray] w fun v w' => v = .int .i64 e.steps ∧ Mod none_ w w' := by
  intro e
  induction e using Ex.ind with
  | h e ih =>
    intro w hok hsz
    obtain ⟨A, c, hs, _⟩ := reads_cap hok.args.1
    have hszL : Ex.szL e.args ≤ 1099511627776 := by rw [Ex.sz_eq] at hsz; omega
    have hlen := Ex.len_sz e.args
    refine bound_expr_calls ?_
    unfold bound_expr_F
    refine box_k (cs := e.cells.toArray) rfl fun w1 hb1 hm1 _ => ?_
    have d0 : FAt Tryd.prog w1 24 0 ⟨w.heap.size, 0, none⟩ 5 (.int .u8 e.op) := FAt.mk' (off := 0) (by kernel_rfl) uU8 rfl (by rw [add_pl, cell_blk hb1]; rfl)
    have r0 : ∀ (ρ' : Sl), ρ' 1 = .pointer (some ⟨w.heap.size, 0, none⟩) → ρ' 3 = .int .i64 (exW e.op) →
        sx fn_ Tryd.prog 27 bound_expr_R0 (retK Tryd.prog [ResultVar.tmp 2] fun v w' => v = .int .i64 e.steps ∧ Mod none_ w w') ρ' w1 := by
      intro ρ' q1 q3
      have hW : exW e.op ≤ 3 := by unfold exW; split <;> omega
      rw [bound_expr_R0_eq]
      unfold bound_expr_R0_F
      simp only [q1, fo24_0, fo24_1, fo24_2, fo24_3, fo31_0, fo31_1, fo43_0, fo43_1, fo45_0, fo45_1, fo45_2, fo45_3, fo45_4, fo45_5, fo45_6, fo45_7, ld2, ld3, ld5, ld9, ld22, ld28, ld29, len9, len22, len28, len29, len93, ldK_some, cellE, blkC_c, add_pl, Nat.zero_add, List.getElem?_toArray, List.getElem?_cons_succ, List.getElem?_cons_zero, Ex.c0, Ex.c1, Ex.c2, Ex.c3, Ex.c4, Ex.c5, St.c0, St.c1, St.c2, St.c3, St.c4, St.c5, St.c6, St.c7, St.c8, St.c9, hb1, hs]
      refine W_loop bound_expr_L1_ok (fun ρ w' => ∃ n : Nat, n ≤ e.args.length ∧ ρ 17 = .int .i64 n ∧ ρ 16 = .int .i64 e.args.length ∧ ρ 15 = .slice A e.args.length c ∧ ρ 3 = .int .i64 (exW e.op + Ex.stepsL (e.args.take n) : Nat) ∧ Mod none_ w w') (fun ρ _ => e.args.length - (intOf (ρ 17)).toNat)
        ⟨0, Nat.zero_le _, rfl, rfl, rfl, q3.trans (by simp [Ex.stepsL]), hm1⟩ ?_
      rintro ρ w2 ⟨n, hn, h17, h16, h15, h3, hm⟩
      rw [bound_expr_L1_eq]
      unfold bound_expr_L1_F
      rw [h17, h16, h15, h3, BK_lss]
      by_cases hlt : n < e.args.length
      · rw [show decide ((n : Int) < (e.args.length : Int)) = true by rw [decide_eq_true_eq]; omega]
        refine condT ?_
        have hx : e.args[n]? = some e.args[n] := List.getElem?_eq_getElem hlt
        have hmem : e.args[n] ∈ e.args := List.getElem_mem hlt
        have hok2 := hok.args.mod hm
        rw [hs] at hok2
        refine ixEx hok2 hx fun y => ?_
        refine lcl_k (cs := e.args[n].cells.toArray) zEx _ iEx rfl (ex_one (hok2.at hx)) fun w3 hb3 hm3 _ => ?_
        refine ldB (cs := e.args[n].cells.toArray) Tryd.underlying24 rfl iEx hb3 ?_
        have hs2 := Ex.szL_at hx
        have t1 := Ex.stepsL_sz (e.args.take n)
        have t2 := Ex.steps_sz e.args[n]
        refine CK_st Tryd.func18 rfl rfl (ih _ hmem w3 ((hok2.at hx).mod hm3) (by omega)) ?_
        rintro _ w4 ⟨rfl, hm4⟩
        rw [BK_add, wrap_i (n := ((exW e.op + Ex.stepsL (e.args.take n) : Nat) : Int) + (e.args[n].steps : Int)) (by omega) (by omega), BK_add, wrap_i (n := (n : Int) + 1) (by omega) (by omega)]
        refine ⟨⟨n + 1, hlt, rfl, h16, h15, ?_, (hm.trans hm3).trans hm4⟩, ?_⟩
        · show Value.int .i64 _ = _
          rw [List.take_add_one, hx, Option.toList_some, Ex.stepsL_snoc]
          congr 1
          omega
        · show e.args.length - (intOf (Value.int .i64 ((n : Int) + 1))).toNat < _
          simp only [intOf]; omega
      · obtain rfl : n = e.args.length := by omega
        rw [show decide (((e.args.length : Nat) : Int) < (e.args.length : Int)) = false by simp]
        refine condF ?_
        rw [List.take_length] at h3
        rw [sq_x, bk_x, sq_n, bound_expr_R2_eq]
        unfold bound_expr_R2_F
        refine ⟨?_, hm⟩
        refine h3.trans ?_
        rw [Ex.steps_eq]
    refine d0.vk' fun x6 => ?_
    rw [BK_eql]
    refine fO' d0 (fun K => BK_eql _ _ _ _ _ _) fun x10 x11 x12 => ?_
    have hw : ((e.op == 19) || (e.op == 20)) = decide (e.op = 19 ∨ e.op = 20) := by
      simp only [beq_dec]
      by_cases q3 : e.op = 19 <;> by_cases q4 : e.op = 20 <;> simp [q3, q4]
    rw [hw]
    refine caseC (fun hp => ?_) (fun hp => ?_)
    · rw [decide_eq_true_eq] at hp
      refine r0 _ rfl ?_
      show Value.int .i64 3 = _
      unfold exW
      rw [if_pos hp]
      rfl
    · rw [decide_eq_false_iff_not] at hp
      refine r0 _ rfl ?_
      show Value.int .i64 1 = _
      unfold exW
      rw [if_neg hp]
      rfl
/-- The value that both tell. -/
def exprP (e : Ex) : Nat := if e.may = true ∧ e.deep ≤ 32 then e.steps else 0
theorem one_row {w : World} {e : Ex} (he : e.Ok w) {b : Nat} (hb : w.heap[b]? = some (.cells e.cells.toArray 24 (0, 0))) : ExsOk w (.slice (some ⟨b, 0, none⟩) 1 1) [e] :=
  ⟨by have := reads_blk (size := 6) (n := 1) hb rfl; simpa using this, fun a ha => by rw [List.mem_singleton.1 ha]; exact he⟩
theorem bRowE (e : Ex) : builtRow Tryd.prog 22 1 [(0, .agg e.cells.toArray)] = some e.cells.toArray := by kernel_rfl
def asrt (e : Ex) (x : Value) : St := ⟨6, 0, 0, ByteArray.empty, 0, x, [e], .slice none 0 0, [], .slice none 0 0, [], 0, 0⟩
theorem bSt (A : Option Addr) (n c : Nat) : Tryd.prog.built 45 [(0, .int .u8 6), (5, .slice A n c)] = some #[.int .u8 6, .int .u8 0, .int .u8 0, .string ByteArray.empty, .int .i64 0, .slice A n c, .slice none 0 0, .slice none 0 0, .int .i64 0, .int .i64 0] := by kernel_rfl
theorem bRowS (A : Option Addr) (n c : Nat) : builtRow Tryd.prog 29 1 [(0, .agg #[.int .u8 6, .int .u8 0, .int .u8 0, .string ByteArray.empty, .int .i64 0, .slice A n c, .slice none 0 0, .slice none 0 0, .int .i64 0, .int .i64 0])] = some #[.int .u8 6, .int .u8 0, .int .u8 0, .string ByteArray.empty, .int .i64 0, .slice A n c, .slice none 0 0, .slice none 0 0, .int .i64 0, .int .i64 0] := by kernel_rfl
theorem bPr (A : Option Addr) (n c : Nat) : Tryd.prog.built 31 [(1, .slice A n c)] = some #[.slice none 0 0, .slice A n c] := by kernel_rfl
theorem asrt_may (e : Ex) (x y : Value) : Pr.may ⟨.slice none 0 0, [], y, [asrt e x]⟩ = (decide (e.deep ≤ 32) && e.may) := by
  have h1 : 1 ≤ e.deep := by rw [Ex.deep_eq]; omega
  have hd : St.deepAt [asrt e x] 1 = e.deep := by
    unfold St.deepAt
    rw [if_neg (by simp)]
    simp only [St.blocksL', St.exprDL, St.blocks_eq, St.exprD_eq, asrt, St.blocksL, Ex.deepL, List.length_nil, if_true]
    omega
  have ho : (asrt e x).own = true := by
    unfold St.own
    rfl
  unfold Pr.may
  dsimp only
  rw [hd, St.mayL_eq]
  simp only [List.all_cons, List.all_nil, Bool.and_true]
  rw [St.may_eq, ho]
  simp [asrt, Ex.mayL, St.mayL]
theorem asrt_ok {w : World} {e : Ex} {x : Value} (h : ExsOk w x [e]) : (asrt e x).Ok w := by
  have f : (asrt e x).fine := by
    unfold St.fine asrt
    dsimp only
    refine ⟨by decide, by decide, by decide, ?_, by decide, by decide, by decide⟩
    show 0 ≤ maxLen
    exact Nat.zero_le _
  exact St.ok.2 ⟨h, ⟨reads_nil _ _, fun a ha => by cases ha⟩, ⟨reads_nil _ _, fun a ha => by cases ha⟩, f⟩
theorem one_rowS {w : World} {e : St} (he : e.Ok w) {b : Nat} (hb : w.heap[b]? = some (.cells e.cells.toArray 45 (0, 0))) : StsOk w (.slice (some ⟨b, 0, none⟩) 1 1) [e] :=
  ⟨by have := reads_blk (size := 10) (n := 1) hb rfl; simpa using this, fun a ha => by rw [List.mem_singleton.1 ha]; exact he⟩
theorem bExpr_ok {w : World} (hg : Gl w) {e : Ex} (hok : e.Ok w) (hsz : e.sz ≤ 1048576) : Rt Tryd.prog 8 #[.agg e.cells.toArray] w fun v w' => v = .int .i64 (exprP e) ∧ Mod none_ w w' := by
  refine bound_Expr_calls ?_
  unfold bound_Expr_F
  refine box_k (cs := e.cells.toArray) rfl fun w1 hb1 hm1 _ => ?_
  refine ldB (cs := e.cells.toArray) Tryd.underlying24 rfl iEx hb1 ?_
  refine bs_k (bRowE e) fun w2 hb2 hm2 hs2 => ?_
  rw [build_ok (bSt _ _ _)]
  refine bs_k (bRowS _ _ _) fun w3 hb3 hm3 hs3 => ?_
  rw [build_ok (bPr _ _ _)]
  have eE : Tryd.prog.elem 22 = 24 := by kernel_rfl
  have eS : Tryd.prog.elem 29 = 45 := by kernel_rfl
  rw [eE] at hb2
  rw [eS] at hb3
  have hm13 := (hm1.trans hm2).trans hm3
  have hrow : ExsOk w3 (.slice (some ⟨w1.heap.size, 0, none⟩) 1 1) [e] := one_row (hok.mod hm13) (hm3.blk hb2 id)
  have hP : Pr.Ok w3 ⟨.slice none 0 0, [], .slice (some ⟨w2.heap.size, 0, none⟩) 1 1, [asrt e (.slice (some ⟨w1.heap.size, 0, none⟩) 1 1)]⟩ :=
    ⟨⟨reads_nil _ _, fun a ha => by cases ha⟩, one_rowS (asrt_ok hrow) hb3⟩
  have hF : Pr.fits ⟨.slice none 0 0, [], .slice (some ⟨w2.heap.size, 0, none⟩) 1 1, [asrt e (.slice (some ⟨w1.heap.size, 0, none⟩) 1 1)]⟩ := by
    refine ⟨by simp, ?_⟩
    have z : ByteArray.empty.size = 0 := rfl
    simp only [St.szL, St.sz_eq, asrt, Ex.szL, z]
    omega
  have hmay := May_ok (hg.mod hm13) hP hF
  rw [asrt_may] at hmay
  have hmay' : Rt Tryd.prog 16 #[.agg #[.slice none 0 0, .slice (some ⟨w2.heap.size, 0, none⟩) 1 1]] w3 fun v w' => v = .bool (decide (e.deep ≤ 32) && e.may) ∧ Mod none_ w3 w' := hmay
  clear hmay hP hF hrow
  generalize w2.heap.size = b2 at *
  refine CK_st Tryd.func16 rfl rfl hmay' ?_
  rintro _ w4 ⟨rfl, hm4⟩
  rw [not_ok]
  have hm14 := hm13.trans hm4
  unfold exprP
  refine caseC (fun hp => ?_) (fun hp => ?_)
  · refine ⟨?_, hm14⟩
    rw [if_neg]
    · rfl
    · rintro ⟨q1, q2⟩
      rw [q1, decide_eq_true q2] at hp
      cases hp
  · have hb4 := ((hm2.trans hm3).trans hm4).blk hb1 id
    refine ldB (cs := e.cells.toArray) Tryd.underlying24 rfl iEx hb4 ?_
    refine CK_st Tryd.func18 rfl rfl (bexpr_ok e w4 (hok.mod hm14) (by omega)) ?_
    rintro _ w5 ⟨rfl, hm5⟩
    refine ⟨?_, hm14.trans hm5⟩
    rw [if_pos]
    cases h1 : e.may <;> cases h2 : decide (e.deep ≤ 32) <;> rw [h1, h2] at hp <;> simp_all
end Go.Proofs.YtmgmlnhahofipaaDoor.Tr
/-! BoundExprs: the chapter's number, and the law. -/
set_option linter.unusedVariables false
set_option linter.unusedSimpArgs false
set_option maxRecDepth 4000
namespace Go.Proofs.YtmgmlnhahofipaaDoor.Tr
open Go Go.X Go.RowKit Go.Proofs.YtmgmlnhahofipaaDoor.XF Go.Proofs.YtmgmlnhahofipaaDoor.XK

theorem may_args {e : Ex} (h : e.may = true) : e.args.length = sidesP e.op ∧ 1 ≤ e.op ∧ e.op ≤ 20 ∧ ∀ a ∈ e.args, a.may = true := by
  rw [Ex.may_eq, Bool.and_eq_true, Ex.mayL_eq, List.all_eq_true] at h
  obtain ⟨h1, h2⟩ := h
  unfold Ex.own at h1
  simp only [Bool.and_eq_true, decide_eq_true_eq] at h1
  exact ⟨h1.1.2, h1.1.1.1, h1.1.1.2, h2⟩
/-- An expression of a row, read where a region draws. -/
theorem QldEx {C : World → Prop} {e : Ex} {a : Addr} {K : Value → Prop} (h : ∀ w, C w → ∀ j u, e.cells[j]? = some u → w.cell? (a.add j) = some u) (hk : K (.agg e.cells.toArray)) : QK Tryd.prog C (do pure (Next.value (← Instr.loadAt 24 (.pointer (some a))))) K :=
  QV_of (fun w hw => run_ldA (cs := e.cells) Tryd.underlying24 rfl iEx (h w hw)) hk
theorem exprR_ok : ∀ (e : Ex) (w : World), e.Ok w → e.sz ≤ 1099511627776 → e.may = true → Rt Tryd.prog 21 #[.agg e.cells.toArray] w fun v w' => v = .int .i64 e.steps ∧ Mod none_ w w' := by
  intro e
  induction e using Ex.ind with
  | h e ih =>
    intro w hok hsz hmay
    obtain ⟨hl, h1, h20, hall⟩ := may_args hmay
    obtain ⟨A, c, hs, _⟩ := reads_cap hok.args.1
    have hszL : Ex.szL e.args ≤ 1099511627776 := by rw [Ex.sz_eq] at hsz; omega
    refine dispatcherref09_expr_calls ?_
    unfold dispatcherref09_expr_F
    refine box_k (cs := e.cells.toArray) rfl fun w1 hb1 hm1 _ => ?_
    have d0 : FAt Tryd.prog w1 24 0 ⟨w.heap.size, 0, none⟩ 5 (.int .u8 e.op) := FAt.mk' (off := 0) (by kernel_rfl) uU8 rfl (by rw [add_pl, cell_blk hb1]; rfl)
    have cell : ∀ (w' : World), Mod none_ w1 w' → ∀ (j : Nat) v, e.cells[j]? = some v → w'.cell? ((⟨w.heap.size, 0, none⟩ : Addr).add j) = some v := fun w' hw j v hv => by
      rw [add_pl, cell_blk (hw.blk hb1 id), Nat.zero_add]
      simpa using hv
    have hst := Ex.stepsL_sz e.args
    have hrow : ∀ w', Mod none_ w1 w' → ExsOk w' (.slice A e.args.length c) e.args := fun w' hw => by rw [← hs]; exact (hok.args.mod hm1).mod hw
    -- two parts
    have two : sidesP e.op = 2 → ∃ x y, e.args = [x, y] := fun q => by
      rw [q] at hl
      match hh : e.args, hl with
      | [x, y], _ => exact ⟨x, y, rfl⟩
    have r0 := Mod.refl none_ w1
    refine d0.vk' fun x3 => ?_
    have nine : ∀ (k : Nat), e.op ≠ 3 → e.op ≠ 4 → e.op ≠ 6 → e.op ≠ 7 → e.op ≠ 1 → e.op ≠ 2 → e.op ≠ 5 → sidesP e.op = 2 := fun k a b c d f g h => by
      unfold sidesP; rw [if_pos (by omega)]
    have go0 : ∀ (ρ' : Sl) (t : Bool), ρ' 1 = .pointer (some ⟨w.heap.size, 0, none⟩) → ρ' 4 = .int .u8 e.op → ρ' 5 = .bool t → t = decide (e.op = 3 ∨ e.op = 4 ∨ e.op = 6 ∨ e.op = 7) →
        sx fn_ Tryd.prog 47 dispatcherref09_expr_R0 (blkK 0 (seqK (sx fn_ Tryd.prog 47 dispatcherref09_expr_R1 (retK Tryd.prog [ResultVar.tmp 2] fun v w' => v = .int .i64 e.steps ∧ Mod none_ w w')) (retK Tryd.prog [ResultVar.tmp 2] fun v w' => v = .int .i64 e.steps ∧ Mod none_ w w'))) ρ' w1 := by
      intro ρ' t q1 q4 q5 ht
      rw [dispatcherref09_expr_R0_eq]
      unfold dispatcherref09_expr_R0_F
      rw [q5, q4, q1]
      subst ht
      refine caseC (fun hp => ?_) (fun hp => ?_)
      · rw [decide_eq_true_eq] at hp
        have hone : sidesP e.op = 1 := by unfold sidesP; rw [if_neg (by omega), if_pos hp]
        rw [hone] at hl
        obtain ⟨x, hx⟩ : ∃ x, e.args = [x] := by
          match hh : e.args, hl with
          | [x], _ => exact ⟨x, rfl⟩
        have hmem : x ∈ e.args := by rw [hx]; simp
        have hsx := Ex.szL_mem hmem
        simp only [fo24_0, fo24_1, fo24_2, fo24_3, fo31_0, fo31_1, fo43_0, fo43_1, fo45_0, fo45_1, fo45_2, fo45_3, fo45_4, fo45_5, fo45_6, fo45_7, ld2, ld3, ld5, ld9, ld22, ld28, ld29, len9, len22, len28, len29, len93, ldK_some, cellE, blkC_c, add_pl, Nat.zero_add, List.getElem?_toArray, List.getElem?_cons_succ, List.getElem?_cons_zero, Ex.c0, Ex.c1, Ex.c2, Ex.c3, Ex.c4, Ex.c5, St.c0, St.c1, St.c2, St.c3, St.c4, St.c5, St.c6, St.c7, St.c8, St.c9, hb1, hs]
        refine ixEx (i := 0) (e := x) (hrow w1 r0) (by rw [hx]; rfl) fun y => ?_
        refine CK_st Tryd.func21 rfl rfl (ih x hmem w1 ((hok.args.mod hm1).2 x hmem) (by omega) (hall x hmem)) ?_
        rintro _ w2 ⟨rfl, hm2⟩
        have := Ex.steps_sz x
        rw [BK_add, wrap_i (n := (x.steps : Int) + 1) (by omega) (by omega)]
        refine ⟨?_, hm1.trans hm2⟩
        show Value.int .i64 ((x.steps : Int) + 1) = _
        rw [Ex.steps_eq e, hx]
        unfold exW
        rw [if_neg (by omega)]
        simp only [Ex.stepsL]
        congr 1
        omega
      rw [decide_eq_false_iff_not] at hp
      have go2 : ∀ (ρ' : Sl) (t : Bool), ρ' 1 = .pointer (some ⟨w.heap.size, 0, none⟩) → ρ' 4 = .int .u8 e.op → ρ' 16 = .bool t → t = decide (e.op = 19 ∨ e.op = 20) →
          sx fn_ Tryd.prog 47 dispatcherref09_expr_R2 (blkK 0 (seqK (sx fn_ Tryd.prog 47 dispatcherref09_expr_R1 (retK Tryd.prog [ResultVar.tmp 2] fun v w' => v = .int .i64 e.steps ∧ Mod none_ w w')) (retK Tryd.prog [ResultVar.tmp 2] fun v w' => v = .int .i64 e.steps ∧ Mod none_ w w'))) ρ' w1 := by
        intro ρ' t q1 q4 q16 ht
        rw [dispatcherref09_expr_R2_eq]
        unfold dispatcherref09_expr_R2_F
        rw [q16, q4]
        subst ht
        refine caseC (fun h2 => ?_) (fun h2 => ?_)
        · rw [decide_eq_true_eq] at h2
          obtain ⟨x, y, hx⟩ := two (by unfold sidesP; rw [if_pos (by omega)])
          have hmx : x ∈ e.args := by rw [hx]; simp
          have hmy : y ∈ e.args := by rw [hx]; simp
          have hsum : Ex.szL e.args = x.sz + (y.sz + 0) := by rw [hx]; rfl
          have tx := Ex.steps_sz x
          have ty := Ex.steps_sz y
          refine dispatcherref09_expr_R5_quiet (D := []) (fun w' => Mod none_ w1 w') ((Mod.refl _ w1).drawn _) ?_
          unfold dispatcherref09_expr_R5_Q
          rw [q1]
          refine Qfo (off := 3) (a := ⟨w.heap.size, 0, none⟩) (by kernel_rfl) (Qld uExs rfl (v := .slice A e.args.length c) (fun w' hw => cell w' hw 3 _ (by rw [← hs]; rfl)) ?_)
          refine QixEx (i := 0) (e := x) (w0 := w1) r0 hrow (by rw [hx]; rfl) fun a ha => QldEx ha ?_
          refine QC_rt Tryd.func21 rfl rfl (v := .int .i64 x.steps) (fun w' hw => ih x hmx w' ((hrow w' hw).2 x hmx) (by omega) (hall x hmx)) (fun w' u w'' hw hu => ⟨hu.1, hw.trans hu.2⟩) ?_
          refine Qfo (off := 3) (a := ⟨w.heap.size, 0, none⟩) (by kernel_rfl) (Qld uExs rfl (v := .slice A e.args.length c) (fun w' hw => cell w' hw 3 _ (by rw [← hs]; rfl)) ?_)
          refine QixEx (i := 1) (e := y) (w0 := w1) r0 hrow (by rw [hx]; rfl) fun a ha => QldEx ha ?_
          refine QC_rt Tryd.func21 rfl rfl (v := .int .i64 y.steps) (fun w' hw => ih y hmy w' ((hrow w' hw).2 y hmy) (by omega) (hall y hmy)) (fun w' u w'' hw hu => ⟨hu.1, hw.trans hu.2⟩) (Qadd (Qadd ?_))
          intro w2 hm2
          rw [sq_n, dispatcherref09_expr_R6_eq]
          unfold dispatcherref09_expr_R6_F
          refine ⟨?_, hm1.trans hm2⟩
          show Value.int .i64 (IntKind.i64.wrap (IntKind.i64.wrap ((x.steps : Int) + (y.steps : Int)) + 3)) = _
          rw [wrap_i (n := (x.steps : Int) + (y.steps : Int)) (by omega) (by omega), wrap_i (n := (x.steps : Int) + (y.steps : Int) + 3) (by omega) (by omega), Ex.steps_eq e, hx]
          unfold exW
          rw [if_pos h2]
          simp only [Ex.stepsL]
          congr 1
          omega
        · rw [decide_eq_false_iff_not] at h2
          have go7 : ∀ (ρ' : Sl) (t : Bool), ρ' 1 = .pointer (some ⟨w.heap.size, 0, none⟩) → ρ' 31 = .bool t → t = decide (e.op = 1 ∨ e.op = 2 ∨ e.op = 5) →
              sx fn_ Tryd.prog 47 dispatcherref09_expr_R7 (blkK 0 (seqK (sx fn_ Tryd.prog 47 dispatcherref09_expr_R1 (retK Tryd.prog [ResultVar.tmp 2] fun v w' => v = .int .i64 e.steps ∧ Mod none_ w w')) (retK Tryd.prog [ResultVar.tmp 2] fun v w' => v = .int .i64 e.steps ∧ Mod none_ w w'))) ρ' w1 := by
            intro ρ' t q1 q31 ht
            rw [dispatcherref09_expr_R7_eq]
            unfold dispatcherref09_expr_R7_F
            rw [q31]
            subst ht
            refine caseC (fun h3 => ?_) (fun h3 => ?_)
            · rw [decide_eq_true_eq] at h3
              refine ⟨?_, hm1⟩
              have hz : e.args = [] := List.length_eq_zero_iff.1 (by rw [hl]; unfold sidesP; rw [if_neg (by omega), if_neg (by omega)])
              show Value.int .i64 1 = _
              rw [Ex.steps_eq, hz]
              unfold exW
              rw [if_neg h2]
              rfl
            · rw [decide_eq_false_iff_not] at h3
              rw [bk_n, sq_n, dispatcherref09_expr_R1_eq]
              unfold dispatcherref09_expr_R1_F
              obtain ⟨x, y, hx⟩ := two (by unfold sidesP; rw [if_pos (by omega)])
              have hmx : x ∈ e.args := by rw [hx]; simp
              have hmy : y ∈ e.args := by rw [hx]; simp
              have hsum : Ex.szL e.args = x.sz + (y.sz + 0) := by rw [hx]; rfl
              have tx := Ex.steps_sz x
              have ty := Ex.steps_sz y
              refine dispatcherref09_expr_R3_quiet (D := []) (fun w' => Mod none_ w1 w') ((Mod.refl _ w1).drawn _) ?_
              unfold dispatcherref09_expr_R3_Q
              rw [q1]
              refine Qfo (off := 3) (a := ⟨w.heap.size, 0, none⟩) (by kernel_rfl) (Qld uExs rfl (v := .slice A e.args.length c) (fun w' hw => cell w' hw 3 _ (by rw [← hs]; rfl)) ?_)
              refine QixEx (i := 0) (e := x) (w0 := w1) r0 hrow (by rw [hx]; rfl) fun a ha => QldEx ha ?_
              refine QC_rt Tryd.func21 rfl rfl (v := .int .i64 x.steps) (fun w' hw => ih x hmx w' ((hrow w' hw).2 x hmx) (by omega) (hall x hmx)) (fun w' u w'' hw hu => ⟨hu.1, hw.trans hu.2⟩) ?_
              refine Qfo (off := 3) (a := ⟨w.heap.size, 0, none⟩) (by kernel_rfl) (Qld uExs rfl (v := .slice A e.args.length c) (fun w' hw => cell w' hw 3 _ (by rw [← hs]; rfl)) ?_)
              refine QixEx (i := 1) (e := y) (w0 := w1) r0 hrow (by rw [hx]; rfl) fun a ha => QldEx ha ?_
              refine QC_rt Tryd.func21 rfl rfl (v := .int .i64 y.steps) (fun w' hw => ih y hmy w' ((hrow w' hw).2 y hmy) (by omega) (hall y hmy)) (fun w' u w'' hw hu => ⟨hu.1, hw.trans hu.2⟩) (Qadd (Qadd ?_))
              intro w2 hm2
              rw [sq_n, dispatcherref09_expr_R4_eq]
              unfold dispatcherref09_expr_R4_F
              refine ⟨?_, hm1.trans hm2⟩
              show Value.int .i64 (IntKind.i64.wrap (IntKind.i64.wrap ((x.steps : Int) + (y.steps : Int)) + 1)) = _
              rw [wrap_i (n := (x.steps : Int) + (y.steps : Int)) (by omega) (by omega), wrap_i (n := (x.steps : Int) + (y.steps : Int) + 1) (by omega) (by omega), Ex.steps_eq e, hx]
              unfold exW
              rw [if_neg h2]
              simp only [Ex.stepsL]
              congr 1
              omega
          refine caseI (fun h3 => condT ?_) (fun h3 => condF ?_)
          · refine go7 _ true ?_ rfl (by rw [decide_eq_true (Or.inl h3)])
            exact q1
          refine caseI (fun h4 => condT ?_) (fun h4 => condF ?_)
          · refine go7 _ true ?_ rfl (by rw [decide_eq_true (Or.inr (Or.inl h4))])
            exact q1
          rw [BK_eql]
          refine go7 _ (e.op == 5) ?_ rfl ?_
          · exact q1
          · rw [beq_dec]
            by_cases q : e.op = 5
            · rw [decide_eq_true q, decide_eq_true (Or.inr (Or.inr q))]
            · rw [decide_eq_false q, decide_eq_false (by omega)]
      refine caseI (fun h3 => condT ?_) (fun h3 => condF ?_)
      · refine go2 _ true ?_ ?_ rfl (by rw [decide_eq_true (Or.inl h3)])
        · exact q1
        · exact q4
      rw [BK_eql]
      refine go2 _ (e.op == 20) ?_ ?_ rfl ?_
      · exact q1
      · exact q4
      · rw [beq_dec]
        by_cases q : e.op = 20
        · rw [decide_eq_true q, decide_eq_true (Or.inr q)]
        · rw [decide_eq_false q, decide_eq_false (by omega)]
    refine caseI (fun h3 => condT ?_) (fun h3 => condF ?_)
    · exact go0 _ true rfl rfl rfl (by rw [decide_eq_true (Or.inl h3)])
    refine caseI (fun h4 => condT ?_) (fun h4 => condF ?_)
    · exact go0 _ true rfl rfl rfl (by rw [decide_eq_true (Or.inr (Or.inl h4))])
    refine caseI (fun h6 => condT ?_) (fun h6 => condF ?_)
    · exact go0 _ true rfl rfl rfl (by rw [decide_eq_true (Or.inr (Or.inr (Or.inl h6)))])
    rw [BK_eql]
    refine go0 _ (e.op == 7) rfl rfl rfl ?_
    rw [beq_dec]
    by_cases q : e.op = 7
    · rw [decide_eq_true q, decide_eq_true (Or.inr (Or.inr (Or.inr q)))]
    · rw [decide_eq_false q, decide_eq_false (by omega)]
theorem ExprR_ok {w : World} {e : Ex} (hok : e.Ok w) (hsz : e.sz ≤ 1048576) : Rt Tryd.prog 9 #[.agg e.cells.toArray] w fun v w' => v = .int .i64 (exprP e) ∧ Mod none_ w w' := by
  refine dispatcherref09_Expr_calls ?_
  unfold dispatcherref09_Expr_F
  refine box_k (cs := e.cells.toArray) rfl fun w1 hb1 hm1 _ => ?_
  refine ldB (cs := e.cells.toArray) Tryd.underlying24 rfl iEx hb1 ?_
  refine CK_st Tryd.func19 rfl rfl (MayExprR_ok e w1 (hok.mod hm1) (by omega)) ?_
  rintro _ w2 ⟨rfl, hm2⟩
  have hm12 := hm1.trans hm2
  have hb2 := hm2.blk hb1 id
  rw [not_ok]
  unfold exprP
  cases hp : e.may with
  | false =>
    simp only [CondK_bool, MG_u, NG_u, VG_u, UG_u, PG_u, BG_u, CG_u, IG_u, MG_b, NG_b, VG_b, UG_b, PG_b, BG_b, CG_b, IG_b, PK_bool, NK_ptr, not_ok, reduceCtorEq, if_true, if_false, Bool.true_eq_false, Bool.false_eq_true, Bool.not_true, Bool.not_false]
    refine ⟨?_, hm12⟩
    rw [if_neg (by simp)]
    rfl
  | true =>
    simp only [CondK_bool, MG_u, NG_u, VG_u, UG_u, PG_u, BG_u, CG_u, IG_u, MG_b, NG_b, VG_b, UG_b, PG_b, BG_b, CG_b, IG_b, PK_bool, NK_ptr, not_ok, reduceCtorEq, if_true, if_false, Bool.true_eq_false, Bool.false_eq_true, Bool.not_true, Bool.not_false]
    refine ldB (cs := e.cells.toArray) Tryd.underlying24 rfl iEx hb2 ?_
    refine CK_st Tryd.func20 rfl rfl (DeepExpr_ok e w2 (hok.mod hm12) (by omega)) ?_
    rintro _ w3 ⟨rfl, hm3⟩
    have hb3 := hm3.blk hb2 id
    have hm13 := hm12.trans hm3
    rw [BK_gtr]
    by_cases hd : e.deep ≤ 32
    · rw [show decide ((32 : Int) < (e.deep : Int)) = false by rw [decide_eq_false_iff_not]; omega]
      simp only [CondK_bool, MG_u, NG_u, VG_u, UG_u, PG_u, BG_u, CG_u, IG_u, MG_b, NG_b, VG_b, UG_b, PG_b, BG_b, CG_b, IG_b, PK_bool, NK_ptr, not_ok, reduceCtorEq, if_true, if_false, Bool.true_eq_false, Bool.false_eq_true, Bool.not_true, Bool.not_false]
      refine ldB (cs := e.cells.toArray) Tryd.underlying24 rfl iEx hb3 ?_
      refine CK_st Tryd.func21 rfl rfl (exprR_ok e w3 (hok.mod hm13) (by omega) hp) ?_
      rintro _ w4 ⟨rfl, hm4⟩
      refine ⟨?_, hm13.trans hm4⟩
      rw [if_pos ⟨by first | rfl | trivial, hd⟩]
    · rw [show decide ((32 : Int) < (e.deep : Int)) = true by rw [decide_eq_true_eq]; omega]
      simp only [CondK_bool, MG_u, NG_u, VG_u, UG_u, PG_u, BG_u, CG_u, IG_u, MG_b, NG_b, VG_b, UG_b, PG_b, BG_b, CG_b, IG_b, PK_bool, NK_ptr, not_ok, reduceCtorEq, if_true, if_false, Bool.true_eq_false, Bool.false_eq_true, Bool.not_true, Bool.not_false]
      refine ⟨?_, hm13⟩
      rw [if_neg (fun q => hd q.2)]
      rfl
theorem BoundExprs_ok {w : World} (hg : Gl w) {e : Ex} (hok : e.Ok w) (hsz : e.sz ≤ 1048576) : Rt Tryd.prog 3 #[.agg e.cells.toArray] w fun v w' => v = .bool true ∧ Mod none_ w w' := by
  refine dispatcherlaw09_BoundExprs_calls ?_
  unfold dispatcherlaw09_BoundExprs_F
  refine box_k (cs := e.cells.toArray) rfl fun w1 hb1 hm1 _ => ?_
  refine ldB (cs := e.cells.toArray) Tryd.underlying24 rfl iEx hb1 ?_
  refine bs_k (bRowE e) fun w2 hb2 hm2 hs2 => ?_
  have eE : Tryd.prog.elem 22 = 24 := by kernel_rfl
  rw [eE] at hb2
  have hm12 := hm1.trans hm2
  have hrow : ExsOk w2 (.slice (some ⟨w1.heap.size, 0, none⟩) 1 1) [e] := one_row (hok.mod hm12) hb2
  refine CK_st Tryd.func7 rfl rfl (ManyExprs_ok w2 _ hrow (by simp only [Ex.szL]; omega)) ?_
  rintro _ w3 ⟨rfl, hm3⟩
  have hm13 := hm12.trans hm3
  have hb3 := (hm2.trans hm3).blk hb1 id
  rw [BK_gtr]
  refine caseC (fun hp => ⟨rfl, hm13⟩) (fun hp => ?_)
  refine dispatcherlaw09_BoundExprs_R0_quiet (D := []) (fun w' => Mod none_ w3 w') ((Mod.refl _ w3).drawn _) ?_
  unfold dispatcherlaw09_BoundExprs_R0_Q
  have ld : ∀ w', Mod none_ w3 w' → (Instr.loadAt 24 (.pointer (some ⟨w.heap.size, 0, none⟩))).run Tryd.prog w' = .ok (.agg e.cells.toArray) w' := fun w' hw => run_ldB (cs := e.cells.toArray) Tryd.underlying24 rfl iEx (hw.blk hb3 id)
  refine QV_of ld ?_
  refine QC_rt Tryd.func8 rfl rfl (v := .int .i64 (exprP e)) (fun w' hw => bExpr_ok ((hg.mod hm13).mod hw) ((hok.mod hm13).mod hw) hsz) (fun w' u w'' hw hu => ⟨hu.1, hw.trans hu.2⟩) ?_
  refine QV_of ld ?_
  refine QC_rt Tryd.func9 rfl rfl (v := .int .i64 (exprP e)) (fun w' hw => ExprR_ok ((hok.mod hm13).mod hw) hsz) (fun w' u w'' hw hu => ⟨hu.1, hw.trans hu.2⟩) (Qeql ?_)
  rw [beq_self_eq_true]
  intro w4 hm4
  rw [sq_n, dispatcherlaw09_BoundExprs_R1_eq]
  unfold dispatcherlaw09_BoundExprs_R1_F
  exact ⟨rfl, hm13.trans hm4⟩
end Go.Proofs.YtmgmlnhahofipaaDoor.Tr
/-! Bounds: and, or, times, cut; whether statements have a while; what decides. -/
set_option linter.unusedVariables false
set_option linter.unusedSimpArgs false
set_option maxRecDepth 4000
namespace Go.Proofs.YtmgmlnhahofipaaDoor.Tr
open Go Go.X Go.RowKit Go.Proofs.YtmgmlnhahofipaaDoor.XH Go.Proofs.YtmgmlnhahofipaaDoor.XK

structure Bd where
  s : Int
  c : Int
  d : Int
deriving DecidableEq
def Bd.cells (e : Bd) : List Value := [.int .i64 e.s, .int .i64 e.c, .int .i64 e.d]
def Bd.v (e : Bd) : Value := .agg e.cells.toArray
def zBd : Bd := ⟨0, 0, 0⟩
def cut1 (n : Int) : Int := if 1048577 < n then 1048577 else n
def Bd.cut (b : Bd) : Bd := ⟨cut1 b.s, cut1 b.c, cut1 b.d⟩
def Bd.and (a b : Bd) : Bd := ⟨a.s + b.s, a.c + b.c, a.d + b.d⟩
def mx (a b : Int) : Int := if b > a then b else a
def Bd.or (a b : Bd) : Bd := ⟨mx a.s b.s, mx a.c b.c, mx a.d b.d⟩
def Bd.times (a : Bd) (n : Int) : Bd := ⟨a.s * n, a.c * n, a.d * n⟩
/-- No less than 0, no more than so much. -/
def Bd.In (b : Bd) (m : Int) : Prop := (0 ≤ b.s ∧ b.s ≤ m) ∧ (0 ≤ b.c ∧ b.c ≤ m) ∧ (0 ≤ b.d ∧ b.d ≤ m)
theorem cut1_in {n m : Int} (h : 0 ≤ n ∧ n ≤ m) : 0 ≤ cut1 n ∧ cut1 n ≤ 1048577 := by unfold cut1; split <;> omega
theorem Bd.In.cut {b : Bd} {m : Int} (h : b.In m) : b.cut.In 1048577 := ⟨cut1_in h.1, cut1_in h.2.1, cut1_in h.2.2⟩
theorem Bd.In.and {a b : Bd} {m k : Int} (h : a.In m) (h2 : b.In k) : (a.and b).In (m + k) := by
  obtain ⟨⟨a1, a2⟩, ⟨a3, a4⟩, a5, a6⟩ := h
  obtain ⟨⟨b1, b2⟩, ⟨b3, b4⟩, b5, b6⟩ := h2
  unfold Bd.and Bd.In
  dsimp only
  omega
theorem mx_in {a b m : Int} (h : 0 ≤ a ∧ a ≤ m) (h2 : 0 ≤ b ∧ b ≤ m) : 0 ≤ mx a b ∧ mx a b ≤ m := by unfold mx; split <;> omega
theorem Bd.In.or {a b : Bd} {m : Int} (h : a.In m) (h2 : b.In m) : (a.or b).In m := ⟨mx_in h.1 h2.1, mx_in h.2.1 h2.2.1, mx_in h.2.2 h2.2.2⟩
theorem Bd.In.mono {b : Bd} {m k : Int} (h : b.In m) (hk : m ≤ k) : b.In k := by
  obtain ⟨⟨a1, a2⟩, ⟨a3, a4⟩, a5, a6⟩ := h
  unfold Bd.In
  omega
theorem mul_in {a m n k : Int} (h : 0 ≤ a ∧ a ≤ m) (h2 : 0 ≤ n ∧ n ≤ k) : 0 ≤ a * n ∧ a * n ≤ m * k := ⟨Int.mul_nonneg h.1 h2.1, Int.mul_le_mul h.2 h2.2 h2.1 (by omega)⟩
theorem Bd.In.times {b : Bd} {m n k : Int} (h : b.In m) (h2 : 0 ≤ n ∧ n ≤ k) : (b.times n).In (m * k) := ⟨mul_in h.1 h2, mul_in h.2.1 h2, mul_in h.2.2 h2⟩
theorem zBd_in (m : Int) (h : 0 ≤ m) : zBd.In m := ⟨⟨Int.le_refl _, h⟩, ⟨Int.le_refl _, h⟩, Int.le_refl _, h⟩
theorem zBnd : (Tryd.prog.info? 34).bind (·.zero) = some (.agg zBd.cells.toArray) := by kernel_rfl
theorem iBnd : (Tryd.prog.info? 34).map (·.size) = some 3 := by kernel_rfl
theorem bBd0 : Tryd.prog.built 34 [] = some zBd.cells.toArray := by kernel_rfl
theorem bBd1 (n : Int) : Tryd.prog.built 34 [(0, .int .i64 n)] = some (Bd.mk n 0 0).cells.toArray := by kernel_rfl
theorem bBd3 (n a b : Int) : Tryd.prog.built 34 [(0, .int .i64 n), (1, .int .i64 a), (2, .int .i64 b)] = some (Bd.mk n a b).cells.toArray := by kernel_rfl
theorem bd_one (e : Bd) : (e.cells.toArray.all (·.oneCell')) = true := by simp [Bd.cells, Value.oneCell']
/-- A bound's field, in a variable of its own. -/
theorem bdF {w : World} {b : Nat} {e : Bd} {ty : TypeId} (h : w.heap[b]? = some (.cells e.cells.toArray ty (0, 0))) : FAt Tryd.prog w 34 0 ⟨b, 0, none⟩ 3 (.int .i64 e.s) ∧ FAt Tryd.prog w 34 1 ⟨b, 0, none⟩ 3 (.int .i64 e.c) ∧ FAt Tryd.prog w 34 2 ⟨b, 0, none⟩ 3 (.int .i64 e.d) :=
  ⟨FAt.mk' (off := 0) (by kernel_rfl) uI rfl (by rw [add_pl, cell_blk h]; rfl), FAt.mk' (off := 1) (by kernel_rfl) uI rfl (by rw [add_pl, cell_blk h]; rfl), FAt.mk' (off := 2) (by kernel_rfl) uI rfl (by rw [add_pl, cell_blk h]; rfl)⟩
theorem wrap_in {n m : Int} (h : 0 ≤ n ∧ n ≤ m) (hm : m < 9223372036854775808) : IntKind.i64.wrap n = n := wrap_i (by omega) (by omega)
theorem And_ok {w : World} {a b : Bd} {m : Int} (hi : (a.and b).In m) (hm : m < 9223372036854775808) : Rt Tryd.prog 25 #[a.v, b.v] w fun v w' => v = (a.and b).v ∧ Mod none_ w w' := by
  refine bound_Bound_and_calls ?_
  unfold bound_Bound_and_F
  refine box_k (cs := a.cells.toArray) rfl fun w1 hb1 hm1 hz1 => ?_
  refine box_k (cs := b.cells.toArray) rfl fun w2 hb2 hm2 hz2 => ?_
  refine al_k zBnd rfl _ fun w3 hb3 hm3 hz3 => ?_
  obtain ⟨a0, a1, a2⟩ := bdF ((hm2.trans hm3).blk hb1 id)
  obtain ⟨b0, b1, b2⟩ := bdF (hm3.blk hb2 id)
  refine a0.vk' fun _ => b0.vk' fun _ => ?_
  rw [BK_add, wrap_in (n := a.s + b.s) hi.1 hm]
  refine a1.vk' fun _ => b1.vk' fun _ => ?_
  rw [BK_add, wrap_in (n := a.c + b.c) hi.2.1 hm]
  refine a2.vk' fun _ => b2.vk' fun _ => ?_
  rw [BK_add, wrap_in (n := a.d + b.d) hi.2.2 hm, build_ok (bBd3 _ _ _)]
  refine stS (old := zBd.cells.toArray) (cs := (a.and b).cells.toArray) rfl rfl iBnd rfl (bd_one _) hb3 fun w4 hb4 hm4 _ => ?_
  exact ⟨_, res_ld (run_ldB (cs := (a.and b).cells.toArray) Tryd.underlying34 rfl iBnd hb4), rfl, ((hm1.trans hm2).trans hm3).then hm4 (fun i hi q => absurd q (by omega))⟩
theorem Cut_ok {w : World} (a : Bd) : Rt Tryd.prog 42 #[a.v] w fun v w' => v = a.cut.v ∧ Mod none_ w w' := by
  refine bound_Bound_cut_calls ?_
  unfold bound_Bound_cut_F
  refine box_k (cs := a.cells.toArray) rfl fun w1 hb1 hm1 hz1 => ?_
  refine al_k zBnd rfl _ fun w3 hb3 hm3 hz3 => ?_
  obtain ⟨a0, a1, a2⟩ := bdF (hm3.blk hb1 id)
  refine a0.vk' fun _ => ?_
  rw [min_i]
  refine a1.vk' fun _ => ?_
  rw [min_i]
  refine a2.vk' fun _ => ?_
  rw [min_i, build_ok (bBd3 _ _ _)]
  refine stS (old := zBd.cells.toArray) (cs := a.cut.cells.toArray) rfl rfl iBnd rfl (bd_one _) hb3 fun w4 hb4 hm4 _ => ?_
  exact ⟨_, res_ld (run_ldB (cs := a.cut.cells.toArray) Tryd.underlying34 rfl iBnd hb4), rfl, (hm1.trans hm3).then hm4 (fun i hi q => absurd q (by omega))⟩
theorem Times_ok {w : World} {a : Bd} {n m : Int} (hi : (a.times n).In m) (hm : m < 9223372036854775808) : Rt Tryd.prog 70 #[a.v, .int .i64 n] w fun v w' => v = (a.times n).v ∧ Mod none_ w w' := by
  refine bound_Bound_times_calls ?_
  unfold bound_Bound_times_F
  refine box_k (cs := a.cells.toArray) rfl fun w1 hb1 hm1 hz1 => ?_
  refine al_k zBnd rfl _ fun w3 hb3 hm3 hz3 => ?_
  obtain ⟨a0, a1, a2⟩ := bdF (hm3.blk hb1 id)
  refine a0.vk' fun _ => ?_
  rw [BK_mul, wrap_in (n := a.s * n) hi.1 hm]
  refine a1.vk' fun _ => ?_
  rw [BK_mul, wrap_in (n := a.c * n) hi.2.1 hm]
  refine a2.vk' fun _ => ?_
  rw [BK_mul, wrap_in (n := a.d * n) hi.2.2 hm, build_ok (bBd3 _ _ _)]
  refine stS (old := zBd.cells.toArray) (cs := (a.times n).cells.toArray) rfl rfl iBnd rfl (bd_one _) hb3 fun w4 hb4 hm4 _ => ?_
  exact ⟨_, res_ld (run_ldB (cs := (a.times n).cells.toArray) Tryd.underlying34 rfl iBnd hb4), rfl, (hm1.trans hm3).then hm4 (fun i hi q => absurd q (by omega))⟩
theorem isNaN_ok {w : World} (a : Int) : Rt Tryd.prog 119 #[.int .i64 a] w fun v w' => v = .bool false ∧ w' = w := by
  refine cmp_isNaN_int_calls ?_
  unfold cmp_isNaN_int_F
  rw [BK_neq]
  exact ⟨by simp, rfl⟩
theorem Less_ok {w : World} (a b : Int) : Rt Tryd.prog 114 #[.int .i64 a, .int .i64 b] w fun v w' => v = .bool (decide (a < b)) ∧ w' = w := by
  refine cmp_Less_int_calls ?_
  unfold cmp_Less_int_F
  refine CK_st Tryd.func119 rfl rfl (isNaN_ok a) ?_
  rintro v w' ⟨rfl, rfl⟩
  simp only [CondK_bool, MG_u, NG_u, VG_u, UG_u, PG_u, BG_u, CG_u, IG_u, MG_b, NG_b, VG_b, UG_b, PG_b, BG_b, CG_b, IG_b, PK_bool, NK_ptr, not_ok, reduceCtorEq, if_true, if_false, Bool.true_eq_false, Bool.false_eq_true, Bool.not_true, Bool.not_false]
  rw [BK_lss]
  exact ⟨rfl, rfl⟩
theorem greater_ok {w : World} (a b : Int) : Rt Tryd.prog 99 #[.int .i64 a, .int .i64 b] w fun v w' => v = .int .i64 (mx a b) ∧ w' = w := by
  refine bound_greater_int_calls ?_
  unfold bound_greater_int_F
  refine CK_st Tryd.func114 rfl rfl (Less_ok a b) ?_
  rintro v w' ⟨rfl, rfl⟩
  unfold mx
  refine caseC (fun h => ?_) (fun h => ?_)
  · rw [if_pos (of_decide_eq_true h)]; exact ⟨rfl, rfl⟩
  · rw [if_neg (of_decide_eq_false h)]; exact ⟨rfl, rfl⟩
theorem Or_ok {w : World} (a b : Bd) : Rt Tryd.prog 69 #[a.v, b.v] w fun v w' => v = (a.or b).v ∧ Mod none_ w w' := by
  refine bound_Bound_or_calls ?_
  unfold bound_Bound_or_F
  refine box_k (cs := a.cells.toArray) rfl fun w1 hb1 hm1 hz1 => ?_
  refine box_k (cs := b.cells.toArray) rfl fun w2 hb2 hm2 hz2 => ?_
  refine al_k zBnd rfl _ fun w3 hb3 hm3 hz3 => ?_
  have hba := (hm2.trans hm3).blk hb1 id
  have hbb := hm3.blk hb2 id
  refine bound_Bound_or_R0_tail (D := []) ?_
  unfold bound_Bound_or_R0_T
  have hm03 : Mod none_ w { w3 with drawn := w3.drawn + 1 } := ((hm1.trans hm2).trans hm3).drawn _
  have hbd : ({ w3 with drawn := w3.drawn + 1 } : World).heap[w2.heap.size]? = some (.cells zBd.cells.toArray 34 (0, 0)) := hb3
  have hbda : ({ w3 with drawn := w3.drawn + 1 } : World).heap[w.heap.size]? = some (.cells a.cells.toArray 34 (0, 0)) := hba
  have hbdb : ({ w3 with drawn := w3.drawn + 1 } : World).heap[w1.heap.size]? = some (.cells b.cells.toArray 34 (0, 0)) := hbb
  generalize ({ w3 with drawn := w3.drawn + 1 } : World) = wd at hm03 hbd hbda hbdb ⊢
  dsimp only
  have ga : ∀ (x y : Int), ∀ {K : Value → Prop}, K (.int .i64 (mx x y)) → QK Tryd.prog (fun w' => w' = wd) (do let d ← Deferred.ofValue (.func (.func 99) #[] #[]) [.int .i64 x, .int .i64 y].toArray; invoke d.target d.args) K := fun x y K hk =>
    QC_rt (R := fun w' v w'' => v = .int .i64 (mx x y) ∧ w'' = w') Tryd.func99 rfl rfl (v := .int .i64 (mx x y)) (fun w' hw => greater_ok x y) (fun w' u w'' hw hu => ⟨hu.1, hu.2.trans hw⟩) hk
  refine Qfo (off := 0) (a := ⟨w.heap.size, 0, none⟩) (by kernel_rfl) (Qld uI rfl (v := .int .i64 a.s) (fun w' hw => by rw [hw, add_pl, cell_blk hbda]; rfl) ?_)
  refine Qfo (off := 0) (a := ⟨w1.heap.size, 0, none⟩) (by kernel_rfl) (Qld uI rfl (v := .int .i64 b.s) (fun w' hw => by rw [hw, add_pl, cell_blk hbdb]; rfl) ?_)
  refine ga _ _ ?_
  refine Qfo (off := 1) (a := ⟨w.heap.size, 0, none⟩) (by kernel_rfl) (Qld uI rfl (v := .int .i64 a.c) (fun w' hw => by rw [hw, add_pl, cell_blk hbda]; rfl) ?_)
  refine Qfo (off := 1) (a := ⟨w1.heap.size, 0, none⟩) (by kernel_rfl) (Qld uI rfl (v := .int .i64 b.c) (fun w' hw => by rw [hw, add_pl, cell_blk hbdb]; rfl) ?_)
  refine ga _ _ ?_
  refine Qfo (off := 2) (a := ⟨w.heap.size, 0, none⟩) (by kernel_rfl) (Qld uI rfl (v := .int .i64 a.d) (fun w' hw => by rw [hw, add_pl, cell_blk hbda]; rfl) ?_)
  refine Qfo (off := 2) (a := ⟨w1.heap.size, 0, none⟩) (by kernel_rfl) (Qld uI rfl (v := .int .i64 b.d) (fun w' hw => by rw [hw, add_pl, cell_blk hbdb]; rfl) ?_)
  refine CK_st Tryd.func99 rfl rfl (greater_ok a.d b.d) ?_
  rintro v w' ⟨rfl, rfl⟩
  rw [build_ok (bBd3 _ _ _)]
  refine stS (b := w2.heap.size) (old := zBd.cells.toArray) (cs := (a.or b).cells.toArray) rfl rfl iBnd rfl (bd_one _) hbd fun w4 hb4 hm4 _ => ?_
  rw [sq_n, bound_Bound_or_R1_eq]
  unfold bound_Bound_or_R1_F
  refine rtCell (b := w2.heap.size) (cs := (a.or b).cells.toArray) rfl Tryd.underlying34 rfl iBnd hb4 ⟨rfl, hm03.then hm4 fun i hi q => absurd q (by omega)⟩
theorem Most_ok {w : World} (a : Int) : Rt Tryd.prog 76 #[.int .i64 a] w fun v w' => v = .int .i64 (cut1 a) ∧ w' = w := by
  refine dispatcherref09_most_calls ?_
  unfold dispatcherref09_most_F
  rw [min_i]
  exact ⟨rfl, rfl⟩
theorem CutR_ok {w : World} (a : Bd) : Rt Tryd.prog 50 #[a.v] w fun v w' => v = a.cut.v ∧ Mod none_ w w' := by
  refine dispatcherref09_cut_calls ?_
  unfold dispatcherref09_cut_F
  refine box_k (cs := a.cells.toArray) rfl fun w1 hb1 hm1 hz1 => ?_
  refine al_k zBnd rfl _ fun w3 hb3 hm3 hz3 => ?_
  have hba := hm3.blk hb1 id
  refine dispatcherref09_cut_R0_tail (D := []) ?_
  unfold dispatcherref09_cut_R0_T
  have hm03 : Mod none_ w { w3 with drawn := w3.drawn + 1 } := (hm1.trans hm3).drawn _
  have hbd : ({ w3 with drawn := w3.drawn + 1 } : World).heap[w1.heap.size]? = some (.cells zBd.cells.toArray 34 (0, 0)) := hb3
  have hbda : ({ w3 with drawn := w3.drawn + 1 } : World).heap[w.heap.size]? = some (.cells a.cells.toArray 34 (0, 0)) := hba
  generalize ({ w3 with drawn := w3.drawn + 1 } : World) = wd at hm03 hbd hbda ⊢
  dsimp only
  have ga : ∀ (x : Int), ∀ {K : Value → Prop}, K (.int .i64 (cut1 x)) → QK Tryd.prog (fun w' => w' = wd) (do let d ← Deferred.ofValue (.func (.func 76) #[] #[]) [.int .i64 x].toArray; invoke d.target d.args) K := fun x K hk =>
    QC_rt (R := fun w' v w'' => v = .int .i64 (cut1 x) ∧ w'' = w') Tryd.func76 rfl rfl (v := .int .i64 (cut1 x)) (fun w' hw => Most_ok x) (fun w' u w'' hw hu => ⟨hu.1, hu.2.trans hw⟩) hk
  refine Qfo (off := 0) (a := ⟨w.heap.size, 0, none⟩) (by kernel_rfl) (Qld uI rfl (v := .int .i64 a.s) (fun w' hw => by rw [hw, add_pl, cell_blk hbda]; rfl) ?_)
  refine ga _ ?_
  refine Qfo (off := 1) (a := ⟨w.heap.size, 0, none⟩) (by kernel_rfl) (Qld uI rfl (v := .int .i64 a.c) (fun w' hw => by rw [hw, add_pl, cell_blk hbda]; rfl) ?_)
  refine ga _ ?_
  refine Qfo (off := 2) (a := ⟨w.heap.size, 0, none⟩) (by kernel_rfl) (Qld uI rfl (v := .int .i64 a.d) (fun w' hw => by rw [hw, add_pl, cell_blk hbda]; rfl) ?_)
  refine CK_st Tryd.func76 rfl rfl (Most_ok a.d) ?_
  rintro v w' ⟨rfl, rfl⟩
  rw [build_ok (bBd3 _ _ _)]
  refine stS (b := w1.heap.size) (old := zBd.cells.toArray) (cs := a.cut.cells.toArray) rfl rfl iBnd rfl (bd_one _) hbd fun w4 hb4 hm4 _ => ?_
  rw [sq_n, dispatcherref09_cut_R1_eq]
  unfold dispatcherref09_cut_R1_F
  refine rtCell (b := w1.heap.size) (cs := a.cut.cells.toArray) rfl Tryd.underlying34 rfl iBnd hb4 ⟨rfl, hm03.then hm4 fun i hi q => absurd q (by omega)⟩
end Go.Proofs.YtmgmlnhahofipaaDoor.Tr
/-! Whether statements have a while; what decides. -/
set_option linter.unusedVariables false
set_option linter.unusedSimpArgs false
set_option maxRecDepth 4000
namespace Go.X
open Go
mutual
/-- Has a statement a while? -/
def St.lp : St → Bool
  | ⟨op, _, _, _, _, _, _, _, body, _, els, _, _⟩ => (op == 4 || St.lpL body) || St.lpL els
def St.lpL : List St → Bool
  | [] => false
  | e :: r => St.lp e || St.lpL r
end
theorem St.lp_eq (e : St) : e.lp = ((e.op == 4 || St.lpL e.body) || St.lpL e.els) := by obtain ⟨op, kind, red, name, turns, es, exprs, bs, body, ls, els, line, col⟩ := e; rw [St.lp]
theorem St.lpL_eq : ∀ l : List St, St.lpL l = l.any St.lp
  | [] => by simp [St.lpL]
  | e :: r => by simp [St.lpL, St.lpL_eq r]
/-- Is a statement a call that decides? -/
def St.dec (e : St) : Bool := decide (e.op = 8) && (if e.kind = 6 ∨ e.kind = 7 ∨ e.kind = 13 then (decide (e.exprs.length < 2) || (e.exprs[1]?).any fun x => x.op != 1) else decide (e.kind = 10 ∨ e.kind = 11 ∨ e.kind = 12 ∨ e.kind = 14))
end Go.X
namespace Go.Proofs.YtmgmlnhahofipaaDoor.Tr
open Go Go.X Go.RowKit Go.Proofs.YtmgmlnhahofipaaDoor.XH Go.Proofs.YtmgmlnhahofipaaDoor.XK

def LoopsOk (l : List St) : Prop := ∀ (w : World) (s : Value), StsOk w s l → St.szL l ≤ 1099511627776 → Rt Tryd.prog 28 #[s] w fun v w' => v = .bool (St.lpL l) ∧ Mod none_ w w'
theorem loops_row {l : List St} (ih : ∀ a ∈ l, LoopsOk a.body ∧ LoopsOk a.els) : LoopsOk l := by
  intro w s hok hsz
  have hlen := St.len_sz l
  refine bound_loops_calls ?_
  unfold bound_loops_F
  rw [St.lpL_eq]
  refine CK_st Tryd.func51 rfl rfl (ContainsFuncSt_ok (p := St.lp) hok (by omega) ?_) (fun v w' h => h)
  intro a ha w1 hm1 K hk
  obtain ⟨ihB, ihE⟩ := ih a ha
  obtain ⟨n, hx⟩ := List.getElem?_of_mem ha
  have hsn := St.szL_at hx
  have hsz2 := St.sz_eq a
  refine CK_st (R := fun v w' => v = .bool a.lp ∧ Mod none_ w1 w') Tryd.func52 rfl rfl ?_ (fun v w' h => by rw [h.1]; exact hk _ h.2)
  refine bound_loops_1_calls ?_
  unfold bound_loops_1_F
  have hoka := (hok.2 a ha).mod hm1
  refine box_k (cs := a.cells.toArray) rfl fun w2 hb2 hm2 hz2 => ?_
  have d0 : FAt Tryd.prog w2 45 0 ⟨w1.heap.size, 0, none⟩ 5 (.int .u8 a.op) := FAt.mk' (off := 0) (by kernel_rfl) uU8 rfl (by rw [add_pl, cell_blk hb2]; rfl)
  have f6 : FAt Tryd.prog w2 45 6 ⟨w1.heap.size, 0, none⟩ 29 a.bs := FAt.mk' (off := 6) (by kernel_rfl) uSts rfl (by rw [add_pl, cell_blk hb2]; rfl)
  have hlp := St.lp_eq a
  refine d0.vk' fun _ => ?_
  refine BKeqI (a := a.op) (b := 4) rfl rfl (fun q => ?_) (fun q => ?_)
  · simp only [CondK_bool, MG_u, NG_u, VG_u, UG_u, PG_u, BG_u, CG_u, IG_u, MG_b, NG_b, VG_b, UG_b, PG_b, BG_b, CG_b, IG_b, PK_bool, NK_ptr, not_ok, reduceCtorEq, if_true, if_false, Bool.true_eq_false, Bool.false_eq_true, Bool.not_true, Bool.not_false]
    refine ⟨?_, hm2⟩
    rw [hlp, q]; rfl
  · simp only [CondK_bool, MG_u, NG_u, VG_u, UG_u, PG_u, BG_u, CG_u, IG_u, MG_b, NG_b, VG_b, UG_b, PG_b, BG_b, CG_b, IG_b, PK_bool, NK_ptr, not_ok, reduceCtorEq, if_true, if_false, Bool.true_eq_false, Bool.false_eq_true, Bool.not_true, Bool.not_false]
    rw [show (a.op == 4) = false by simp [q], Bool.false_or] at hlp
    refine f6.vk' fun _ => ?_
    refine CK_st Tryd.func28 rfl rfl (ihB w2 _ (hoka.mod hm2).body (by omega)) ?_
    rintro _ w3 ⟨rfl, hm3⟩
    have f7 : FAt Tryd.prog w3 45 7 ⟨w1.heap.size, 0, none⟩ 29 a.ls := FAt.mk' (off := 7) (by kernel_rfl) uSts rfl (by rw [add_pl, cell_blk (hm3.blk hb2 id)]; rfl)
    cases hB : St.lpL a.body with
    | true =>
      simp only [CondK_bool, MG_u, NG_u, VG_u, UG_u, PG_u, BG_u, CG_u, IG_u, MG_b, NG_b, VG_b, UG_b, PG_b, BG_b, CG_b, IG_b, PK_bool, NK_ptr, not_ok, reduceCtorEq, if_true, if_false, Bool.true_eq_false, Bool.false_eq_true, Bool.not_true, Bool.not_false]
      refine ⟨?_, hm2.trans hm3⟩
      rw [hlp, hB]; rfl
    | false =>
      simp only [CondK_bool, MG_u, NG_u, VG_u, UG_u, PG_u, BG_u, CG_u, IG_u, MG_b, NG_b, VG_b, UG_b, PG_b, BG_b, CG_b, IG_b, PK_bool, NK_ptr, not_ok, reduceCtorEq, if_true, if_false, Bool.true_eq_false, Bool.false_eq_true, Bool.not_true, Bool.not_false]
      rw [hB, Bool.false_or] at hlp
      refine f7.vk' fun _ => ?_
      refine CK_st Tryd.func28 rfl rfl (ihE w3 _ ((hoka.mod hm2).mod hm3).els (by omega)) ?_
      rintro _ w4 ⟨rfl, hm4⟩
      refine ⟨?_, (hm2.trans hm3).trans hm4⟩
      rw [hlp]
theorem loops_all : ∀ e : St, LoopsOk e.body ∧ LoopsOk e.els := by
  intro e
  induction e using St.ind with
  | h e ih1 ih2 => exact ⟨loops_row ih1, loops_row ih2⟩
theorem Loops_ok (l : List St) : LoopsOk l := loops_row fun a _ => loops_all a
def CountR (l : List St) : Prop := ∀ (w : World) (s : Value), StsOk w s l → St.szL l ≤ 1099511627776 → Rt Tryd.prog 29 #[s] w fun v w' => v = .bool (!St.lpL l) ∧ Mod none_ w w'
theorem countR_row {l : List St} (ih : ∀ a ∈ l, CountR a.body ∧ CountR a.els) : CountR l := by
  intro w s hok hsz
  obtain ⟨A, c, hs, _⟩ := reads_cap hok.1
  have hlen := St.len_sz l
  rw [St.lpL_eq]
  refine dispatcherref09_counted_calls ?_
  unfold dispatcherref09_counted_F
  refine W_loop dispatcherref09_counted_L0_ok (fun ρ w' => ∃ (n : Nat), n ≤ l.length ∧ ρ 3 = .int .i64 n ∧ ρ 0 = .slice A l.length c ∧ ((l.take n).any St.lp) = false ∧ Mod none_ w w') (fun ρ _ => l.length - (intOf (ρ 3)).toNat)
    ⟨0, Nat.zero_le _, rfl, hs, rfl, Mod.refl _ _⟩ ?_
  rintro ρ w1 ⟨n, hn, h3, h0, hno, hm⟩
  rw [dispatcherref09_counted_L0_eq]
  unfold dispatcherref09_counted_L0_F
  rw [h0, h3, len29]
  refine BKlss (a := n) (b := l.length) rfl rfl ?_
  by_cases hlt : n < l.length
  · rw [show decide ((n : Int) < (l.length : Int)) = true by rw [decide_eq_true_eq]; omega]
    refine condT ?_
    have hx : l[n]? = some l[n] := List.getElem?_eq_getElem hlt
    have hmem : l[n] ∈ l := List.getElem_mem hlt
    obtain ⟨ihB, ihE⟩ := ih _ hmem
    have hsn := St.szL_at hx
    have hsz2 := St.sz_eq l[n]
    have hlp := St.lp_eq l[n]
    have hok1 := hok.mod hm
    rw [hs] at hok1
    have bad : l[n].lp = true → (l.any St.lp) = true := fun q => List.any_eq_true.2 ⟨_, hmem, q⟩
    have htake : l[n].lp = false → ((l.take (n + 1)).any St.lp) = false := fun q => by
      rw [List.take_add_one, hx, Option.toList_some, List.any_append, hno]
      simp [q]
    refine ixStA hok1 hx fun a ha => ?_
    have d0 : FAt Tryd.prog w1 45 0 a 5 (.int .u8 l[n].op) := FAt.mk' (off := 0) (by kernel_rfl) uU8 rfl (ha 0 _ rfl)
    refine d0.vk' fun _ => ?_
    refine BKeqI (a := l[n].op) (b := 4) rfl rfl (fun q => ?_) (fun q => ?_)
    · simp only [CondK_bool, MG_u, NG_u, VG_u, UG_u, PG_u, BG_u, CG_u, IG_u, MG_b, NG_b, VG_b, UG_b, PG_b, BG_b, CG_b, IG_b, PK_bool, NK_ptr, not_ok, reduceCtorEq, if_true, if_false, Bool.true_eq_false, Bool.false_eq_true, Bool.not_true, Bool.not_false]
      refine ⟨?_, hm⟩
      show Value.bool false = _
      rw [bad (by rw [hlp, q]; rfl)]; rfl
    · simp only [CondK_bool, MG_u, NG_u, VG_u, UG_u, PG_u, BG_u, CG_u, IG_u, MG_b, NG_b, VG_b, UG_b, PG_b, BG_b, CG_b, IG_b, PK_bool, NK_ptr, not_ok, reduceCtorEq, if_true, if_false, Bool.true_eq_false, Bool.false_eq_true, Bool.not_true, Bool.not_false]
      rw [show (l[n].op == 4) = false by simp [q], Bool.false_or] at hlp
      refine ixStA hok1 hx fun a ha => ?_
      have f6 : FAt Tryd.prog w1 45 6 a 29 l[n].bs := FAt.mk' (off := 6) (by kernel_rfl) uSts rfl (ha 6 _ rfl)
      refine f6.vk' fun _ => ?_
      refine CK_st Tryd.func29 rfl rfl (ihB w1 _ (hok1.at hx).body (by omega)) ?_
      rintro _ w3 ⟨rfl, hm3⟩
      rw [not_ok]
      cases hB : St.lpL l[n].body with
      | true =>
        simp only [CondK_bool, MG_u, NG_u, VG_u, UG_u, PG_u, BG_u, CG_u, IG_u, MG_b, NG_b, VG_b, UG_b, PG_b, BG_b, CG_b, IG_b, PK_bool, NK_ptr, not_ok, reduceCtorEq, if_true, if_false, Bool.true_eq_false, Bool.false_eq_true, Bool.not_true, Bool.not_false]
        refine ⟨?_, hm.trans hm3⟩
        show Value.bool false = _
        rw [bad (by rw [hlp, hB]; rfl)]; rfl
      | false =>
        simp only [CondK_bool, MG_u, NG_u, VG_u, UG_u, PG_u, BG_u, CG_u, IG_u, MG_b, NG_b, VG_b, UG_b, PG_b, BG_b, CG_b, IG_b, PK_bool, NK_ptr, not_ok, reduceCtorEq, if_true, if_false, Bool.true_eq_false, Bool.false_eq_true, Bool.not_true, Bool.not_false]
        rw [hB, Bool.false_or] at hlp
        have hok3 := hok1.mod hm3
        refine ixStA hok3 hx fun a ha => ?_
        have f7 : FAt Tryd.prog w3 45 7 a 29 l[n].ls := FAt.mk' (off := 7) (by kernel_rfl) uSts rfl (ha 7 _ rfl)
        refine f7.vk' fun _ => ?_
        refine CK_st Tryd.func29 rfl rfl (ihE w3 _ (hok3.at hx).els (by omega)) ?_
        rintro _ w4 ⟨rfl, hm4⟩
        rw [not_ok]
        cases hE : St.lpL l[n].els with
        | true =>
          refine condT ⟨?_, (hm.trans hm3).trans hm4⟩
          show Value.bool false = _
          rw [bad (by rw [hlp, hE])]; rfl
        | false =>
          refine condF ?_
          refine BKadd (a := n) (b := 1) rfl rfl (by omega) (by omega) ?_
          refine ⟨⟨n + 1, hlt, rfl, ?_, htake (by rw [hlp, hE]), (hm.trans hm3).trans hm4⟩, ?_⟩
          · exact h0
          · show l.length - (intOf (Value.int .i64 ((n : Int) + 1))).toNat < _
            simp only [intOf]; omega
  · obtain rfl : n = l.length := by omega
    rw [show decide (((l.length : Nat) : Int) < (l.length : Int)) = false by simp]
    refine condF ?_
    rw [sq_x, bk_x, sq_n, dispatcherref09_counted_R1_eq]
    unfold dispatcherref09_counted_R1_F
    rw [List.take_length] at hno
    rw [hno]
    exact ⟨rfl, hm⟩
theorem countR_all : ∀ e : St, CountR e.body ∧ CountR e.els := by
  intro e
  induction e using St.ind with
  | h e ih1 ih2 => exact ⟨countR_row ih1, countR_row ih2⟩
theorem countedR_ok (l : List St) : CountR l := countR_row fun a _ => countR_all a
theorem CountedR_ok {w : World} {p : Pr} (h : p.Ok w) (hf : p.fits) : Rt Tryd.prog 14 #[.agg p.cells.toArray] w fun v w' => v = .bool (!St.lpL p.body) ∧ Mod none_ w w' := by
  refine dispatcherref09_Counted_calls ?_
  unfold dispatcherref09_Counted_F
  refine box_k (cs := p.cells.toArray) rfl fun w1 hb1 hm1 hz1 => ?_
  have f1 : FAt Tryd.prog w1 31 1 ⟨w.heap.size, 0, none⟩ 29 p.bs := FAt.mk' (off := 1) (by kernel_rfl) uSts rfl (by rw [add_pl, cell_blk hb1]; rfl)
  refine f1.vk' fun _ => ?_
  refine CK_st Tryd.func29 rfl rfl (countedR_ok p.body w1 _ (h.mod hm1).b hf.2) ?_
  rintro _ w2 ⟨rfl, hm2⟩
  exact ⟨rfl, hm1.trans hm2⟩
theorem Counted_ok {w : World} {p : Pr} (h : p.Ok w) (hf : p.fits) : Rt Tryd.prog 13 #[.agg p.cells.toArray] w fun v w' => v = .bool (!St.lpL p.body) ∧ Mod none_ w w' := by
  refine bound_Counted_calls ?_
  unfold bound_Counted_F
  refine box_k (cs := p.cells.toArray) rfl fun w1 hb1 hm1 hz1 => ?_
  have f1 : FAt Tryd.prog w1 31 1 ⟨w.heap.size, 0, none⟩ 29 p.bs := FAt.mk' (off := 1) (by kernel_rfl) uSts rfl (by rw [add_pl, cell_blk hb1]; rfl)
  refine f1.vk' fun _ => ?_
  refine CK_st Tryd.func28 rfl rfl (Loops_ok p.body w1 _ (h.mod hm1).b hf.2) ?_
  rintro _ w2 ⟨rfl, hm2⟩
  rw [not_ok]
  exact ⟨rfl, hm1.trans hm2⟩
end Go.Proofs.YtmgmlnhahofipaaDoor.Tr
/-! What decides. -/
set_option linter.unusedVariables false
set_option linter.unusedSimpArgs false
set_option maxRecDepth 4000
namespace Go.Proofs.YtmgmlnhahofipaaDoor.Tr
open Go Go.X Go.RowKit Go.Proofs.YtmgmlnhahofipaaDoor.XH Go.Proofs.YtmgmlnhahofipaaDoor.XK

theorem dec_no {e : St} (h : e.op ≠ 8) : e.dec = false := by unfold St.dec; rw [decide_eq_false h]; rfl
theorem dec_ex {e : St} (h : e.op = 8) (hk : e.kind = 6 ∨ e.kind = 7 ∨ e.kind = 13) : e.dec = (decide (e.exprs.length < 2) || (e.exprs[1]?).any fun x => x.op != 1) := by unfold St.dec; rw [decide_eq_true h, if_pos hk]; rfl
theorem dec_else {e : St} (h : e.op = 8) (hk : ¬(e.kind = 6 ∨ e.kind = 7 ∨ e.kind = 13)) : e.dec = decide (e.kind = 10 ∨ e.kind = 11 ∨ e.kind = 12 ∨ e.kind = 14) := by unfold St.dec; rw [decide_eq_true h, if_neg hk]; rfl
theorem Decides_ok {w : World} {e : St} (hok : e.Ok w) : Rt Tryd.prog 71 #[.agg e.cells.toArray] w fun v w' => v = .bool e.dec ∧ Mod none_ w w' := by
  obtain ⟨A, c, hs, _⟩ := reads_cap hok.exprs.1
  refine bound_Decides_calls ?_
  unfold bound_Decides_F
  refine box_k (cs := e.cells.toArray) rfl fun w1 hb1 hm1 hz1 => ?_
  have hrow : ExsOk w1 (.slice A e.exprs.length c) e.exprs := by rw [← hs]; exact hok.exprs.mod hm1
  generalize w.heap.size = b at *
  have d0 : FAt Tryd.prog w1 45 0 ⟨b, 0, none⟩ 5 (.int .u8 e.op) := FAt.mk' (off := 0) (by kernel_rfl) uU8 rfl (by rw [add_pl, cell_blk hb1]; rfl)
  have d1 : FAt Tryd.prog w1 45 1 ⟨b, 0, none⟩ 5 (.int .u8 e.kind) := FAt.mk' (off := 1) (by kernel_rfl) uU8 rfl (by rw [add_pl, cell_blk hb1]; rfl)
  have d5 : FAt Tryd.prog w1 45 5 ⟨b, 0, none⟩ 22 (.slice A e.exprs.length c) := FAt.mk' (off := 5) (by kernel_rfl) uExs rfl (by rw [add_pl, cell_blk hb1, ← hs]; rfl)
  refine d0.vk' fun _ => ?_
  refine BKneI (a := e.op) (b := 8) rfl rfl (fun h8 => condF ?_) (fun h8 => condT ?_)
  rotate_left
  · rw [dec_no h8]; exact ⟨rfl, hm1⟩
  have r2 : ∀ (ρ' : Sl) (t : Bool), ρ' 24 = .bool t → t = e.dec → sx fn_ Tryd.prog 29 bound_Decides_R2 (blkK 0 (seqK (sx fn_ Tryd.prog 29 bound_Decides_R1 (retK Tryd.prog [ResultVar.tmp 2] fun v w' => v = .bool e.dec ∧ Mod none_ w w')) (retK Tryd.prog [ResultVar.tmp 2] fun v w' => v = .bool e.dec ∧ Mod none_ w w'))) ρ' w1 := by
    intro ρ' t q24 ht
    rw [bound_Decides_R2_eq]
    unfold bound_Decides_R2_F
    refine caseN q24 (fun h => ?_) (fun h => ?_)
    · rw [bk_r, sq_r]
      rw [← ht, h]
      exact ⟨rfl, hm1⟩
    · rw [bk_n, sq_n, bound_Decides_R1_eq]
      unfold bound_Decides_R1_F
      rw [← ht, h]
      exact ⟨rfl, hm1⟩
  have r0 : ∀ (ρ' : Sl) (t : Bool), ρ' 8 = .bool t → t = decide (e.kind = 6 ∨ e.kind = 7 ∨ e.kind = 13) → ρ' 1 = .pointer (some ⟨b, 0, none⟩) → ρ' 7 = .int .u8 e.kind → sx fn_ Tryd.prog 29 bound_Decides_R0 (blkK 0 (seqK (sx fn_ Tryd.prog 29 bound_Decides_R1 (retK Tryd.prog [ResultVar.tmp 2] fun v w' => v = .bool e.dec ∧ Mod none_ w w')) (retK Tryd.prog [ResultVar.tmp 2] fun v w' => v = .bool e.dec ∧ Mod none_ w w'))) ρ' w1 := by
    intro ρ' t q8 ht q1 q7
    rw [bound_Decides_R0_eq]
    unfold bound_Decides_R0_F
    refine caseN q8 (fun h => ?_) (fun h => ?_)
    · have hk := of_decide_eq_true (ht.symm.trans h)
      have hd := dec_ex h8 hk
      refine d5.vs q1 fun _ => ?_
      rw [len22]
      refine BKlss (a := e.exprs.length) (b := 2) rfl rfl ?_
      by_cases hl : e.exprs.length < 2
      · rw [show decide ((e.exprs.length : Int) < 2) = true by rw [decide_eq_true_eq]; omega]
        simp only [CondK_bool, MG_u, NG_u, VG_u, UG_u, PG_u, BG_u, CG_u, IG_u, MG_b, NG_b, VG_b, UG_b, PG_b, BG_b, CG_b, IG_b, PK_bool, NK_ptr, not_ok, reduceCtorEq, if_true, if_false, Bool.true_eq_false, Bool.false_eq_true, Bool.not_true, Bool.not_false]
        rw [bk_r, sq_r]
        refine ⟨?_, hm1⟩
        show Value.bool true = _
        rw [hd, decide_eq_true hl]; rfl
      · rw [show decide ((e.exprs.length : Int) < 2) = false by rw [decide_eq_false_iff_not]; omega]
        simp only [CondK_bool, MG_u, NG_u, VG_u, UG_u, PG_u, BG_u, CG_u, IG_u, MG_b, NG_b, VG_b, UG_b, PG_b, BG_b, CG_b, IG_b, PK_bool, NK_ptr, not_ok, reduceCtorEq, if_true, if_false, Bool.true_eq_false, Bool.false_eq_true, Bool.not_true, Bool.not_false]
        have hx : e.exprs[1]? = some e.exprs[1] := List.getElem?_eq_getElem (by omega)
        refine d5.vs q1 fun _ => ?_
        refine ixExA (i := 1) hrow hx fun a ha => ?_
        have g0 : FAt Tryd.prog w1 24 0 a 5 (.int .u8 e.exprs[1].op) := FAt.mk' (off := 0) (by kernel_rfl) uU8 rfl (ha 0 _ rfl)
        refine g0.vk' fun _ => ?_
        rw [BK_neq, bk_r, sq_r]
        refine ⟨?_, hm1⟩
        show Value.bool _ = _
        rw [hd, decide_eq_false hl, hx]; rfl
    · have hk := of_decide_eq_false (ht.symm.trans h)
      have hd := dec_else h8 hk
      refine BKeqI (a := e.kind) (b := 14) q7 rfl (fun h1 => condT ?_) (fun h1 => condF ?_)
      · exact r2 _ true rfl (by rw [hd, decide_eq_true (by omega)])
      refine BKeqI (a := e.kind) (b := 10) ?_ rfl (fun h2 => condT ?_) (fun h2 => condF ?_)
      · exact q7
      · exact r2 _ true rfl (by rw [hd, decide_eq_true (by omega)])
      refine BKeqI (a := e.kind) (b := 11) ?_ rfl (fun h3 => condT ?_) (fun h3 => condF ?_)
      · exact q7
      · exact r2 _ true rfl (by rw [hd, decide_eq_true (by omega)])
      refine BKeqI (a := e.kind) (b := 12) ?_ rfl (fun h4 => ?_) (fun h4 => ?_)
      · exact q7
      · exact r2 _ true rfl (by rw [hd, decide_eq_true (by omega)])
      · exact r2 _ false rfl (by rw [hd, decide_eq_false (by omega)])
  refine d1.vk' fun _ => ?_
  refine BKeqI (a := e.kind) (b := 6) rfl rfl (fun h1 => condT ?_) (fun h1 => condF ?_)
  · exact r0 _ true rfl (by rw [decide_eq_true (by omega)]) rfl rfl
  refine BKeqI (a := e.kind) (b := 7) rfl rfl (fun h2 => condT ?_) (fun h2 => condF ?_)
  · exact r0 _ true rfl (by rw [decide_eq_true (by omega)]) rfl rfl
  refine BKeqI (a := e.kind) (b := 13) rfl rfl (fun h3 => ?_) (fun h3 => ?_)
  · exact r0 _ true rfl (by rw [decide_eq_true (by omega)]) rfl rfl
  · exact r0 _ false rfl (by rw [decide_eq_false (by omega)]) rfl rfl
theorem DecidesR_ok {w : World} {e : St} (hok : e.Ok w) : Rt Tryd.prog 75 #[.agg e.cells.toArray] w fun v w' => v = .bool e.dec ∧ Mod none_ w w' := by
  obtain ⟨A, c, hs, _⟩ := reads_cap hok.exprs.1
  refine dispatcherref09_Decides_calls ?_
  unfold dispatcherref09_Decides_F
  refine box_k (cs := e.cells.toArray) rfl fun w1 hb1 hm1 hz1 => ?_
  have hrow : ExsOk w1 (.slice A e.exprs.length c) e.exprs := by rw [← hs]; exact hok.exprs.mod hm1
  generalize w.heap.size = b at *
  have d0 : FAt Tryd.prog w1 45 0 ⟨b, 0, none⟩ 5 (.int .u8 e.op) := FAt.mk' (off := 0) (by kernel_rfl) uU8 rfl (by rw [add_pl, cell_blk hb1]; rfl)
  have d1 : FAt Tryd.prog w1 45 1 ⟨b, 0, none⟩ 5 (.int .u8 e.kind) := FAt.mk' (off := 1) (by kernel_rfl) uU8 rfl (by rw [add_pl, cell_blk hb1]; rfl)
  have d5 : FAt Tryd.prog w1 45 5 ⟨b, 0, none⟩ 22 (.slice A e.exprs.length c) := FAt.mk' (off := 5) (by kernel_rfl) uExs rfl (by rw [add_pl, cell_blk hb1, ← hs]; rfl)
  refine d0.vk' fun _ => ?_
  refine BKneI (a := e.op) (b := 8) rfl rfl (fun h8 => condF ?_) (fun h8 => condT ?_)
  rotate_left
  · rw [dec_no h8]; exact ⟨rfl, hm1⟩
  have r2 : ∀ (ρ' : Sl) (t : Bool), ρ' 13 = .bool t → t = decide (e.kind = 6 ∨ e.kind = 7 ∨ e.kind = 13) → ¬ (e.kind = 10 ∨ e.kind = 11 ∨ e.kind = 12 ∨ e.kind = 14) → ρ' 1 = .pointer (some ⟨b, 0, none⟩) → sx fn_ Tryd.prog 29 dispatcherref09_Decides_R2 (blkK 0 (seqK (sx fn_ Tryd.prog 29 dispatcherref09_Decides_R1 (retK Tryd.prog [ResultVar.tmp 2] fun v w' => v = .bool e.dec ∧ Mod none_ w w')) (retK Tryd.prog [ResultVar.tmp 2] fun v w' => v = .bool e.dec ∧ Mod none_ w w'))) ρ' w1 := by
    intro ρ' t q13 ht hno q1
    rw [dispatcherref09_Decides_R2_eq]
    unfold dispatcherref09_Decides_R2_F
    refine caseN q13 (fun h => ?_) (fun h => ?_)
    · have hk := of_decide_eq_true (ht.symm.trans h)
      have hd := dec_ex h8 hk
      refine d5.vs q1 fun _ => ?_
      rw [len22]
      refine BKlss (a := e.exprs.length) (b := 2) rfl rfl ?_
      by_cases hl : e.exprs.length < 2
      · rw [show decide ((e.exprs.length : Int) < 2) = true by rw [decide_eq_true_eq]; omega]
        simp only [CondK_bool, MG_u, NG_u, VG_u, UG_u, PG_u, BG_u, CG_u, IG_u, MG_b, NG_b, VG_b, UG_b, PG_b, BG_b, CG_b, IG_b, PK_bool, NK_ptr, not_ok, reduceCtorEq, if_true, if_false, Bool.true_eq_false, Bool.false_eq_true, Bool.not_true, Bool.not_false]
        rw [bk_r, sq_r]
        refine ⟨?_, hm1⟩
        show Value.bool true = _
        rw [hd, decide_eq_true hl]; rfl
      · rw [show decide ((e.exprs.length : Int) < 2) = false by rw [decide_eq_false_iff_not]; omega]
        simp only [CondK_bool, MG_u, NG_u, VG_u, UG_u, PG_u, BG_u, CG_u, IG_u, MG_b, NG_b, VG_b, UG_b, PG_b, BG_b, CG_b, IG_b, PK_bool, NK_ptr, not_ok, reduceCtorEq, if_true, if_false, Bool.true_eq_false, Bool.false_eq_true, Bool.not_true, Bool.not_false]
        have hx : e.exprs[1]? = some e.exprs[1] := List.getElem?_eq_getElem (by omega)
        refine d5.vs q1 fun _ => ?_
        refine ixExA (i := 1) hrow hx fun a ha => ?_
        have g0 : FAt Tryd.prog w1 24 0 a 5 (.int .u8 e.exprs[1].op) := FAt.mk' (off := 0) (by kernel_rfl) uU8 rfl (ha 0 _ rfl)
        refine g0.vk' fun _ => ?_
        rw [BK_neq, bk_r, sq_r]
        refine ⟨?_, hm1⟩
        show Value.bool _ = _
        rw [hd, decide_eq_false hl, hx]; rfl
    · have hk := of_decide_eq_false (ht.symm.trans h)
      have hd := dec_else h8 hk
      rw [bk_n, sq_n, dispatcherref09_Decides_R1_eq]
      unfold dispatcherref09_Decides_R1_F
      rw [hd, decide_eq_false hno]
      exact ⟨rfl, hm1⟩
  have r0 : ∀ (ρ' : Sl) (t : Bool), ρ' 8 = .bool t → t = decide (e.kind = 10 ∨ e.kind = 11 ∨ e.kind = 12 ∨ e.kind = 14) → ρ' 1 = .pointer (some ⟨b, 0, none⟩) → ρ' 7 = .int .u8 e.kind → sx fn_ Tryd.prog 29 dispatcherref09_Decides_R0 (blkK 0 (seqK (sx fn_ Tryd.prog 29 dispatcherref09_Decides_R1 (retK Tryd.prog [ResultVar.tmp 2] fun v w' => v = .bool e.dec ∧ Mod none_ w w')) (retK Tryd.prog [ResultVar.tmp 2] fun v w' => v = .bool e.dec ∧ Mod none_ w w'))) ρ' w1 := by
    intro ρ' t q8 ht q1 q7
    rw [dispatcherref09_Decides_R0_eq]
    unfold dispatcherref09_Decides_R0_F
    refine caseN q8 (fun h => ?_) (fun h => ?_)
    · have hk := of_decide_eq_true (ht.symm.trans h)
      rw [bk_r, sq_r, dec_else h8 (by omega), decide_eq_true hk]
      exact ⟨rfl, hm1⟩
    · have hk := of_decide_eq_false (ht.symm.trans h)
      refine BKeqI (a := e.kind) (b := 6) q7 rfl (fun h1 => condT ?_) (fun h1 => condF ?_)
      · exact r2 _ true rfl (by rw [decide_eq_true (by omega)]) hk q1
      refine BKeqI (a := e.kind) (b := 7) ?_ rfl (fun h2 => condT ?_) (fun h2 => condF ?_)
      · exact q7
      · exact r2 _ true rfl (by rw [decide_eq_true (by omega)]) hk q1
      refine BKeqI (a := e.kind) (b := 13) ?_ rfl (fun h3 => ?_) (fun h3 => ?_)
      · exact q7
      · exact r2 _ true rfl (by rw [decide_eq_true (by omega)]) hk q1
      · exact r2 _ false rfl (by rw [decide_eq_false (by omega)]) hk q1
  refine d1.vk' fun _ => ?_
  refine BKeqI (a := e.kind) (b := 14) rfl rfl (fun h1 => condT ?_) (fun h1 => condF ?_)
  · exact r0 _ true rfl (by rw [decide_eq_true (by omega)]) rfl rfl
  refine BKeqI (a := e.kind) (b := 10) rfl rfl (fun h2 => condT ?_) (fun h2 => condF ?_)
  · exact r0 _ true rfl (by rw [decide_eq_true (by omega)]) rfl rfl
  refine BKeqI (a := e.kind) (b := 11) rfl rfl (fun h3 => condT ?_) (fun h3 => condF ?_)
  · exact r0 _ true rfl (by rw [decide_eq_true (by omega)]) rfl rfl
  refine BKeqI (a := e.kind) (b := 12) rfl rfl (fun h4 => ?_) (fun h4 => ?_)
  · exact r0 _ true rfl (by rw [decide_eq_true (by omega)]) rfl rfl
  · exact r0 _ false rfl (by rw [decide_eq_false (by omega)]) rfl rfl
end Go.Proofs.YtmgmlnhahofipaaDoor.Tr
/-! What statements take: the program's. -/
set_option linter.unusedVariables false
set_option linter.unusedSimpArgs false
set_option maxRecDepth 4000
namespace Go.X
open Go Go.Proofs.YtmgmlnhahofipaaDoor.Tr
def oneB (n op turns st : Int) (ln : Nat) (dec : Bool) (B E : Bd) : Bd :=
  if op = 3 then ⟨1 + st + mx (B.s + (if 0 < ln then 1 else 0)) E.s, mx B.c E.c, mx B.d E.d⟩
  else if op = 5 then ⟨(B.s + 9) * (if turns = 0 then n else turns) + 6, B.c * (if turns = 0 then n else turns), B.d * (if turns = 0 then n else turns)⟩
  else if op = 8 then ⟨1 + st, 1, if dec then 1 else 0⟩
  else ⟨1 + st, 0, 0⟩
mutual
def St.bd (n : Int) : St → Bd
  | ⟨op, kind, red, name, turns, es, exprs, bs, body, ls, els, line, col⟩ => (oneB n op turns (Ex.stepsL exprs) els.length (St.dec ⟨op, kind, red, name, turns, es, exprs, bs, body, ls, els, line, col⟩) (St.bdF n zBd body) (St.bdF n zBd els)).cut
def St.bdF (n : Int) (acc : Bd) : List St → Bd
  | [] => acc
  | e :: r => St.bdF n ((acc.and (St.bd n e)).cut) r
end
def St.bdO (n : Int) (e : St) : Bd := oneB n e.op e.turns (Ex.stepsL e.exprs) e.els.length e.dec (St.bdF n zBd e.body) (St.bdF n zBd e.els)
theorem St.bd_eq (n : Int) (e : St) : e.bd n = (e.bdO n).cut := by obtain ⟨op, kind, red, name, turns, es, exprs, bs, body, ls, els, line, col⟩ := e; rw [St.bd]; rfl
theorem St.bdF_snoc (n : Int) : ∀ (l : List St) (acc : Bd) (e : St), St.bdF n acc (l ++ [e]) = ((St.bdF n acc l).and (e.bd n)).cut
  | [], acc, e => by simp [St.bdF]
  | a :: r, acc, e => by rw [List.cons_append, St.bdF, St.bdF, St.bdF_snoc n r]
theorem may_turns {e : St} (h : e.may = true) : 0 ≤ e.turns ∧ e.turns ≤ 1000 := by
  rw [St.may_eq] at h
  simp only [Bool.and_eq_true] at h
  have := h.1.1.1
  unfold St.own at this
  simp only [Bool.and_eq_true, decide_eq_true_eq] at this
  exact ⟨this.1.1.1.1.2, this.1.1.1.2⟩
theorem may_parts {e : St} (h : e.may = true) : (∀ a ∈ e.exprs, a.may = true) ∧ (∀ a ∈ e.body, a.may = true) ∧ ∀ a ∈ e.els, a.may = true := by
  rw [St.may_eq] at h
  simp only [Bool.and_eq_true, Ex.mayL_eq, St.mayL_eq, List.all_eq_true] at h
  exact ⟨h.1.1.2, h.1.2, h.2⟩
theorem oneB_in {n op turns st : Int} {ln : Nat} {dec : Bool} {B E : Bd} (hB : B.In 1048577) (hE : E.In 1048577) (hst : 0 ≤ st ∧ st ≤ 4398046511104) (hn : 1 ≤ n ∧ n ≤ 64) (ht : 0 ≤ turns ∧ turns ≤ 1000) : (oneB n op turns st ln dec B E).In 4398047560000 ∧ 0 ≤ (if turns = 0 then n else turns) ∧ (if turns = 0 then n else turns) ≤ 1000 := by
  have ht2 : 0 ≤ (if turns = 0 then n else turns) ∧ (if turns = 0 then n else turns) ≤ 1000 := by split <;> omega
  refine ⟨?_, ht2⟩
  obtain ⟨⟨b1, b2⟩, b3, b4⟩ := id hB
  unfold oneB
  split
  · have h1 := mx_in (a := B.s + (if 0 < ln then 1 else 0)) (b := E.s) (m := 1048578) (by split <;> omega) ⟨hE.1.1, by have := hE.1.2; omega⟩
    have h2 := mx_in hB.2.1 hE.2.1
    have h3 := mx_in hB.2.2 hE.2.2
    refine ⟨⟨?_, ?_⟩, ⟨?_, ?_⟩, ?_, ?_⟩ <;> dsimp only <;> omega
  · split
    · have h1 := mul_in (a := B.s + 9) (m := 1048586) (by omega) ht2
      have h2 := mul_in b3 ht2
      have h3 := mul_in b4 ht2
      refine ⟨⟨?_, ?_⟩, ⟨?_, ?_⟩, ?_, ?_⟩ <;> dsimp only <;> omega
    · split
      · refine ⟨⟨?_, ?_⟩, ⟨?_, ?_⟩, ?_, ?_⟩ <;> dsimp only <;> first | omega | (split <;> omega)
      · refine ⟨⟨?_, ?_⟩, ⟨?_, ?_⟩, ?_, ?_⟩ <;> dsimp only <;> omega
theorem bdF_in {n : Int} : ∀ {l : List St} {acc : Bd}, (∀ a ∈ l, (a.bd n).In 1048577) → acc.In 1048577 → (St.bdF n acc l).In 1048577
  | [], acc, _, h => by rw [St.bdF]; exact h
  | a :: r, acc, hl, h => by
    rw [St.bdF]
    exact bdF_in (fun b hb => hl b (List.mem_cons_of_mem _ hb)) (h.and (hl a (by simp))).cut
/-- Of a tree that may be, of so many ranks. -/
theorem bd_in {n : Int} (hn : 1 ≤ n ∧ n ≤ 64) : ∀ e : St, e.may = true → e.sz ≤ 1099511627776 → (e.bd n).In 1048577 ∧ (e.bdO n).In 4398047560000 ∧ (St.bdF n zBd e.body).In 1048577 ∧ (St.bdF n zBd e.els).In 1048577 := by
  intro e
  induction e using St.ind with
  | h e ih1 ih2 =>
    intro hm hsz
    obtain ⟨m1, m2, m3⟩ := may_parts hm
    rw [St.sz_eq] at hsz
    have sb : ∀ (l : List St), ∀ a ∈ l, a.sz ≤ St.szL l := fun l a ha => by
      obtain ⟨i, hi⟩ := List.getElem?_of_mem ha
      have := St.szL_at hi
      omega
    have hB := bdF_in (n := n) (acc := zBd) (fun a ha => (ih1 a ha (m2 a ha) (by have := sb _ a ha; omega)).1) (zBd_in _ (by decide))
    have hE := bdF_in (n := n) (acc := zBd) (fun a ha => (ih2 a ha (m3 a ha) (by have := sb _ a ha; omega)).1) (zBd_in _ (by decide))
    have hst := Ex.stepsL_sz e.exprs
    have hO := (oneB_in (n := n) (op := e.op) (ln := e.els.length) (dec := e.dec) hB hE (st := Ex.stepsL e.exprs) (by omega) hn (may_turns hm)).1
    exact ⟨by rw [St.bd_eq]; exact Bd.In.cut hO, hO, hB, hE⟩
end Go.X
namespace Go.Proofs.YtmgmlnhahofipaaDoor.Tr
open Go Go.X Go.RowKit Go.Proofs.YtmgmlnhahofipaaDoor.XH Go.Proofs.YtmgmlnhahofipaaDoor.XK

def OneOk (n : Int) (e : St) : Prop := ∀ w : World, e.Ok w → e.sz ≤ 1099511627776 → e.may = true → Rt Tryd.prog 41 #[.int .i64 n, .agg e.cells.toArray] w fun v w' => v = (e.bd n).v ∧ Mod none_ w w'
def AllOk (n : Int) (l : List St) : Prop := ∀ (w : World) (s : Value), StsOk w s l → St.szL l ≤ 1099511627776 → (∀ a ∈ l, a.may = true) → Rt Tryd.prog 24 #[.int .i64 n, s] w fun v w' => v = (St.bdF n zBd l).v ∧ Mod none_ w w'
theorem FnOne (n : Int) : FnL Tryd.prog (.func (.func 41) #[.int .i64 n] #[]) := ⟨_, _, _, _, rfl, Tryd.func41, rfl, rfl⟩
theorem all_row {n : Int} (hn : 1 ≤ n ∧ n ≤ 64) {l : List St} (ih : ∀ a ∈ l, OneOk n a) : AllOk n l := by
  intro w s hok hsz hmay
  obtain ⟨A, c, hs, _⟩ := reads_cap hok.1
  have hlen := St.len_sz l
  refine bound_size_all_calls ?_
  unfold bound_size_all_F
  refine al_k zBnd rfl _ fun w1 hb1 hm1 hz1 => ?_
  refine al_k zBnd rfl _ fun w2 hb2 hm2 hz2 => ?_
  rw [mkFunc, hs, len29]
  have hb12 := hm2.blk hb1 id
  have hm02 := hm1.trans hm2
  generalize hb4 : w.heap.size = b4 at *
  generalize hb5 : w1.heap.size = b5 at *
  have hin : ∀ m : Nat, (St.bdF n zBd (l.take m)).In 1048577 := fun m => bdF_in (fun a ha => by
    obtain ⟨i, hi⟩ := List.getElem?_of_mem (List.mem_of_mem_take ha)
    have := St.szL_at hi
    exact (bd_in hn a (hmay a (List.mem_of_mem_take ha)) (by omega)).1) (zBd_in _ (by decide))
  refine W_loop bound_size_all_L0_ok (fun ρ w' => ∃ m : Nat, m ≤ l.length ∧ ρ 13 = .int .i64 m ∧ ρ 12 = .int .i64 l.length ∧ ρ 11 = .slice A l.length c ∧ ρ 4 = pt b4 ∧ ρ 5 = pt b5 ∧ ρ 6 = .func (.func 41) #[.int .i64 n] #[] ∧ w'.heap[b5]? = some (.cells (St.bdF n zBd (l.take m)).cells.toArray 34 (0, 0)) ∧ Mod (fun i => i = b5) w2 w') (fun ρ _ => l.length - (intOf (ρ 13)).toNat)
    ⟨0, Nat.zero_le _, rfl, rfl, rfl, rfl, rfl, rfl, hb2, Mod.refl _ _⟩ ?_
  rintro ρ w3 ⟨m, hmn, h13, h12, h11, h4, h5, h6, hb53, hm3⟩
  have hm03 : Mod none_ w w3 := hm02.then hm3 fun i hi q => absurd q (by omega)
  rw [bound_size_all_L0_eq]
  unfold bound_size_all_L0_F
  rw [h13, h12, h11]
  refine BKlss (a := m) (b := l.length) rfl rfl ?_
  by_cases hlt : m < l.length
  · rw [show decide ((m : Int) < (l.length : Int)) = true by rw [decide_eq_true_eq]; omega]
    refine condT ?_
    have hx : l[m]? = some l[m] := List.getElem?_eq_getElem hlt
    have hmem : l[m] ∈ l := List.getElem_mem hlt
    have hok3 := hok.mod hm03
    rw [hs] at hok3
    have hsn := St.szL_at hx
    refine ixSt hok3 hx fun y => ?_
    refine lcl_k (cs := l[m].cells.toArray) zSt _ iSt rfl (st_one (hok3.at hx)) fun w4 hb8 hm4 hz4 => ?_
    have hb54 := hm4.blk hb53 id
    have hlt5 : b5 < w3.heap.size := X.blk_lt hb53
    have hm24 : Mod (fun i => i = b5) w2 w4 := hm3.trans (up0 hm4)
    have hok4 := (hok3.at hx).mod hm4
    have hbd := bd_in hn l[m] (hmay _ hmem) (by omega)
    have hsum := (hin m).and hbd.1
    generalize w3.heap.size = b8 at *
    have e2 : ∀ (KK : Exit → Sl → World → Prop), (∀ (ρ3 : Sl) (w9 : World), ρ3 13 = .int .i64 m → ρ3 12 = .int .i64 l.length → ρ3 11 = .slice A l.length c → ρ3 4 = pt b4 → ρ3 5 = pt b5 → ρ3 6 = .func (.func 41) #[.int .i64 n] #[] → w9.heap[b5]? = some (.cells (((St.bdF n zBd (l.take m)).and (l[m].bd n)).cut).cells.toArray 34 (0, 0)) → Mod (fun i => i = b5) w4 w9 → KK .normal ρ3 w9) →
        ∀ (ρ2 : Sl), ρ2 13 = .int .i64 m → ρ2 12 = .int .i64 l.length → ρ2 11 = .slice A l.length c → ρ2 4 = pt b4 → ρ2 5 = pt b5 → ρ2 6 = .func (.func 41) #[.int .i64 n] #[] → ρ2 8 = pt b8 → W fn_ Tryd.prog 25 bound_size_all_R2 KK ρ2 w4 := by
      intro KK kN ρ2 q13 q12 q11 q4 q5 q6 q8
      refine bound_size_all_R2_held (D := []) (fun w' => w'.heap[b8]? = some (.cells l[m].cells.toArray 45 (0, 0))) hb8 ?_
      unfold bound_size_all_R2_H
      have hbd8 : ({ w4 with drawn := w4.drawn + 1 } : World).heap[b8]? = some (.cells l[m].cells.toArray 45 (0, 0)) := hb8
      have hbd5 : ({ w4 with drawn := w4.drawn + 1 } : World).heap[b5]? = some (.cells (St.bdF n zBd (l.take m)).cells.toArray 34 (0, 0)) := hb54
      have hmd : Mod (fun i => i = b5) w4 { w4 with drawn := w4.drawn + 1 } := (Mod.refl _ w4).drawn _
      have hokd : l[m].Ok { w4 with drawn := w4.drawn + 1 } := hok4.mod ((Mod.refl none_ w4).drawn _)
      generalize ({ w4 with drawn := w4.drawn + 1 } : World) = wd at hbd8 hbd5 hmd hokd ⊢
      rw [q6, q5, q8]
      have fin : ∀ (w5 : World) (x y : Value) (N : Value → Value → World → Prop), Mod none_ wd w5 → x = (St.bdF n zBd (l.take m)).v → y = (l[m].bd n).v → (∀ u v w9, w9.heap[b5]? = some (.cells (((St.bdF n zBd (l.take m)).and (l[m].bd n)).cut).cells.toArray 34 (0, 0)) → Mod (fun i => i = b5) w4 w9 → N u v w9) →
          CK Tryd.prog (.func (.func 25) #[] #[]) [x, y] w5 fun u w => w.heap[b8]? = some (.cells l[m].cells.toArray 45 (0, 0)) ∧ (CK Tryd.prog (.func (.func 42) #[] #[]) [u] w fun v w => w.heap[b8]? = some (.cells l[m].cells.toArray 45 (0, 0)) ∧ (UK Tryd.prog (Instr.storeAt 34 (pt b5) v) w fun _ w => w.heap[b8]? = some (.cells l[m].cells.toArray 45 (0, 0)) ∧ N u v w)) := by
        rintro w5 _ _ N hm5 rfl rfl hN
        refine CK_st Tryd.func25 rfl rfl (And_ok hsum (by decide)) ?_
        rintro _ w6 ⟨rfl, hm6⟩
        refine ⟨(hm5.trans hm6).blk hbd8 id, ?_⟩
        refine CK_st Tryd.func42 rfl rfl (Cut_ok _) ?_
        rintro _ w7 ⟨rfl, hm7⟩
        have hm57 := (hm5.trans hm6).trans hm7
        refine ⟨hm57.blk hbd8 id, ?_⟩
        refine stS (b := b5) (old := (St.bdF n zBd (l.take m)).cells.toArray) (cs := (((St.bdF n zBd (l.take m)).and (l[m].bd n)).cut).cells.toArray) rfl rfl iBnd rfl (bd_one _) (hm57.blk hbd5 id) fun w9 hb9 hm9 _ => ?_
        exact ⟨hm9.blk (hm57.blk hbd8 id) (by omega), hN _ _ w9 hb9 ((hmd.trans (up0 hm57)).trans hm9)⟩
      refine HV_of (v := .agg l[m].cells.toArray) (fun w' hw => run_ldB (cs := l[m].cells.toArray) Tryd.underlying45 rfl iSt hw) ⟨?_, ?_⟩
      · refine ldS (b := b5) (cs := (St.bdF n zBd (l.take m)).cells.toArray) rfl Tryd.underlying34 rfl iBnd hbd5 ⟨hbd8, FnOne n, ?_⟩
        refine CK_fn (f := 41) (first := #[.int .i64 n]) (cap := #[]) (args := [.agg l[m].cells.toArray]) Tryd.func41 rfl rfl (ih _ hmem wd hokd (by omega) (hmay _ hmem)) ?_
        rintro _ w5 ⟨rfl, hm5⟩
        refine ⟨hm5.blk hbd8 id, fin w5 _ _ _ hm5 rfl rfl fun u v w9 hb9 hm9 => kN _ w9 ?_ ?_ ?_ ?_ ?_ ?_ hb9 hm9⟩
        · exact q13
        · exact q12
        · exact q11
        · exact q4
        · exact q5
        · exact q6
      · refine ⟨FnOne n, ?_⟩
        refine CK_fn (f := 41) (first := #[.int .i64 n]) (cap := #[]) (args := [.agg l[m].cells.toArray]) Tryd.func41 rfl rfl (ih _ hmem wd hokd (by omega) (hmay _ hmem)) ?_
        rintro _ w5 ⟨rfl, hm5⟩
        refine ⟨hm5.blk hbd8 id, ?_⟩
        refine ldS (b := b5) (cs := (St.bdF n zBd (l.take m)).cells.toArray) rfl Tryd.underlying34 rfl iBnd (hm5.blk hbd5 id) ⟨hm5.blk hbd8 id, fin w5 _ _ _ hm5 rfl rfl fun u v w9 hb9 hm9 => kN _ w9 ?_ ?_ ?_ ?_ ?_ ?_ hb9 hm9⟩
        · exact q13
        · exact q12
        · exact q11
        · exact q4
        · exact q5
        · exact q6
    refine e2 _ (fun ρ3 w9 q13 q12 q11 q4 q5 q6 hb9 hm9 => ?_) _ ?_ ?_ ?_ ?_ ?_ ?_ ?_
    · rw [bk_n, sq_n, bound_size_all_R3_eq]
      unfold bound_size_all_R3_F
      refine BKadd (a := m) (b := 1) q13 rfl (by omega) (by omega) ?_
      refine ⟨⟨m + 1, hlt, rfl, q12, q11, q4, q5, q6, ?_, hm24.trans hm9⟩, ?_⟩
      · rw [List.take_add_one, hx, Option.toList_some, St.bdF_snoc]; exact hb9
      · show l.length - (intOf (Value.int .i64 ((m : Int) + 1))).toNat < _
        simp only [intOf]; omega
    · exact h13
    · exact h12
    · exact h11
    · exact h4
    · exact h5
    · exact h6
    · rfl
  · obtain rfl : m = l.length := by omega
    rw [show decide (((l.length : Nat) : Int) < (l.length : Int)) = false by simp]
    refine condF ?_
    rw [List.take_length] at hb53
    rw [sq_x, bk_x, sq_n, bound_size_all_R1_eq]
    unfold bound_size_all_R1_F
    refine ldS (b := b5) (cs := (St.bdF n zBd l).cells.toArray) h5 Tryd.underlying34 rfl iBnd hb53 ?_
    refine stS (b := b4) (old := zBd.cells.toArray) (cs := (St.bdF n zBd l).cells.toArray) h4 rfl iBnd rfl (bd_one _) (hm3.blk hb12 (by omega)) fun w4 hb4' hm4 _ => ?_
    refine rtCell (b := b4) (cs := (St.bdF n zBd l).cells.toArray) ?_ Tryd.underlying34 rfl iBnd hb4' ⟨rfl, hm03.then hm4 fun i hi q => absurd q (by omega)⟩
    exact h4
theorem bd_set0 (e : Bd) (n : Int) : e.cells.toArray.setIfInBounds 0 (.int .i64 n) = (Bd.mk n e.c e.d).cells.toArray := by simp [Bd.cells]
theorem bd_set1 (e : Bd) (n : Int) : e.cells.toArray.setIfInBounds 1 (.int .i64 n) = (Bd.mk e.s n e.d).cells.toArray := by simp [Bd.cells]
theorem bd_set2 (e : Bd) (n : Int) : e.cells.toArray.setIfInBounds 2 (.int .i64 n) = (Bd.mk e.s e.c n).cells.toArray := by simp [Bd.cells]
/-- A bound's field, stored. -/
theorem bdSt {w : World} {b : Nat} {e : Bd} {ty : TypeId} (h : w.heap[b]? = some (.cells e.cells.toArray ty (0, 0))) {x : Value} {n : Int} {j : Nat} (hj : j < 3) (hx : x = .pointer (some ⟨b, j, none⟩)) {K : Value → World → Prop}
    (hk : ∀ w', w'.heap[b]? = some (.cells (e.cells.toArray.setIfInBounds j (.int .i64 n)) ty (0, 0)) → Mod (fun i => i = b) w w' → K undef w') : UK Tryd.prog (Instr.storeAt 3 x (.int .i64 n)) w K :=
  stC (o := j) hx (by kernel_rfl) rfl h (by simpa [Bd.cells] using hj) fun w' h1 h2 _ => hk w' h1 h2
theorem foBd {w : World} {K : Value → World → Prop} {x : Value} {b j : Nat} (hj : j < 3) (hx : x = .pointer (some ⟨b, 0, none⟩)) (hk : K (.pointer (some ⟨b, j, none⟩)) w) : VK Tryd.prog (Instr.fieldAt 34 x j) w K := by
  rw [hx]
  have : fieldOff Tryd.prog 34 j = some j := by
    match j, hj with
    | 0, _ => exact (show fieldOff Tryd.prog 34 0 = some 0 by kernel_rfl)
    | 1, _ => exact (show fieldOff Tryd.prog 34 1 = some 1 by kernel_rfl)
    | 2, _ => exact (show fieldOff Tryd.prog 34 2 = some 2 by kernel_rfl)
  rw [fo this, add_pl, Nat.zero_add]
  exact hk
theorem R5_W (z : Go.X.At) (K : Exit → Sl → World → Prop) (ρ : Sl) (w : World) : sx z Tryd.prog 74 bound_size_one_R5 K ρ w = W z Tryd.prog 74 bound_size_one_R5 K ρ w := by kernel_rfl
theorem one_of {n : Int} (hn : 1 ≤ n ∧ n ≤ 64) {e : St} (ihB : AllOk n e.body) (ihE : AllOk n e.els) : OneOk n e := by
  intro w hok hsz hmay
  obtain ⟨A, c, hs, _⟩ := reads_cap hok.exprs.1
  obtain ⟨hA, hO, hB, hE⟩ := bd_in hn e hmay hsz
  obtain ⟨_, mB, mE⟩ := may_parts hmay
  have htn := may_turns hmay
  rw [St.sz_eq] at hsz
  have hlx := Ex.len_sz e.exprs
  have hstx := Ex.stepsL_sz e.exprs
  refine bound_size_one_calls ?_
  unfold bound_size_one_F
  refine box_k (cs := e.cells.toArray) rfl fun w1 hb1 hm1 hz1 => ?_
  refine al_k zBnd rfl _ fun w2 hb2 hm2 hz2 => ?_
  rw [build_ok (bBd1 1)]
  refine lcl_k (cs := (Bd.mk 1 0 0).cells.toArray) zBnd _ iBnd rfl (bd_one _) fun w3 hb3 hm3 hz3 => ?_
  have h13 := (hm2.trans hm3).blk hb1 id
  have h23 := hm3.blk hb2 id
  have hm03 := (hm1.trans hm2).trans hm3
  have hf1 : w.heap.size < w1.heap.size := by omega
  have hf2 : w1.heap.size < w2.heap.size := by omega
  clear hm1 hb1 hm2 hb2 hm3 hz1 hz2 hz3
  generalize hE3 : w.heap.size = b3 at *
  generalize w1.heap.size = b4 at *
  generalize w2.heap.size = b5 at *
  have d5 : FAt Tryd.prog w3 45 5 ⟨b3, 0, none⟩ 22 (.slice A e.exprs.length c) := FAt.mk' (off := 5) (by kernel_rfl) uExs rfl (by rw [add_pl, cell_blk h13, ← hs]; rfl)
  refine d5.vk' fun _ => ?_
  rw [len22]
  -- the end
  have r4 : ∀ (ρ' : Sl) (w' : World) (b : Bd), ρ' 4 = pt b4 → ρ' 5 = pt b5 → w'.heap[b5]? = some (.cells b.cells.toArray 34 (0, 0)) → w'.heap[b4]? = some (.cells zBd.cells.toArray 34 (0, 0)) → b = e.bdO n → Mod none_ w w' →
      sx fn_ Tryd.prog 74 bound_size_one_R4 (retK Tryd.prog [ResultVar.cell 4 34] fun v w' => v = (e.bd n).v ∧ Mod none_ w w') ρ' w' := by
    intro ρ' w' b q4 q5 g5 g4 hb hm
    subst hb
    rw [bound_size_one_R4_eq]
    unfold bound_size_one_R4_F
    refine ldS (b := b5) (cs := (e.bdO n).cells.toArray) q5 Tryd.underlying34 rfl iBnd g5 ?_
    refine CK_st Tryd.func42 rfl rfl (Cut_ok _) ?_
    rintro _ w7 ⟨rfl, hm7⟩
    refine stS (b := b4) (old := zBd.cells.toArray) (cs := ((e.bdO n).cut).cells.toArray) q4 rfl iBnd rfl (bd_one _) (hm7.blk g4 id) fun w9 hb9 hm9 _ => ?_
    refine rtCell (b := b4) (cs := ((e.bdO n).cut).cells.toArray) ?_ Tryd.underlying34 rfl iBnd hb9 ⟨?_, (hm.trans hm7).then hm9 fun i hi q => absurd q (by omega)⟩
    · exact q4
    · rw [St.bd_eq]; rfl
  refine W_loop bound_size_one_L0_ok (fun ρ w' => ∃ m : Nat, m ≤ e.exprs.length ∧ ρ 14 = .int .i64 m ∧ ρ 13 = .int .i64 e.exprs.length ∧ ρ 12 = .slice A e.exprs.length c ∧ ρ 3 = pt b3 ∧ ρ 4 = pt b4 ∧ ρ 5 = pt b5 ∧ ρ 0 = .int .i64 n ∧ w'.heap[b5]? = some (.cells (Bd.mk (1 + Ex.stepsL (e.exprs.take m)) 0 0).cells.toArray 34 (0, 0)) ∧ Mod (fun i => i = b5) w3 w') (fun ρ _ => e.exprs.length - (intOf (ρ 14)).toNat)
    ⟨0, Nat.zero_le _, rfl, rfl, rfl, rfl, rfl, rfl, rfl, (by simpa [Ex.stepsL] using hb3), Mod.refl _ _⟩ ?_
  rintro ρ w4 ⟨m, hmn, h14, h13', h12, q3, q4, q5, q0, hb54, hm4⟩
  have hm04 : Mod none_ w w4 := hm03.then hm4 fun i hi q => by omega
  have h14' := hm4.blk h13 (by omega)
  have h24' := hm4.blk h23 (by omega)
  rw [bound_size_one_L0_eq]
  unfold bound_size_one_L0_F
  rw [h14, h13', h12]
  refine BKlss (a := m) (b := e.exprs.length) rfl rfl ?_
  by_cases hlt : m < e.exprs.length
  · rw [show decide ((m : Int) < (e.exprs.length : Int)) = true by rw [decide_eq_true_eq]; omega]
    refine condT ?_
    have hx : e.exprs[m]? = some e.exprs[m] := List.getElem?_eq_getElem hlt
    have hmem : e.exprs[m] ∈ e.exprs := List.getElem_mem hlt
    have hrow4 := hok.exprs.mod hm04
    rw [hs] at hrow4
    have hsn := Ex.szL_at hx
    have t1 := Ex.stepsL_sz (e.exprs.take m)
    have t2 := Ex.steps_sz e.exprs[m]
    refine ixEx hrow4 hx fun y => ?_
    refine lcl_k (cs := e.exprs[m].cells.toArray) zEx _ iEx rfl (ex_one (hrow4.at hx)) fun w5 hb7 hm5 hz5 => ?_
    have hb55 := hm5.blk hb54 id
    have hlt5 : b5 < w4.heap.size := X.blk_lt hb54
    have hm35 : Mod (fun i => i = b5) w3 w5 := hm4.trans (up0 hm5)
    have hok5 := (hrow4.at hx).mod hm5
    generalize w4.heap.size = b7 at *
    have e2 : ∀ (KK : Exit → Sl → World → Prop), (∀ (ρ3 : Sl) (w9 : World), ρ3 14 = .int .i64 m → ρ3 13 = .int .i64 e.exprs.length → ρ3 12 = .slice A e.exprs.length c → ρ3 3 = pt b3 → ρ3 4 = pt b4 → ρ3 5 = pt b5 → ρ3 0 = .int .i64 n → w9.heap[b5]? = some (.cells (Bd.mk (1 + Ex.stepsL (e.exprs.take m) + e.exprs[m].steps) 0 0).cells.toArray 34 (0, 0)) → Mod (fun i => i = b5) w5 w9 → KK .normal ρ3 w9) →
        ∀ (ρ2 : Sl), ρ2 14 = .int .i64 m → ρ2 13 = .int .i64 e.exprs.length → ρ2 12 = .slice A e.exprs.length c → ρ2 3 = pt b3 → ρ2 4 = pt b4 → ρ2 5 = pt b5 → ρ2 0 = .int .i64 n → ρ2 7 = pt b7 → W fn_ Tryd.prog 74 bound_size_one_R2 KK ρ2 w5 := by
      intro KK kN ρ2 p14 p13 p12 p3 p4 p5 p0 p7
      refine bound_size_one_R2_held (D := []) (fun w' => w'.heap[b7]? = some (.cells e.exprs[m].cells.toArray 24 (0, 0))) hb7 ?_
      unfold bound_size_one_R2_H
      have hbd7 : ({ w5 with drawn := w5.drawn + 1 } : World).heap[b7]? = some (.cells e.exprs[m].cells.toArray 24 (0, 0)) := hb7
      have hbd5 : ({ w5 with drawn := w5.drawn + 1 } : World).heap[b5]? = some (.cells (Bd.mk (1 + Ex.stepsL (e.exprs.take m)) 0 0).cells.toArray 34 (0, 0)) := hb55
      have hmd : Mod (fun i => i = b5) w5 { w5 with drawn := w5.drawn + 1 } := (Mod.refl _ w5).drawn _
      have hokd : e.exprs[m].Ok { w5 with drawn := w5.drawn + 1 } := hok5.mod ((Mod.refl none_ w5).drawn _)
      generalize ({ w5 with drawn := w5.drawn + 1 } : World) = wd at hbd7 hbd5 hmd hokd ⊢
      rw [p5, p7]
      have ad : ∀ w6 : World, Mod none_ wd w6 → ∀ (KN : Value → Value → World → Prop), (∀ u v w9, w9.heap[b5]? = some (.cells (Bd.mk (1 + Ex.stepsL (e.exprs.take m) + e.exprs[m].steps) 0 0).cells.toArray 34 (0, 0)) → Mod (fun i => i = b5) w5 w9 → KN u v w9) →
          HK Tryd.prog (fun w' => w'.heap[b7]? = some (.cells e.exprs[m].cells.toArray 24 (0, 0))) (do pure (Next.value (← (do eqGuard .add 3 (.tmp 19) (.tmp 21) (.int .i64 (1 + Ex.stepsL (e.exprs.take m))) (.int .i64 e.exprs[m].steps); binOp .add 3 (.int .i64 (1 + Ex.stepsL (e.exprs.take m))) (.int .i64 e.exprs[m].steps))))) fun x22 => HK Tryd.prog (fun w' => w'.heap[b7]? = some (.cells e.exprs[m].cells.toArray 24 (0, 0))) (do pure (Next.value (← Instr.fieldAt 34 (pt b5) 0))) fun x23 => UK Tryd.prog (Instr.storeAt 3 x23 x22) w6 fun _ w => w.heap[b7]? = some (.cells e.exprs[m].cells.toArray 24 (0, 0)) ∧ KN x22 x23 w := by
        intro w6 hm6 KN hk
        refine HB_of (v := .int .i64 (1 + Ex.stepsL (e.exprs.take m) + e.exprs[m].steps)) (fun _ => rfl) (fun w => by have := wrap_i (n := 1 + (Ex.stepsL (e.exprs.take m) : Int) + (e.exprs[m].steps : Int)) (by omega) (by omega); simp [go_sem, this]) ?_
        refine HV_of (fun w' _ => run_fo (off := 0) (by kernel_rfl) _ w') ?_
        rw [add_pl]
        refine bdSt (hm6.blk hbd5 id) (j := 0) (by decide) rfl fun w9 hb9 hm9 => ?_
        rw [bd_set0] at hb9
        exact ⟨hm9.blk (hm6.blk hbd7 id) (by omega), hk _ _ w9 hb9 ((hmd.trans (up0 hm6)).trans hm9)⟩
      refine HV_of (fun w' _ => run_fo (off := 0) (by kernel_rfl) _ w') (HV_of (v := .agg e.exprs[m].cells.toArray) (fun w' hw => run_ldB (cs := e.exprs[m].cells.toArray) Tryd.underlying24 rfl iEx hw) ⟨?_, ?_⟩)
      · refine ld1 (v := .int .i64 (1 + Ex.stepsL (e.exprs.take m))) uI rfl (by rw [add_pl, cell_blk hbd5]; rfl) ⟨hbd7, ?_⟩
        refine CK_st Tryd.func18 rfl rfl (bexpr_ok _ wd hokd (by omega)) ?_
        rintro _ w6 ⟨rfl, hm6⟩
        refine ⟨hm6.blk hbd7 id, ad w6 hm6 _ fun u v w9 hb9 hm9 => kN _ w9 ?_ ?_ ?_ ?_ ?_ ?_ ?_ hb9 hm9⟩
        · exact p14
        · exact p13
        · exact p12
        · exact p3
        · exact p4
        · exact p5
        · exact p0
      · refine CK_st Tryd.func18 rfl rfl (bexpr_ok _ wd hokd (by omega)) ?_
        rintro _ w6 ⟨rfl, hm6⟩
        refine ⟨hm6.blk hbd7 id, ?_⟩
        refine ld1 (v := .int .i64 (1 + Ex.stepsL (e.exprs.take m))) uI rfl (by rw [add_pl, cell_blk (hm6.blk hbd5 id)]; rfl) ⟨hm6.blk hbd7 id, ?_⟩
        refine ad w6 hm6 _ fun u v w9 hb9 hm9 => kN _ w9 ?_ ?_ ?_ ?_ ?_ ?_ ?_ hb9 hm9
        · exact p14
        · exact p13
        · exact p12
        · exact p3
        · exact p4
        · exact p5
        · exact p0
    refine e2 _ (fun ρ3 w9 p14 p13 p12 p3 p4 p5 p0 hb9 hm9 => ?_) _ ?_ ?_ ?_ ?_ ?_ ?_ ?_ ?_
    · rw [bk_n, sq_n, bound_size_one_R3_eq]
      unfold bound_size_one_R3_F
      refine BKadd (a := m) (b := 1) p14 rfl (by omega) (by omega) ?_
      refine ⟨⟨m + 1, hlt, rfl, p13, p12, p3, p4, p5, p0, ?_, hm35.trans hm9⟩, ?_⟩
      · rw [List.take_add_one, hx, Option.toList_some, Ex.stepsL_snoc]
        rw [show (1 : Int) + ((Ex.stepsL (e.exprs.take m) + e.exprs[m].steps : Nat) : Int) = 1 + Ex.stepsL (e.exprs.take m) + e.exprs[m].steps by omega]
        exact hb9
      · show e.exprs.length - (intOf (Value.int .i64 ((m : Int) + 1))).toNat < _
        simp only [intOf]; omega
    · exact h14
    · exact h13'
    · exact h12
    · exact q3
    · exact q4
    · exact q5
    · exact q0
    · rfl
  · obtain rfl : m = e.exprs.length := by omega
    rw [show decide (((e.exprs.length : Nat) : Int) < (e.exprs.length : Int)) = false by simp]
    refine condF ?_
    rw [List.take_length] at hb54
    rw [sq_x, bk_x, sq_n, bound_size_one_R1_eq]
    unfold bound_size_one_R1_F
    have hok4 := hok.mod hm04
    have d0 : FAt Tryd.prog w4 45 0 ⟨b3, 0, none⟩ 5 (.int .u8 e.op) := FAt.mk' (off := 0) (by kernel_rfl) uU8 rfl (by rw [add_pl, cell_blk h14']; rfl)
    have d4 : FAt Tryd.prog w4 45 4 ⟨b3, 0, none⟩ 3 (.int .i64 e.turns) := FAt.mk' (off := 4) (by kernel_rfl) uI rfl (by rw [add_pl, cell_blk h14']; rfl)
    have d6 : FAt Tryd.prog w4 45 6 ⟨b3, 0, none⟩ 29 e.bs := FAt.mk' (off := 6) (by kernel_rfl) uSts rfl (by rw [add_pl, cell_blk h14']; rfl)
    have hst1 : (Ex.stepsL e.exprs : Int) = Ex.stepsL e.exprs := rfl
    -- if: both blocks
    have r5 : ∀ (ρ' : Sl) (w5 : World) (b8 : Nat) (B' : Bd), e.op = 3 → B' = ⟨(St.bdF n zBd e.body).s + (if 0 < e.els.length then 1 else 0), (St.bdF n zBd e.body).c, (St.bdF n zBd e.body).d⟩ → w5.heap[b8]? = some (.cells B'.cells.toArray 34 (0, 0)) → b8 ≠ b5 → b8 ≠ b4 → Mod none_ w4 w5 ∨ True → w5.heap[b5]? = some (.cells (Bd.mk (1 + Ex.stepsL e.exprs) 0 0).cells.toArray 34 (0, 0)) → w5.heap[b4]? = some (.cells zBd.cells.toArray 34 (0, 0)) → w5.heap[b3]? = some (.cells e.cells.toArray 45 (0, 0)) → Mod none_ w w5 → ρ' 0 = .int .i64 n → ρ' 3 = pt b3 → ρ' 4 = pt b4 → ρ' 5 = pt b5 → ρ' 8 = pt b8 →
        sx fn_ Tryd.prog 74 bound_size_one_R5 (blkK 2 (seqK (sx fn_ Tryd.prog 74 bound_size_one_R4 (retK Tryd.prog [ResultVar.cell 4 34] fun v w' => v = (e.bd n).v ∧ Mod none_ w w')) (retK Tryd.prog [ResultVar.cell 4 34] fun v w' => v = (e.bd n).v ∧ Mod none_ w w'))) ρ' w5 := by
      intro ρ' w5 b8 B' k3 hB' g8 n85 n84 _ g5 g4 g3 hm05 p0 p3 p4 p5 p8
      have hB'in : B'.In 1048578 := by
        subst hB'
        obtain ⟨⟨x1, x2⟩, ⟨x3, x4⟩, x5, x6⟩ := hB
        refine ⟨⟨?_, ?_⟩, ⟨?_, ?_⟩, ?_, ?_⟩ <;> dsimp only <;> first | omega | (split <;> omega)
      have hor := hB'in.or (hE.mono (k := 1048578) (by decide))
      have hand : (Bd.and (Bd.mk (1 + Ex.stepsL e.exprs) 0 0) (B'.or (St.bdF n zBd e.els))).In 4398047560000 := by
        obtain ⟨⟨x1, x2⟩, ⟨x3, x4⟩, x5, x6⟩ := hor
        unfold Bd.and
        refine ⟨⟨?_, ?_⟩, ⟨?_, ?_⟩, ?_, ?_⟩ <;> dsimp only <;> omega
      have hres : Bd.and (Bd.mk (1 + Ex.stepsL e.exprs) 0 0) (B'.or (St.bdF n zBd e.els)) = e.bdO n := by
        unfold St.bdO oneB
        rw [if_pos k3, hB']
        simp [Bd.and, Bd.or]
      rw [R5_W]
      let S : World → Prop := fun w' => w'.heap[b8]? = some (.cells B'.cells.toArray 34 (0, 0)) ∧ w'.heap[b3]? = some (.cells e.cells.toArray 45 (0, 0))
      refine bound_size_one_R5_held (D := []) S ⟨g8, g3⟩ ?_
      unfold bound_size_one_R5_H
      have gd8 : ({ w5 with drawn := w5.drawn + 1 } : World).heap[b8]? = some (.cells B'.cells.toArray 34 (0, 0)) := g8
      have gd5 : ({ w5 with drawn := w5.drawn + 1 } : World).heap[b5]? = some (.cells (Bd.mk (1 + Ex.stepsL e.exprs) 0 0).cells.toArray 34 (0, 0)) := g5
      have gd4 : ({ w5 with drawn := w5.drawn + 1 } : World).heap[b4]? = some (.cells zBd.cells.toArray 34 (0, 0)) := g4
      have gd3 : ({ w5 with drawn := w5.drawn + 1 } : World).heap[b3]? = some (.cells e.cells.toArray 45 (0, 0)) := g3
      have hmd : Mod none_ w { w5 with drawn := w5.drawn + 1 } := hm05.drawn _
      generalize ({ w5 with drawn := w5.drawn + 1 } : World) = wd at gd8 gd5 gd4 gd3 hmd ⊢
      have hSd : ∀ w', Mod none_ wd w' → S w' := fun w' hw => ⟨hw.blk gd8 id, hw.blk gd3 id⟩
      rw [p8, p3, p5, p0]
      have hels := (hok.mod hmd).els
      have fin : ∀ (w6 : World) (x y : Value) (N : Value → World → Prop), Mod none_ wd w6 → x = (Bd.mk (1 + Ex.stepsL e.exprs) 0 0).v → y = (B'.or (St.bdF n zBd e.els)).v → (∀ u w9, w9.heap[b5]? = some (.cells (e.bdO n).cells.toArray 34 (0, 0)) → w9.heap[b4]? = some (.cells zBd.cells.toArray 34 (0, 0)) → Mod none_ w w9 → N u w9) →
          CK Tryd.prog (.func (.func 25) #[] #[]) [x, y] w6 fun u w => S w ∧ (UK Tryd.prog (Instr.storeAt 34 (pt b5) u) w fun _ w => S w ∧ N u w) := by
        rintro w6 _ _ N hm6 rfl rfl hN
        refine CK_st Tryd.func25 rfl rfl (And_ok hand (by decide)) ?_
        rintro _ w7 ⟨rfl, hm7⟩
        have hm67 := hm6.trans hm7
        refine ⟨hSd _ hm67, ?_⟩
        refine stS (b := b5) (old := (Bd.mk (1 + Ex.stepsL e.exprs) 0 0).cells.toArray) (cs := (e.bdO n).cells.toArray) rfl (by rw [hres]; rfl) iBnd rfl (bd_one _) (hm67.blk gd5 id) fun w9 hb9 hm9 _ => ?_
        exact ⟨⟨hm9.blk (hm67.blk gd8 id) n85, hm9.blk (hm67.blk gd3 id) (by omega)⟩, hN _ w9 hb9 (hm9.blk (hm67.blk gd4 id) (by omega)) ((hmd.trans hm67).then hm9 fun i hi q => absurd q (by omega))⟩
      have end_ : ∀ (ρ5 : Sl) (w9 : World), ρ5 4 = pt b4 → ρ5 5 = pt b5 → w9.heap[b5]? = some (.cells (e.bdO n).cells.toArray 34 (0, 0)) → w9.heap[b4]? = some (.cells zBd.cells.toArray 34 (0, 0)) → Mod none_ w w9 →
          blkK 2 (seqK (sx fn_ Tryd.prog 74 bound_size_one_R4 (retK Tryd.prog [ResultVar.cell 4 34] fun v w' => v = (e.bd n).v ∧ Mod none_ w w')) (retK Tryd.prog [ResultVar.cell 4 34] fun v w' => v = (e.bd n).v ∧ Mod none_ w w')) .normal ρ5 w9 := by
        intro ρ5 w9 t4 t5 h5 h4 hm
        rw [bk_n, sq_n]
        exact r4 _ w9 _ t4 t5 h5 h4 rfl hm
      have lx : ∀ w6, Mod none_ wd w6 → ∀ (KN : Value → World → Prop), KN (Bd.mk (1 + Ex.stepsL e.exprs) 0 0).v w6 → VK Tryd.prog (Instr.loadAt 34 (pt b5)) w6 KN := fun w6 hm6 KN hk =>
        ldS (b := b5) (cs := (Bd.mk (1 + Ex.stepsL e.exprs) 0 0).cells.toArray) rfl Tryd.underlying34 rfl iBnd (hm6.blk gd5 id) hk
      refine HV_of (v := B'.v) (fun w' hw => run_ldB (cs := B'.cells.toArray) Tryd.underlying34 rfl iBnd hw.1) ?_
      refine HV_of (fun w' _ => run_fo (off := 7) (by kernel_rfl) _ w') (HV_of (v := e.ls) (fun w' hw => run_ld1 uSts rfl (by rw [add_pl, cell_blk hw.2]; rfl)) ⟨?_, ?_⟩)
      · refine lx wd (Mod.refl _ _) _ ⟨hSd _ (Mod.refl _ _), ?_⟩
        refine CK_st Tryd.func24 rfl rfl (ihE wd _ hels (by omega) mE) ?_
        rintro _ w6 ⟨rfl, hm6⟩
        refine ⟨hSd _ hm6, ?_⟩
        refine CK_st Tryd.func69 rfl rfl (Or_ok _ _) ?_
        rintro _ w7 ⟨rfl, hm7⟩
        refine ⟨hSd _ (hm6.trans hm7), fin w7 _ _ _ (hm6.trans hm7) rfl rfl fun u w9 h5 h4 hm => end_ _ w9 ?_ ?_ h5 h4 hm⟩
        · exact p4
        · exact p5
      · refine CK_st Tryd.func24 rfl rfl (ihE wd _ hels (by omega) mE) ?_
        rintro _ w6 ⟨rfl, hm6⟩
        refine ⟨hSd _ hm6, ?_, ?_⟩
        · refine lx w6 hm6 _ ⟨hSd _ hm6, ?_⟩
          refine CK_st Tryd.func69 rfl rfl (Or_ok _ _) ?_
          rintro _ w7 ⟨rfl, hm7⟩
          refine ⟨hSd _ (hm6.trans hm7), fin w7 _ _ _ (hm6.trans hm7) rfl rfl fun u w9 h5 h4 hm => end_ _ w9 ?_ ?_ h5 h4 hm⟩
          · exact p4
          · exact p5
        · refine CK_st Tryd.func69 rfl rfl (Or_ok _ _) ?_
          rintro _ w7 ⟨rfl, hm7⟩
          refine ⟨hSd _ (hm6.trans hm7), ?_⟩
          refine lx w7 (hm6.trans hm7) _ ⟨hSd _ (hm6.trans hm7), ?_⟩
          refine fin w7 _ _ _ (hm6.trans hm7) rfl rfl fun u w9 h5 h4 hm => end_ _ w9 ?_ ?_ h5 h4 hm
          · exact p4
          · exact p5
    have r6 : ∀ (ρ' : Sl) (t : Int), e.op = 5 → ρ' 9 = .int .i64 t → t = (if e.turns = 0 then n else e.turns) → ρ' 0 = .int .i64 n → ρ' 3 = pt b3 → ρ' 4 = pt b4 → ρ' 5 = pt b5 →
        sx fn_ Tryd.prog 74 bound_size_one_R6 (blkK 2 (seqK (sx fn_ Tryd.prog 74 bound_size_one_R4 (retK Tryd.prog [ResultVar.cell 4 34] fun v w' => v = (e.bd n).v ∧ Mod none_ w w')) (retK Tryd.prog [ResultVar.cell 4 34] fun v w' => v = (e.bd n).v ∧ Mod none_ w w'))) ρ' w4 := by
      intro ρ' t k5 p9 ht p0 p3 p4 p5
      have ht2 : 0 ≤ t ∧ t ≤ 1000 := by rw [ht]; split <;> omega
      rw [bound_size_one_R6_eq]
      unfold bound_size_one_R6_F
      rw [p0, p9]
      refine d6.vs p3 fun _ => ?_
      refine CK_st Tryd.func24 rfl rfl (ihB w4 _ hok4.body (by omega) mB) ?_
      rintro _ w5 ⟨rfl, hm5⟩
      rw [build_ok (bBd1 9)]
      have i1 : ((St.bdF n zBd e.body).and (Bd.mk 9 0 0)).In 1048586 := by
        obtain ⟨⟨x1, x2⟩, ⟨x3, x4⟩, x5, x6⟩ := hB
        unfold Bd.and
        refine ⟨⟨?_, ?_⟩, ⟨?_, ?_⟩, ?_, ?_⟩ <;> dsimp only <;> omega
      have i2 := i1.times ht2
      have i3 : ((((St.bdF n zBd e.body).and (Bd.mk 9 0 0)).times t).and (Bd.mk 6 0 0)).In 1048586006 := by
        obtain ⟨⟨x1, x2⟩, ⟨x3, x4⟩, x5, x6⟩ := i2
        unfold Bd.and at *
        refine ⟨⟨?_, ?_⟩, ⟨?_, ?_⟩, ?_, ?_⟩ <;> dsimp only at * <;> omega
      refine CK_st Tryd.func25 rfl rfl (And_ok (b := Bd.mk 9 0 0) i1 (by decide)) ?_
      rintro _ w6 ⟨rfl, hm6⟩
      refine CK_st Tryd.func70 rfl rfl (Times_ok i2 (by decide)) ?_
      rintro _ w7 ⟨rfl, hm7⟩
      rw [build_ok (bBd1 6)]
      refine CK_st Tryd.func25 rfl rfl (And_ok (b := Bd.mk 6 0 0) i3 (by decide)) ?_
      rintro _ w8 ⟨rfl, hm8⟩
      have hm48 := ((hm5.trans hm6).trans hm7).trans hm8
      have hres : ((((St.bdF n zBd e.body).and (Bd.mk 9 0 0)).times t).and (Bd.mk 6 0 0)) = e.bdO n := by
        unfold St.bdO oneB
        rw [if_neg (by omega), if_pos k5, ← ht]
        simp [Bd.and, Bd.times]
      refine stS (b := b5) (old := (Bd.mk (1 + Ex.stepsL e.exprs) 0 0).cells.toArray) (cs := (e.bdO n).cells.toArray) p5 (by rw [hres]; rfl) iBnd rfl (bd_one _) (hm48.blk hb54 id) fun w9 hb9 hm9 _ => ?_
      rw [bk_n, sq_n]
      refine r4 _ w9 _ ?_ ?_ hb9 (hm9.blk (hm48.blk h24' id) (by omega)) rfl ((hm04.trans hm48).then hm9 fun i hi q => absurd q (by omega))
      · exact p4
      · exact p5
    refine d0.vs q3 fun _ => ?_
    refine BKeqI (a := e.op) (b := 3) rfl rfl (fun k3 => condT ?_) (fun k3 => condF ?_)
    · refine d6.vs ?_ fun _ => ?_
      · exact q3
      refine CK_eq (bs := [.int .i64 n, e.bs]) rfl ?_ (CK_st Tryd.func24 rfl rfl (ihB w4 _ hok4.body (by omega) mB) ?_)
      · exact congrArg (fun z => [z, e.bs]) q0
      rintro _ w5 ⟨rfl, hm5⟩
      refine lcl_k (cs := (St.bdF n zBd e.body).cells.toArray) zBnd _ iBnd rfl (bd_one _) fun w6 hb6 hm6 hz6 => ?_
      have hm46 := hm5.trans hm6
      have l5 : b5 < w5.heap.size := by have := X.blk_lt hb54; have := hm5.size; omega
      generalize w5.heap.size = b8 at *
      obtain ⟨A7, c7, hs7, _⟩ := reads_cap hok4.els.1
      have g3 := hm46.blk h14' id
      have d7 : FAt Tryd.prog w6 45 7 ⟨b3, 0, none⟩ 29 (.slice A7 e.els.length c7) := FAt.mk' (off := 7) (by kernel_rfl) uSts rfl (by rw [add_pl, cell_blk g3, ← hs7]; rfl)
      refine d7.vs ?_ fun _ => ?_
      · exact q3
      rw [len29]
      refine BKgtr (a := e.els.length) (b := 0) rfl rfl ?_
      by_cases hle : 0 < e.els.length
      · rw [show decide ((0 : Int) < (e.els.length : Int)) = true by rw [decide_eq_true_eq]; omega]
        refine condT ?_
        refine (bdF hb6).1.vk' fun _ => ?_
        have := hB.1
        refine BKadd (a := (St.bdF n zBd e.body).s) (b := 1) rfl rfl (by omega) (by omega) ?_
        refine foBd (j := 0) (by decide) rfl ?_
        refine bdSt hb6 (j := 0) (by decide) rfl fun w7 hb7 hm7 => ?_
        rw [bd_set0] at hb7
        refine r5 _ w7 b8 _ k3 (by rw [if_pos hle]) hb7 (by omega) (by omega) (Or.inr trivial) (hm7.blk (hm46.blk hb54 id) (by omega)) (hm7.blk (hm46.blk h24' id) (by omega)) (hm7.blk g3 (by omega)) ((hm04.trans hm46).then hm7 fun i hi q => absurd q (by omega)) ?_ ?_ ?_ ?_ ?_
        · exact q0
        · exact q3
        · exact q4
        · exact q5
        · rfl
      · rw [show decide ((0 : Int) < (e.els.length : Int)) = false by rw [decide_eq_false_iff_not]; omega]
        refine condF ?_
        refine r5 _ w6 b8 (St.bdF n zBd e.body) k3 (by rw [if_neg hle, Int.add_zero]) hb6 (by omega) (by omega) (Or.inr trivial) (hm46.blk hb54 id) (hm46.blk h24' id) g3 (hm04.trans hm46) ?_ ?_ ?_ ?_ ?_
        · exact q0
        · exact q3
        · exact q4
        · exact q5
        · rfl
    refine BKeqI (a := e.op) (b := 5) rfl rfl (fun k5 => condT ?_) (fun k5 => condF ?_)
    · refine d4.vs ?_ fun _ => ?_
      · exact q3
      refine BKeqI (a := e.turns) (b := 0) rfl rfl (fun kt => condT ?_) (fun kt => condF ?_)
      · refine r6 _ n k5 ?_ (by rw [if_pos kt]) ?_ ?_ ?_ ?_
        · exact q0
        · exact q0
        · exact q3
        · exact q4
        · exact q5
      · refine r6 _ e.turns k5 rfl (by rw [if_neg kt]) ?_ ?_ ?_ ?_
        · exact q0
        · exact q3
        · exact q4
        · exact q5
    refine BKeqI (a := e.op) (b := 8) rfl rfl (fun k8 => condT ?_) (fun k8 => condF ?_)
    · refine foBd (j := 1) (by decide) (b := b5) ?_ ?_
      · exact q5
      refine bdSt hb54 (j := 1) (by decide) rfl fun w5 hb5' hm5 => ?_
      rw [bd_set1] at hb5'
      have g3 := hm5.blk h14' (by omega)
      refine ldS (b := b3) (cs := e.cells.toArray) ?_ Tryd.underlying45 rfl iSt g3 ?_
      · exact q3
      have hm05 : Mod none_ w w5 := hm04.then hm5 fun i hi q => absurd q (by omega)
      refine CK_st Tryd.func71 rfl rfl (Decides_ok (hok.mod hm05)) ?_
      rintro _ w6 ⟨rfl, hm6⟩
      have g56 := hm6.blk hb5' id
      have g46 := hm6.blk (hm5.blk h24' (by omega)) id
      refine caseC (fun hd => ?_) (fun hd => ?_)
      · refine foBd (j := 2) (by decide) (b := b5) ?_ ?_
        · exact q5
        refine bdSt g56 (j := 2) (by decide) rfl fun w7 hb7 hm7 => ?_
        rw [bd_set2] at hb7
        refine r4 _ w7 _ ?_ ?_ hb7 (hm7.blk g46 (by omega)) ?_ ((hm05.trans hm6).then hm7 fun i hi q => absurd q (by omega))
        · exact q4
        · exact q5
        · unfold St.bdO oneB
          rw [if_neg k3, if_neg k5, if_pos k8, hd]; rfl
      · refine r4 _ w6 _ ?_ ?_ g56 g46 ?_ (hm05.trans hm6)
        · exact q4
        · exact q5
        · unfold St.bdO oneB
          rw [if_neg k3, if_neg k5, if_pos k8, hd]; rfl
    · refine r4 _ w4 _ ?_ ?_ hb54 h24' ?_ hm04
      · exact q4
      · exact q5
      · unfold St.bdO oneB
        rw [if_neg k3, if_neg k5, if_neg k8]
theorem all_of {n : Int} (hn : 1 ≤ n ∧ n ≤ 64) : ∀ e : St, AllOk n e.body ∧ AllOk n e.els := by
  intro e
  induction e using St.ind with
  | h e ih1 ih2 => exact ⟨all_row hn fun a ha => one_of hn (ih1 a ha).1 (ih1 a ha).2, all_row hn fun a ha => one_of hn (ih2 a ha).1 (ih2 a ha).2⟩
theorem All_ok {n : Int} (hn : 1 ≤ n ∧ n ≤ 64) (l : List St) : AllOk n l := all_row hn fun a _ => one_of hn (all_of hn a).1 (all_of hn a).2
end Go.Proofs.YtmgmlnhahofipaaDoor.Tr
/-! What statements take: the chapter's. -/
set_option linter.unusedVariables false
set_option linter.unusedSimpArgs false
set_option maxRecDepth 4000
namespace Go.Proofs.YtmgmlnhahofipaaDoor.Tr
open Go Go.X Go.RowKit Go.Proofs.YtmgmlnhahofipaaDoor.XH Go.Proofs.YtmgmlnhahofipaaDoor.XK

theorem HixEx {C : World → Prop} {s : Value} {l : List Ex} {i : Nat} {e : Ex} {K : Value → Prop} {w0 : World} (hw0 : C w0) (h : ∀ w, C w → ExsOk w s l) (hi : l[i]? = some e) (hk : ∀ a, (∀ w, C w → ∀ j u, e.cells[j]? = some u → w.cell? (a.add j) = some u) → K (.pointer (some a))) :
    HK Tryd.prog C (do pure (Next.value (← Instr.indexAt 22 s (.int .i64 (i : Int))))) K := by
  have hlt : i < l.length := (List.getElem?_eq_some_iff.1 hi).1
  obtain ⟨hl, A, c, hs, hc, hr⟩ := (h w0 hw0).1
  obtain ⟨a, ha | q⟩ := rd_cell (size := 6) (hs ▸ (h w0 hw0).1) hlt
  · subst ha
    subst hs
    refine HV_of (fun w _ => run_ixa uExs cEx (by omega) (by omega) w) (hk _ fun w hw j u hu => ?_)
    obtain ⟨_, A', c', hs', _, hr'⟩ := (h w hw).1
    cases hs'
    have hj : j < 5 + 1 := (List.getElem?_eq_some_iff.1 hu).1
    obtain ⟨a', ha', hcell⟩ := hr' (i * 6 + j) u (by rw [fl_get (k := 5 + 1) Ex.cells_len hi hj]; exact hu)
    cases ha'
    rw [add_add, show ((i : Int).toNat) = i by omega]
    exact hcell
  · omega
def StmtR (n : Int) (e : St) : Prop := ∀ w : World, e.Ok w → e.sz ≤ 1099511627776 → e.may = true → Rt Tryd.prog 49 #[.agg e.cells.toArray, .int .i64 n] w fun v w' => v = (e.bd n).v ∧ Mod none_ w w'
def StmtsR (n : Int) (l : List St) : Prop := ∀ (w : World) (s : Value), StsOk w s l → St.szL l ≤ 1099511627776 → (∀ a ∈ l, a.may = true) → Rt Tryd.prog 27 #[s, .int .i64 n] w fun v w' => v = (St.bdF n zBd l).v ∧ Mod none_ w w'
theorem stmtsR_row {n : Int} (hn : 1 ≤ n ∧ n ≤ 64) {l : List St} (ih : ∀ a ∈ l, StmtR n a) : StmtsR n l := by
  intro w s hok hsz hmay
  obtain ⟨A, c, hs, _⟩ := reads_cap hok.1
  have hlen := St.len_sz l
  refine dispatcherref09_stmts_calls ?_
  unfold dispatcherref09_stmts_F
  refine al_k zBnd rfl _ fun w1 hb1 hm1 hz1 => ?_
  refine al_k zBnd rfl _ fun w2 hb2 hm2 hz2 => ?_
  have hb12 := hm2.blk hb1 id
  have hm02 := hm1.trans hm2
  generalize hb4 : w.heap.size = b4 at *
  generalize hb5 : w1.heap.size = b5 at *
  have hin : ∀ m : Nat, (St.bdF n zBd (l.take m)).In 1048577 := fun m => bdF_in (fun a ha => by
    obtain ⟨i, hi⟩ := List.getElem?_of_mem (List.mem_of_mem_take ha)
    have := St.szL_at hi
    exact (bd_in hn a (hmay a (List.mem_of_mem_take ha)) (by omega)).1) (zBd_in _ (by decide))
  refine W_loop dispatcherref09_stmts_L0_ok (fun ρ w' => ∃ m : Nat, m ≤ l.length ∧ ρ 6 = .int .i64 m ∧ ρ 0 = .slice A l.length c ∧ ρ 1 = .int .i64 n ∧ ρ 4 = pt b4 ∧ ρ 5 = pt b5 ∧ w'.heap[b5]? = some (.cells (St.bdF n zBd (l.take m)).cells.toArray 34 (0, 0)) ∧ Mod (fun i => i = b5) w2 w') (fun ρ _ => l.length - (intOf (ρ 6)).toNat)
    ⟨0, Nat.zero_le _, rfl, hs, rfl, rfl, rfl, hb2, Mod.refl _ _⟩ ?_
  rintro ρ w3 ⟨m, hmn, h6, h0, h1, h4, h5, hb53, hm3⟩
  have hm03 : Mod none_ w w3 := hm02.then hm3 fun i hi q => absurd q (by omega)
  rw [dispatcherref09_stmts_L0_eq]
  unfold dispatcherref09_stmts_L0_F
  rw [h0, h6, h1, h5, len29]
  refine BKlss (a := m) (b := l.length) rfl rfl ?_
  by_cases hlt : m < l.length
  · rw [show decide ((m : Int) < (l.length : Int)) = true by rw [decide_eq_true_eq]; omega]
    refine condT ?_
    have hx : l[m]? = some l[m] := List.getElem?_eq_getElem hlt
    have hmem : l[m] ∈ l := List.getElem_mem hlt
    have hok3 := hok.mod hm03
    rw [hs] at hok3
    have hsn := St.szL_at hx
    refine ixSt hok3 hx fun y => ?_
    refine CK_st Tryd.func49 rfl rfl (ih _ hmem w3 (hok3.at hx) (by omega) (hmay _ hmem)) ?_
    rintro _ w4 ⟨rfl, hm4⟩
    refine lcl_k (cs := (l[m].bd n).cells.toArray) zBnd _ iBnd rfl (bd_one _) fun w5 hb7 hm5 hz5 => ?_
    have hbd := (bd_in hn l[m] (hmay _ hmem) (by omega)).1
    have hsum := (hin m).and hbd
    have g5 := hm5.blk (hm4.blk hb53 id) id
    have l5 : b5 < w4.heap.size := by have := X.blk_lt hb53; have := hm4.size; omega
    have hm25 : Mod (fun i => i = b5) w2 w5 := (hm3.trans (up0 hm4)).trans (up0 hm5)
    generalize w4.heap.size = b7 at *
    generalize hBm : St.bdF n zBd (l.take m) = Bm at *
    generalize hbm : l[m].bd n = bm at *
    refine (bdF g5).1.vk' fun _ => (bdF hb7).1.vk' fun _ => ?_
    refine BKadd (a := Bm.s) (b := bm.s) rfl rfl (by have := hsum.1; unfold Bd.and at this; dsimp only at this; omega) (by have := hsum.1; unfold Bd.and at this; dsimp only at this; omega) ?_
    refine foBd (j := 0) (by decide) rfl ?_
    refine bdSt g5 (j := 0) (by decide) rfl fun w6 g6 hm6 => ?_
    rw [bd_set0] at g6
    have k7 := hm6.blk hb7 (by omega)
    refine (bdF g6).2.1.vk' fun _ => (bdF k7).2.1.vk' fun _ => ?_
    refine BKadd (a := Bm.c) (b := bm.c) rfl rfl (by have := hsum.2.1; unfold Bd.and at this; dsimp only at this; omega) (by have := hsum.2.1; unfold Bd.and at this; dsimp only at this; omega) ?_
    refine foBd (j := 1) (by decide) rfl ?_
    refine bdSt g6 (j := 1) (by decide) rfl fun w7 g7 hm7 => ?_
    rw [bd_set1] at g7
    have k8 := hm7.blk k7 (by omega)
    refine (bdF g7).2.2.vk' fun _ => (bdF k8).2.2.vk' fun _ => ?_
    refine BKadd (a := Bm.d) (b := bm.d) rfl rfl (by have := hsum.2.2; unfold Bd.and at this; dsimp only at this; omega) (by have := hsum.2.2; unfold Bd.and at this; dsimp only at this; omega) ?_
    refine foBd (j := 2) (by decide) rfl ?_
    refine bdSt g7 (j := 2) (by decide) rfl fun w8 g8 hm8 => ?_
    rw [bd_set2] at g8
    have g8' : w8.heap[b5]? = some (.cells (Bm.and bm).cells.toArray 34 (0, 0)) := g8
    refine ldS (b := b5) (cs := (Bm.and bm).cells.toArray) rfl Tryd.underlying34 rfl iBnd g8' ?_
    refine CK_st Tryd.func50 rfl rfl (CutR_ok (Bm.and bm)) ?_
    rintro _ w9 ⟨rfl, hm9⟩
    refine stS (b := b5) (old := (Bm.and bm).cells.toArray) (cs := ((Bm.and bm).cut).cells.toArray) rfl rfl iBnd rfl (bd_one _) (hm9.blk g8' id) fun w10 g10 hm10 _ => ?_
    refine BKadd (a := m) (b := 1) rfl rfl (by omega) (by omega) ?_
    refine ⟨⟨m + 1, hlt, rfl, ?_, ?_, ?_, ?_, ?_, ((((hm25.trans hm6).trans hm7).trans hm8).trans (up0 hm9)).trans hm10⟩, ?_⟩
    · exact h0
    · exact h1
    · exact h4
    · exact h5
    · rw [List.take_add_one, hx, Option.toList_some, St.bdF_snoc, hBm, hbm]; exact g10
    · show l.length - (intOf (Value.int .i64 ((m : Int) + 1))).toNat < _
      simp only [intOf]; omega
  · obtain rfl : m = l.length := by omega
    rw [show decide (((l.length : Nat) : Int) < (l.length : Int)) = false by simp]
    refine condF ?_
    rw [List.take_length] at hb53
    rw [sq_x, bk_x, sq_n, dispatcherref09_stmts_R1_eq]
    unfold dispatcherref09_stmts_R1_F
    refine ldS (b := b5) (cs := (St.bdF n zBd l).cells.toArray) ?_ Tryd.underlying34 rfl iBnd hb53 ?_
    · exact h5
    refine stS (b := b4) (old := zBd.cells.toArray) (cs := (St.bdF n zBd l).cells.toArray) ?_ rfl iBnd rfl (bd_one _) (hm3.blk hb12 (by omega)) fun w4 hb4' hm4 _ => ?_
    · exact h4
    refine rtCell (b := b4) (cs := (St.bdF n zBd l).cells.toArray) ?_ Tryd.underlying34 rfl iBnd hb4' ⟨rfl, hm03.then hm4 fun i hi q => absurd q (by omega)⟩
    exact h4
theorem stmtR_of {n : Int} (hn : 1 ≤ n ∧ n ≤ 64) {e : St} (ihB : StmtsR n e.body) (ihE : StmtsR n e.els) : StmtR n e := by
  intro w hok hsz hmay
  obtain ⟨A, c, hs, _⟩ := reads_cap hok.exprs.1
  obtain ⟨hA, hO, hB, hE⟩ := bd_in hn e hmay hsz
  obtain ⟨mX, mB, mE⟩ := may_parts hmay
  have htn := may_turns hmay
  rw [St.sz_eq] at hsz
  have hlx := Ex.len_sz e.exprs
  have hstx := Ex.stepsL_sz e.exprs
  refine dispatcherref09_stmt_calls ?_
  unfold dispatcherref09_stmt_F
  refine box_k (cs := e.cells.toArray) rfl fun w1 hb1 hm1 hz1 => ?_
  refine al_k zBnd rfl _ fun w2 hb2 hm2 hz2 => ?_
  refine al_k zBnd rfl _ fun w3 hb3 hm3 hz3 => ?_
  have h13 := (hm2.trans hm3).blk hb1 id
  have h23 := hm3.blk hb2 id
  have hm03 := (hm1.trans hm2).trans hm3
  have hf1 : w.heap.size < w1.heap.size := by omega
  have hf2 : w1.heap.size < w2.heap.size := by omega
  clear hm1 hb1 hm2 hb2 hm3 hz1 hz2 hz3
  generalize hE3 : w.heap.size = b3 at *
  generalize w1.heap.size = b4 at *
  generalize w2.heap.size = b5 at *
  -- the end
  have r4 : ∀ (ρ' : Sl) (w' : World) (b : Bd), ρ' 4 = pt b4 → ρ' 5 = pt b5 → w'.heap[b5]? = some (.cells b.cells.toArray 34 (0, 0)) → w'.heap[b4]? = some (.cells zBd.cells.toArray 34 (0, 0)) → b = e.bdO n → Mod none_ w w' →
      sx fn_ Tryd.prog 109 dispatcherref09_stmt_R4 (retK Tryd.prog [ResultVar.cell 4 34] fun v w' => v = (e.bd n).v ∧ Mod none_ w w') ρ' w' := by
    intro ρ' w' b q4 q5 g5 g4 hb hm
    subst hb
    rw [dispatcherref09_stmt_R4_eq]
    unfold dispatcherref09_stmt_R4_F
    refine ldS (b := b5) (cs := (e.bdO n).cells.toArray) q5 Tryd.underlying34 rfl iBnd g5 ?_
    refine CK_st Tryd.func50 rfl rfl (CutR_ok _) ?_
    rintro _ w7 ⟨rfl, hm7⟩
    refine stS (b := b4) (old := zBd.cells.toArray) (cs := ((e.bdO n).cut).cells.toArray) q4 rfl iBnd rfl (bd_one _) (hm7.blk g4 id) fun w9 hb9 hm9 _ => ?_
    refine rtCell (b := b4) (cs := ((e.bdO n).cut).cells.toArray) ?_ Tryd.underlying34 rfl iBnd hb9 ⟨?_, (hm.trans hm7).then hm9 fun i hi q => absurd q (by omega)⟩
    · exact q4
    · rw [St.bd_eq]; rfl
  refine W_loop dispatcherref09_stmt_L0_ok (fun ρ w' => ∃ m : Nat, m ≤ e.exprs.length ∧ ρ 6 = .int .i64 m ∧ ρ 2 = pt b3 ∧ ρ 4 = pt b4 ∧ ρ 5 = pt b5 ∧ ρ 1 = .int .i64 n ∧ w'.heap[b5]? = some (.cells (Bd.mk (Ex.stepsL (e.exprs.take m)) 0 0).cells.toArray 34 (0, 0)) ∧ Mod (fun i => i = b5) w3 w') (fun ρ _ => e.exprs.length - (intOf (ρ 6)).toNat)
    ⟨0, Nat.zero_le _, rfl, rfl, rfl, rfl, rfl, (by rw [List.take_zero]; exact hb3), Mod.refl _ _⟩ ?_
  rintro ρ w4 ⟨m, hmn, h6, q2, q4, q5, q1, hb54, hm4⟩
  have hm04 : Mod none_ w w4 := hm03.then hm4 fun i hi q => by omega
  have h14' := hm4.blk h13 (by omega)
  have h24' := hm4.blk h23 (by omega)
  have d5 : FAt Tryd.prog w4 45 5 ⟨b3, 0, none⟩ 22 (.slice A e.exprs.length c) := FAt.mk' (off := 5) (by kernel_rfl) uExs rfl (by rw [add_pl, cell_blk h14', ← hs]; rfl)
  rw [dispatcherref09_stmt_L0_eq]
  unfold dispatcherref09_stmt_L0_F
  rw [h6]
  refine d5.vs q2 fun _ => ?_
  rw [len22]
  refine BKlss (a := m) (b := e.exprs.length) rfl rfl ?_
  by_cases hlt : m < e.exprs.length
  · rw [show decide ((m : Int) < (e.exprs.length : Int)) = true by rw [decide_eq_true_eq]; omega]
    refine condT ?_
    have hx : e.exprs[m]? = some e.exprs[m] := List.getElem?_eq_getElem hlt
    have hmem : e.exprs[m] ∈ e.exprs := List.getElem_mem hlt
    have hsn := Ex.szL_at hx
    have t1 := Ex.stepsL_sz (e.exprs.take m)
    have t2 := Ex.steps_sz e.exprs[m]
    have e2 : ∀ (KK : Exit → Sl → World → Prop), (∀ (ρ3 : Sl) (w9 : World), ρ3 6 = .int .i64 m → ρ3 2 = pt b3 → ρ3 4 = pt b4 → ρ3 5 = pt b5 → ρ3 1 = .int .i64 n → w9.heap[b5]? = some (.cells (Bd.mk (Ex.stepsL (e.exprs.take m) + e.exprs[m].steps) 0 0).cells.toArray 34 (0, 0)) → Mod (fun i => i = b5) w4 w9 → KK .normal ρ3 w9) →
        ∀ (ρ2 : Sl), ρ2 6 = .int .i64 m → ρ2 2 = pt b3 → ρ2 4 = pt b4 → ρ2 5 = pt b5 → ρ2 1 = .int .i64 n → W fn_ Tryd.prog 109 dispatcherref09_stmt_R2 KK ρ2 w4 := by
      intro KK kN ρ2 p6 p2 p4 p5 p1
      let S : World → Prop := fun w' => Mod none_ w w' ∧ w'.heap[b3]? = some (.cells e.cells.toArray 45 (0, 0))
      have hS0 : S { w4 with drawn := w4.drawn + 1 } := ⟨hm04.drawn _, h14'⟩
      refine dispatcherref09_stmt_R2_held (D := []) S hS0 ?_
      unfold dispatcherref09_stmt_R2_H
      have hbd5 : ({ w4 with drawn := w4.drawn + 1 } : World).heap[b5]? = some (.cells (Bd.mk (Ex.stepsL (e.exprs.take m)) 0 0).cells.toArray 34 (0, 0)) := hb54
      have hmd : Mod (fun i => i = b5) w4 { w4 with drawn := w4.drawn + 1 } := (Mod.refl _ w4).drawn _
      generalize ({ w4 with drawn := w4.drawn + 1 } : World) = wd at hS0 hbd5 hmd ⊢
      rw [p5, p2, p6]
      have hSd : ∀ w', Mod none_ wd w' → S w' := fun w' hw => ⟨hS0.1.trans hw, hw.blk hS0.2 id⟩
      have hrow : ∀ w', S w' → ExsOk w' (.slice A e.exprs.length c) e.exprs := fun w' hw => by rw [← hs]; exact hok.exprs.mod hw.1
      have ad : ∀ w6 : World, Mod none_ wd w6 → ∀ (KN : Value → Value → World → Prop), (∀ u v w9, w9.heap[b5]? = some (.cells (Bd.mk (Ex.stepsL (e.exprs.take m) + e.exprs[m].steps) 0 0).cells.toArray 34 (0, 0)) → Mod (fun i => i = b5) w4 w9 → KN u v w9) →
          HK Tryd.prog S (do pure (Next.value (← (do eqGuard .add 3 (.tmp 18) (.tmp 24) (.int .i64 (Ex.stepsL (e.exprs.take m))) (.int .i64 e.exprs[m].steps); binOp .add 3 (.int .i64 (Ex.stepsL (e.exprs.take m))) (.int .i64 e.exprs[m].steps))))) fun x22 => HK Tryd.prog S (do pure (Next.value (← Instr.fieldAt 34 (pt b5) 0))) fun x23 => UK Tryd.prog (Instr.storeAt 3 x23 x22) w6 fun _ w => S w ∧ KN x22 x23 w := by
        intro w6 hm6 KN hk
        refine HB_of (v := .int .i64 (Ex.stepsL (e.exprs.take m) + e.exprs[m].steps)) (fun _ => rfl) (fun w => by have := wrap_i (n := (Ex.stepsL (e.exprs.take m) : Int) + (e.exprs[m].steps : Int)) (by omega) (by omega); simp [go_sem, this]) ?_
        refine HV_of (fun w' _ => run_fo (off := 0) (by kernel_rfl) _ w') ?_
        rw [add_pl]
        refine bdSt (hm6.blk hbd5 id) (j := 0) (by decide) rfl fun w9 hb9 hm9 => ?_
        rw [bd_set0] at hb9
        have h6 := hSd w6 hm6
        exact ⟨⟨h6.1.then hm9 fun i hi q => absurd q (by omega), hm9.blk h6.2 (by omega)⟩, hk _ _ w9 hb9 ((hmd.trans (up0 hm6)).trans hm9)⟩
      refine HV_of (fun w' _ => run_fo (off := 0) (by kernel_rfl) _ w') ?_
      refine HV_of (fun w' _ => run_fo (off := 5) (by kernel_rfl) _ w') (HV_of (v := .slice A e.exprs.length c) (fun w' hw => run_ld1 uExs rfl (by rw [add_pl, cell_blk hw.2, ← hs]; rfl)) ?_)
      refine HixEx (w0 := wd) hS0 hrow hx fun a ha => ?_
      refine HV_of (v := .agg e.exprs[m].cells.toArray) (fun w' hw => run_ldA (cs := e.exprs[m].cells) Tryd.underlying24 rfl iEx (ha w' hw)) ⟨?_, ?_⟩
      · refine ld1 (v := .int .i64 (Ex.stepsL (e.exprs.take m))) uI rfl (by rw [add_pl, cell_blk hbd5]; rfl) ⟨hS0, ?_⟩
        refine CK_st Tryd.func21 rfl rfl (exprR_ok _ wd ((hrow wd hS0).at hx) (by omega) (mX _ hmem)) ?_
        rintro _ w6 ⟨rfl, hm6⟩
        refine ⟨hSd w6 hm6, ad w6 hm6 _ fun u v w9 hb9 hm9 => kN _ w9 ?_ ?_ ?_ ?_ ?_ hb9 hm9⟩
        · exact p6
        · exact p2
        · exact p4
        · exact p5
        · exact p1
      · refine CK_st Tryd.func21 rfl rfl (exprR_ok _ wd ((hrow wd hS0).at hx) (by omega) (mX _ hmem)) ?_
        rintro _ w6 ⟨rfl, hm6⟩
        refine ⟨hSd w6 hm6, ?_⟩
        refine ld1 (v := .int .i64 (Ex.stepsL (e.exprs.take m))) uI rfl (by rw [add_pl, cell_blk (hm6.blk hbd5 id)]; rfl) ⟨hSd w6 hm6, ?_⟩
        refine ad w6 hm6 _ fun u v w9 hb9 hm9 => kN _ w9 ?_ ?_ ?_ ?_ ?_ hb9 hm9
        · exact p6
        · exact p2
        · exact p4
        · exact p5
        · exact p1
    refine e2 _ (fun ρ3 w9 p6 p2 p4 p5 p1 hb9 hm9 => ?_) _ ?_ ?_ ?_ ?_ ?_
    · rw [bk_n, sq_n, dispatcherref09_stmt_R3_eq]
      unfold dispatcherref09_stmt_R3_F
      refine BKadd (a := m) (b := 1) p6 rfl (by omega) (by omega) ?_
      refine ⟨⟨m + 1, hlt, rfl, p2, p4, p5, p1, ?_, hm4.trans hm9⟩, ?_⟩
      · rw [List.take_add_one, hx, Option.toList_some, Ex.stepsL_snoc]
        rw [show ((Ex.stepsL (e.exprs.take m) + e.exprs[m].steps : Nat) : Int) = Ex.stepsL (e.exprs.take m) + e.exprs[m].steps by omega]
        exact hb9
      · show e.exprs.length - (intOf (Value.int .i64 ((m : Int) + 1))).toNat < _
        simp only [intOf]; omega
    · exact h6
    · exact q2
    · exact q4
    · exact q5
    · exact q1
  · obtain rfl : m = e.exprs.length := by omega
    rw [show decide (((e.exprs.length : Nat) : Int) < (e.exprs.length : Int)) = false by simp]
    refine condF ?_
    rw [List.take_length] at hb54
    rw [sq_x, bk_x, sq_n, dispatcherref09_stmt_R1_eq]
    unfold dispatcherref09_stmt_R1_F
    have hok4 := hok.mod hm04
    have d6 : FAt Tryd.prog w4 45 6 ⟨b3, 0, none⟩ 29 e.bs := FAt.mk' (off := 6) (by kernel_rfl) uSts rfl (by rw [add_pl, cell_blk h14']; rfl)
    refine d6.vs ?_ fun _ => ?_
    · exact q2
    refine CK_eq (bs := [e.bs, .int .i64 n]) rfl ?_ (CK_st Tryd.func27 rfl rfl (ihB w4 _ hok4.body (by omega) mB) ?_)
    · exact congrArg (fun z => [e.bs, z]) q1
    rintro _ w5 ⟨rfl, hm5⟩
    refine lcl_k (cs := (St.bdF n zBd e.body).cells.toArray) zBnd _ iBnd rfl (bd_one _) fun w6 hb6 hm6 hz6 => ?_
    have hm46 := hm5.trans hm6
    have l5 : b5 < w5.heap.size := by have := X.blk_lt hb54; have := hm5.size; omega
    have l6 : w6.heap.size = w5.heap.size + 1 := hz6
    generalize w5.heap.size = b7 at *
    have g36 := hm46.blk h14' id
    have d7 : FAt Tryd.prog w6 45 7 ⟨b3, 0, none⟩ 29 e.ls := FAt.mk' (off := 7) (by kernel_rfl) uSts rfl (by rw [add_pl, cell_blk g36]; rfl)
    refine d7.vs ?_ fun _ => ?_
    · exact q2
    refine CK_eq (bs := [e.ls, .int .i64 n]) rfl ?_ (CK_st Tryd.func27 rfl rfl (ihE w6 _ (hok4.mod hm46).els (by omega) mE) ?_)
    · exact congrArg (fun z => [e.ls, z]) q1
    rintro _ w7 ⟨rfl, hm7⟩
    refine lcl_k (cs := (St.bdF n zBd e.els).cells.toArray) zBnd _ iBnd rfl (bd_one _) fun w8 hb8 hm8 hz8 => ?_
    have l7 : b7 < w7.heap.size := by have := hm7.size; omega
    generalize w7.heap.size = b8 at *
    have hm68 := hm7.trans hm8
    have hm48 := hm46.trans hm68
    have hm08 := hm04.trans hm48
    have g7 := hm68.blk hb6 id
    have g5 := hm48.blk hb54 id
    have g4 := hm48.blk h24' id
    have g3 := hm48.blk h14' id
    have hok8 := hok.mod hm08
    have d0 : FAt Tryd.prog w8 45 0 ⟨b3, 0, none⟩ 5 (.int .u8 e.op) := FAt.mk' (off := 0) (by kernel_rfl) uU8 rfl (by rw [add_pl, cell_blk g3]; rfl)
    have d4 : FAt Tryd.prog w8 45 4 ⟨b3, 0, none⟩ 3 (.int .i64 e.turns) := FAt.mk' (off := 4) (by kernel_rfl) uI rfl (by rw [add_pl, cell_blk g3]; rfl)
    clear hm5 hm6 hm7 hm8 hb6 g36 hz6 hz8 hm46 hm68
    have hbO : e.bdO n = oneB n e.op e.turns (Ex.stepsL e.exprs) e.els.length e.dec (St.bdF n zBd e.body) (St.bdF n zBd e.els) := rfl
    generalize St.bdF n zBd e.body = B at *
    generalize St.bdF n zBd e.els = E at *
    have r5 : ∀ (ρ' : Sl) (w9 : World) (B' : Bd), e.op = 3 → B' = ⟨B.s + (if 0 < e.els.length then 1 else 0), B.c, B.d⟩ → w9.heap[b7]? = some (.cells B'.cells.toArray 34 (0, 0)) → w9.heap[b8]? = some (.cells E.cells.toArray 34 (0, 0)) → w9.heap[b5]? = some (.cells (Bd.mk (Ex.stepsL e.exprs) 0 0).cells.toArray 34 (0, 0)) → w9.heap[b4]? = some (.cells zBd.cells.toArray 34 (0, 0)) → Mod none_ w w9 → ρ' 4 = pt b4 → ρ' 5 = pt b5 → ρ' 7 = pt b7 → ρ' 8 = pt b8 →
        sx fn_ Tryd.prog 109 dispatcherref09_stmt_R5 (blkK 2 (seqK (sx fn_ Tryd.prog 109 dispatcherref09_stmt_R4 (retK Tryd.prog [ResultVar.cell 4 34] fun v w' => v = (e.bd n).v ∧ Mod none_ w w')) (retK Tryd.prog [ResultVar.cell 4 34] fun v w' => v = (e.bd n).v ∧ Mod none_ w w'))) ρ' w9 := by
      intro ρ' w9 B' k3 hB' i7 i8 i5 i4 hm p4 p5 p7 p8
      have hB'in : B'.In 1048578 := by
        subst hB'
        obtain ⟨⟨x1, x2⟩, ⟨x3, x4⟩, x5, x6⟩ := hB
        refine ⟨⟨?_, ?_⟩, ⟨?_, ?_⟩, ?_, ?_⟩ <;> dsimp only <;> first | omega | (split <;> omega)
      have hor := hB'in.or (hE.mono (k := 1048578) (by decide))
      unfold Bd.or Bd.In at hor
      dsimp only at hor
      rw [dispatcherref09_stmt_R5_eq]
      unfold dispatcherref09_stmt_R5_F
      rw [p5, p7, p8]
      refine (bdF i5).1.vk' fun _ => ?_
      refine BKadd (a := Ex.stepsL e.exprs) (b := 1) rfl rfl (by omega) (by omega) ?_
      refine (bdF i7).1.vk' fun _ => (bdF i8).1.vk' fun _ => ?_
      rw [max_i]
      refine BKadd (a := Ex.stepsL e.exprs + 1) (b := mx B'.s E.s) rfl rfl (by omega) (by omega) ?_
      refine foBd (j := 0) (by decide) rfl ?_
      refine bdSt i5 (j := 0) (by decide) rfl fun w10 j5 hm10 => ?_
      rw [bd_set0] at j5
      have j7 := hm10.blk i7 (by omega)
      have j8 := hm10.blk i8 (by omega)
      refine (bdF j7).2.1.vk' fun _ => (bdF j8).2.1.vk' fun _ => ?_
      rw [max_i]
      refine foBd (j := 1) (by decide) rfl ?_
      refine bdSt j5 (j := 1) (n := mx B'.c E.c) (by decide) rfl fun w11 k5 hm11 => ?_
      rw [bd_set1] at k5
      have l7' := hm11.blk j7 (by omega)
      have l8' := hm11.blk j8 (by omega)
      refine (bdF l7').2.2.vk' fun _ => (bdF l8').2.2.vk' fun _ => ?_
      rw [max_i]
      refine foBd (j := 2) (by decide) rfl ?_
      refine bdSt k5 (j := 2) (n := mx B'.d E.d) (by decide) rfl fun w12 m5 hm12 => ?_
      rw [bd_set2] at m5
      rw [bk_n, sq_n]
      refine r4 _ w12 _ ?_ ?_ m5 (hm12.blk (hm11.blk (hm10.blk i4 (by omega)) (by omega)) (by omega)) ?_ (((hm.then hm10 fun i hi q => absurd q (by omega)).then hm11 fun i hi q => absurd q (by omega)).then hm12 fun i hi q => absurd q (by omega))
      · exact p4
      · exact p5
      · rw [hbO]
        unfold oneB
        rw [if_pos k3, hB']
        dsimp only
        rw [show (1 : Int) + Ex.stepsL e.exprs = Ex.stepsL e.exprs + 1 by omega]
    have r6 : ∀ (ρ' : Sl) (t : Int), e.op = 5 → ρ' 9 = .int .i64 t → t = (if e.turns = 0 then n else e.turns) → ρ' 4 = pt b4 → ρ' 5 = pt b5 → ρ' 7 = pt b7 →
        sx fn_ Tryd.prog 109 dispatcherref09_stmt_R6 (blkK 2 (seqK (sx fn_ Tryd.prog 109 dispatcherref09_stmt_R4 (retK Tryd.prog [ResultVar.cell 4 34] fun v w' => v = (e.bd n).v ∧ Mod none_ w w')) (retK Tryd.prog [ResultVar.cell 4 34] fun v w' => v = (e.bd n).v ∧ Mod none_ w w'))) ρ' w8 := by
      intro ρ' t k5 p9 ht p4 p5 p7
      have ht2 : 0 ≤ t ∧ t ≤ 1000 := by rw [ht]; split <;> omega
      have m1 := mul_in (a := B.s + 9) (m := 1048586) (by have := hB.1; omega) ht2
      have m2 := mul_in hB.2.1 ht2
      have m3 := mul_in hB.2.2 ht2
      rw [dispatcherref09_stmt_R6_eq]
      unfold dispatcherref09_stmt_R6_F
      rw [p9, p5, p7]
      refine (bdF g7).1.vk' fun _ => ?_
      refine BKadd (a := 9) (b := B.s) rfl rfl (by have := hB.1; omega) (by have := hB.1; omega) ?_
      rw [BK_mul, show t * (9 + B.s) = (B.s + 9) * t by rw [Int.mul_comm, Int.add_comm 9], wrap_in m1 (by decide)]
      refine BKadd (a := 6) (b := (B.s + 9) * t) rfl rfl (by omega) (by omega) ?_
      refine foBd (j := 0) (by decide) rfl ?_
      refine bdSt g5 (j := 0) (by decide) rfl fun w10 j5 hm10 => ?_
      rw [bd_set0] at j5
      have j7 := hm10.blk g7 (by omega)
      refine (bdF j7).2.1.vk' fun _ => ?_
      rw [BK_mul, Int.mul_comm, wrap_in m2 (by decide)]
      refine foBd (j := 1) (by decide) rfl ?_
      refine bdSt j5 (j := 1) (by decide) rfl fun w11 k5' hm11 => ?_
      rw [bd_set1] at k5'
      have l7' := hm11.blk j7 (by omega)
      refine (bdF l7').2.2.vk' fun _ => ?_
      rw [BK_mul, Int.mul_comm, wrap_in m3 (by decide)]
      refine foBd (j := 2) (by decide) rfl ?_
      refine bdSt k5' (j := 2) (by decide) rfl fun w12 m5 hm12 => ?_
      rw [bd_set2] at m5
      rw [bk_n, sq_n]
      refine r4 _ w12 _ ?_ ?_ m5 (hm12.blk (hm11.blk (hm10.blk g4 (by omega)) (by omega)) (by omega)) ?_ (((hm08.then hm10 fun i hi q => absurd q (by omega)).then hm11 fun i hi q => absurd q (by omega)).then hm12 fun i hi q => absurd q (by omega))
      · exact p4
      · exact p5
      · rw [hbO]
        unfold oneB
        rw [if_neg (by omega), if_pos k5, ← ht]
        dsimp only
        rw [Int.add_comm 6]
    refine d0.vs ?_ fun _ => ?_
    · exact q2
    refine BKeqI (a := e.op) (b := 3) rfl rfl (fun k3 => condT ?_) (fun k3 => condF ?_)
    · obtain ⟨A7, c7, hs7, _⟩ := reads_cap hok8.els.1
      have d7' : FAt Tryd.prog w8 45 7 ⟨b3, 0, none⟩ 29 (.slice A7 e.els.length c7) := FAt.mk' (off := 7) (by kernel_rfl) uSts rfl (by rw [add_pl, cell_blk g3, ← hs7]; rfl)
      refine d7'.vs ?_ fun _ => ?_
      · exact q2
      rw [len29]
      refine BKgtr (a := e.els.length) (b := 0) rfl rfl ?_
      by_cases hle : 0 < e.els.length
      · rw [show decide ((0 : Int) < (e.els.length : Int)) = true by rw [decide_eq_true_eq]; omega]
        refine condT ?_
        refine (bdF g7).1.vk' fun _ => ?_
        have := hB.1
        refine BKadd (a := B.s) (b := 1) rfl rfl (by omega) (by omega) ?_
        refine foBd (j := 0) (by decide) rfl ?_
        refine bdSt g7 (j := 0) (by decide) rfl fun w9 i7 hm9 => ?_
        rw [bd_set0] at i7
        refine r5 _ w9 _ k3 (by rw [if_pos hle]) i7 (hm9.blk hb8 (by omega)) (hm9.blk g5 (by omega)) (hm9.blk g4 (by omega)) (hm08.then hm9 fun i hi q => absurd q (by omega)) ?_ ?_ rfl rfl
        · exact q4
        · exact q5
      · rw [show decide ((0 : Int) < (e.els.length : Int)) = false by rw [decide_eq_false_iff_not]; omega]
        refine condF ?_
        refine r5 _ w8 B k3 (by rw [if_neg hle, Int.add_zero]) g7 hb8 g5 g4 hm08 ?_ ?_ rfl rfl
        · exact q4
        · exact q5
    refine BKeqI (a := e.op) (b := 5) rfl rfl (fun k5 => condT ?_) (fun k5 => condF ?_)
    · refine d4.vs ?_ fun _ => ?_
      · exact q2
      refine BKeqI (a := e.turns) (b := 0) rfl rfl (fun kt => condT ?_) (fun kt => condF ?_)
      · refine r6 _ n k5 ?_ (by rw [if_pos kt]) ?_ ?_ rfl
        · exact q1
        · exact q4
        · exact q5
      · refine r6 _ e.turns k5 rfl (by rw [if_neg kt]) ?_ ?_ rfl
        · exact q4
        · exact q5
    refine BKeqI (a := e.op) (b := 8) rfl rfl (fun k8 => condT ?_) (fun k8 => condF ?_)
    · refine (bdF g5).1.vs ?_ fun _ => ?_
      · exact q5
      refine BKadd (a := Ex.stepsL e.exprs) (b := 1) rfl rfl (by omega) (by omega) ?_
      refine foBd (j := 0) (b := b5) (by decide) ?_ ?_
      · exact q5
      refine bdSt g5 (j := 0) (by decide) rfl fun w9 i5 hm9 => ?_
      rw [bd_set0] at i5
      refine foBd (j := 1) (b := b5) (by decide) ?_ ?_
      · exact q5
      refine bdSt i5 (j := 1) (by decide) rfl fun w10 j5 hm10 => ?_
      rw [bd_set1] at j5
      have g3' := hm10.blk (hm9.blk g3 (by omega)) (by omega)
      have g4' := hm10.blk (hm9.blk g4 (by omega)) (by omega)
      have hm010 : Mod none_ w w10 := (hm08.then hm9 fun i hi q => absurd q (by omega)).then hm10 fun i hi q => absurd q (by omega)
      refine ldS (b := b3) (cs := e.cells.toArray) ?_ Tryd.underlying45 rfl iSt g3' ?_
      · exact q2
      refine CK_st Tryd.func75 rfl rfl (DecidesR_ok (hok.mod hm010)) ?_
      rintro _ w11 ⟨rfl, hm11⟩
      have g511 := hm11.blk j5 id
      have g411 := hm11.blk g4' id
      refine caseC (fun hd => ?_) (fun hd => ?_)
      · refine foBd (j := 2) (b := b5) (by decide) ?_ ?_
        · exact q5
        refine bdSt g511 (j := 2) (by decide) rfl fun w12 k5 hm12 => ?_
        rw [bd_set2] at k5
        refine r4 _ w12 _ ?_ ?_ k5 (hm12.blk g411 (by omega)) ?_ ((hm010.trans hm11).then hm12 fun i hi q => absurd q (by omega))
        · exact q4
        · exact q5
        · rw [hbO]
          unfold oneB
          rw [if_neg k3, if_neg (by omega), if_pos k8, hd]
          dsimp only
          rw [show (1 : Int) + Ex.stepsL e.exprs = Ex.stepsL e.exprs + 1 by omega]; rfl
      · refine r4 _ w11 _ ?_ ?_ g511 g411 ?_ (hm010.trans hm11)
        · exact q4
        · exact q5
        · rw [hbO]
          unfold oneB
          rw [if_neg k3, if_neg k5, if_pos k8, hd]
          dsimp only
          rw [show (1 : Int) + Ex.stepsL e.exprs = Ex.stepsL e.exprs + 1 by omega]; rfl
    · refine (bdF g5).1.vs ?_ fun _ => ?_
      · exact q5
      refine BKadd (a := Ex.stepsL e.exprs) (b := 1) rfl rfl (by omega) (by omega) ?_
      refine foBd (j := 0) (b := b5) (by decide) ?_ ?_
      · exact q5
      refine bdSt g5 (j := 0) (by decide) rfl fun w9 i5 hm9 => ?_
      rw [bd_set0] at i5
      refine r4 _ w9 _ ?_ ?_ i5 (hm9.blk g4 (by omega)) ?_ (hm08.then hm9 fun i hi q => absurd q (by omega))
      · exact q4
      · exact q5
      · rw [hbO]
        unfold oneB
        rw [if_neg k3, if_neg k5, if_neg k8, show (1 : Int) + Ex.stepsL e.exprs = Ex.stepsL e.exprs + 1 by omega]
theorem stmtsR_of {n : Int} (hn : 1 ≤ n ∧ n ≤ 64) : ∀ e : St, StmtsR n e.body ∧ StmtsR n e.els := by
  intro e
  induction e using St.ind with
  | h e ih1 ih2 => exact ⟨stmtsR_row hn fun a ha => stmtR_of hn (ih1 a ha).1 (ih1 a ha).2, stmtsR_row hn fun a ha => stmtR_of hn (ih2 a ha).1 (ih2 a ha).2⟩
theorem StmtsR_ok {n : Int} (hn : 1 ≤ n ∧ n ≤ 64) (l : List St) : StmtsR n l := stmtsR_row hn fun a _ => stmtR_of hn (stmtsR_of hn a).1 (stmtsR_of hn a).2
end Go.Proofs.YtmgmlnhahofipaaDoor.Tr
/-! BoundTells. -/
set_option linter.unusedVariables false
set_option linter.unusedSimpArgs false
set_option maxRecDepth 4000
namespace Go.Proofs.YtmgmlnhahofipaaDoor.Tr
open Go Go.X Go.RowKit Go.Proofs.YtmgmlnhahofipaaDoor.XG Go.Proofs.YtmgmlnhahofipaaDoor.XH Go.Proofs.YtmgmlnhahofipaaDoor.XK

theorem fldWr {w : World} {K : Value → World → Prop} (e : Wr) : VK Tryd.prog (Instr.field 51 e.v 0) w K = K (.int .i64 e.err) w := by
  refine VK_eq_of ?_
  unfold Instr.field
  simp [Sem.run_bind, run_underlying Tryd.underlying51, part, isE, Wr.v, Wr.cells, asAgg]
theorem ScCheck_ok {w : World} (hg : Gl w) {p : Pr} (h : p.Ok w) (hf : p.fits) : Rt Tryd.prog 23 #[.agg p.cells.toArray] w fun v w' => v = (checkP p).v ∧ Mod none_ w w' := by
  refine scope_Check_calls ?_
  unfold scope_Check_F
  refine box_k (cs := p.cells.toArray) rfl fun w1 hb1 hm1 hz1 => ?_
  refine al_k zWrg rfl _ fun w2 hb2 hm2 hz2 => ?_
  have hm02 := hm1.trans hm2
  refine ldB (cs := p.cells.toArray) Tryd.underlying31 rfl iPr (hm2.blk hb1 id) ?_
  refine CK_st Tryd.func40 rfl rfl (New_ok (hg.mod hm02) (h.mod hm02) hf) ?_
  rintro _ w3 ⟨x, rfl, hT⟩
  rw [extract_ok (v := x) rfl, extract_ok (v := (checkP p).v) rfl]
  have hm3 := hT.m
  have hb3 := hm3.blk hb2 id
  refine lcl_k (cs := (checkP p).cells.toArray) zWrg _ iWrg rfl (wr_one _) fun w4 hb4 hm4 hz4 => ?_
  refine ldB (cs := (checkP p).cells.toArray) Tryd.underlying51 rfl iWrg hb4 ?_
  refine stS (b := w1.heap.size) (old := zWr.cells.toArray) (cs := (checkP p).cells.toArray) rfl rfl iWrg rfl (wr_one _) (hm4.blk hb3 id) fun w5 hb5 hm5 _ => ?_
  exact ⟨_, res_ld (run_ldB (cs := (checkP p).cells.toArray) Tryd.underlying51 rfl iWrg hb5), rfl, ((hm02.trans hm3).trans hm4).then hm5 fun i hi q => absurd q (by omega)⟩
def ofP (p : Pr) (n : Int) : Bd × Int :=
  if (checkP p).err ≠ 0 ∨ n < 1 ∨ 64 < n then (zBd, 2) else if St.lpL p.body then (zBd, 90) else if 1048576 < (St.bdF n zBd p.body).s + 1 then (zBd, 90) else ((St.bdF n zBd p.body).and (Bd.mk 1 0 0), 0)
theorem of_may {p : Pr} (h : (checkP p).err = 0) : ∀ a ∈ p.body, a.may = true := by
  unfold checkP at h
  split at h
  · rename_i hm
    unfold Pr.may at hm
    simp only [Bool.and_eq_true, St.mayL_eq, List.all_eq_true] at hm
    exact hm.2
  · simp at h
theorem body_in {p : Pr} {n : Int} (hn : 1 ≤ n ∧ n ≤ 64) (hm : ∀ a ∈ p.body, a.may = true) (hf : p.fits) : (St.bdF n zBd p.body).In 1048577 := bdF_in (fun a ha => by
  obtain ⟨i, hi⟩ := List.getElem?_of_mem ha
  have := St.szL_at hi
  have := hf.2
  exact (bd_in hn a (hm a ha) (by omega)).1) (zBd_in _ (by decide))
theorem resOf {w w' : World} {b4 : Nat} {b old : Bd} {er : Int} {v : Value} {p : Pr} {n : Int} (g : w'.heap[b4]? = some (.cells old.cells.toArray 34 (0, 0))) (hm : Mod none_ w w') (hb : w.heap.size ≤ b4) (ho : ofP p n = (b, er)) (hv : v = b.v) :
    UK Tryd.prog (Instr.storeAt 34 (.pointer (some ⟨b4, 0, none⟩)) v) w' fun _ w'' => ∃ x, (do loadVar 34 (← asAddr (.pointer (some ⟨b4, 0, none⟩))) : Sem Value).run Tryd.prog w'' = .ok x w'' ∧ (Value.tuple #[x, .int .i64 er] = Value.tuple #[(ofP p n).1.v, .int .i64 (ofP p n).2] ∧ Mod none_ w w'') := by
  subst hv
  refine stS (b := b4) (old := old.cells.toArray) (cs := b.cells.toArray) rfl rfl iBnd rfl (bd_one _) g fun w5 hb5 hm5 _ => ?_
  exact ⟨_, res_ld (run_ldB (cs := b.cells.toArray) Tryd.underlying34 rfl iBnd hb5), by rw [ho]; rfl, hm.then hm5 fun i hi q => absurd q (by omega)⟩
theorem Of_ok {w : World} (hg : Gl w) {p : Pr} (h : p.Ok w) (hf : p.fits) (n : Int) : Rt Tryd.prog 11 #[.agg p.cells.toArray, .int .i64 n] w fun v w' => v = .tuple #[(ofP p n).1.v, .int .i64 (ofP p n).2] ∧ Mod none_ w w' := by
  refine bound_Of_calls ?_
  unfold bound_Of_F
  refine box_k (cs := p.cells.toArray) rfl fun w1 hb1 hm1 hz1 => ?_
  refine al_k zBnd rfl _ fun w2 hb2 hm2 hz2 => ?_
  have hm02 := hm1.trans hm2
  refine ldB (cs := p.cells.toArray) Tryd.underlying31 rfl iPr (hm2.blk hb1 id) ?_
  refine CK_st Tryd.func23 rfl rfl (ScCheck_ok (hg.mod hm02) (h.mod hm02) hf) ?_
  rintro _ w3 ⟨rfl, hm3⟩
  rw [fldWr]
  have hm03 := hm02.trans hm3
  have hb13 := (hm2.trans hm3).blk hb1 id
  have hb23 := hm3.blk hb2 id
  have hlt : w.heap.size < w1.heap.size := by omega
  clear hm1 hz1 hb1 hm2 hz2 hb2 hm3 hm02
  generalize w1.heap.size = b4 at *
  have hes : (checkP p).err ≠ 0 → ofP p n = (zBd, 2) := fun q => by unfold ofP; rw [if_pos (Or.inl q)]
  refine BKneI (a := (checkP p).err) (b := 0) rfl rfl (fun hz => ?_) (fun hz => ?_)
  rotate_left
  · simp only [CondK_bool, MG_u, NG_u, VG_u, UG_u, PG_u, BG_u, CG_u, IG_u, MG_b, NG_b, VG_b, UG_b, PG_b, BG_b, CG_b, IG_b, PK_bool, NK_ptr, not_ok, reduceCtorEq, if_true, if_false, Bool.true_eq_false, Bool.false_eq_true, Bool.not_true, Bool.not_false]
    rw [build_ok bBd0]
    exact resOf hb23 hm03 (by omega) (hes hz) rfl
  · have hmays := of_may hz
    simp only [CondK_bool, MG_u, NG_u, VG_u, UG_u, PG_u, BG_u, CG_u, IG_u, MG_b, NG_b, VG_b, UG_b, PG_b, BG_b, CG_b, IG_b, PK_bool, NK_ptr, not_ok, reduceCtorEq, if_true, if_false, Bool.true_eq_false, Bool.false_eq_true, Bool.not_true, Bool.not_false]
    refine BKlss (a := n) (b := 1) rfl rfl ?_
    by_cases h1 : n < 1
    · rw [decide_eq_true h1]
      simp only [CondK_bool, MG_u, NG_u, VG_u, UG_u, PG_u, BG_u, CG_u, IG_u, MG_b, NG_b, VG_b, UG_b, PG_b, BG_b, CG_b, IG_b, PK_bool, NK_ptr, not_ok, reduceCtorEq, if_true, if_false, Bool.true_eq_false, Bool.false_eq_true, Bool.not_true, Bool.not_false]
      rw [build_ok bBd0]
      exact resOf hb23 hm03 (by omega) (by unfold ofP; rw [if_pos (Or.inr (Or.inl h1))]) rfl
    rw [decide_eq_false h1]
    simp only [CondK_bool, MG_u, NG_u, VG_u, UG_u, PG_u, BG_u, CG_u, IG_u, MG_b, NG_b, VG_b, UG_b, PG_b, BG_b, CG_b, IG_b, PK_bool, NK_ptr, not_ok, reduceCtorEq, if_true, if_false, Bool.true_eq_false, Bool.false_eq_true, Bool.not_true, Bool.not_false]
    refine BKgtr (a := n) (b := 64) rfl rfl ?_
    by_cases h2 : 64 < n
    · rw [decide_eq_true h2]
      refine condT ?_
      rw [build_ok bBd0]
      exact resOf hb23 hm03 (by omega) (by unfold ofP; rw [if_pos (Or.inr (Or.inr h2))]) rfl
    rw [decide_eq_false h2]
    refine condF ?_
    have hn : 1 ≤ n ∧ n ≤ 64 := by omega
    have ho : ofP p n = if St.lpL p.body then (zBd, 90) else if 1048576 < (St.bdF n zBd p.body).s + 1 then (zBd, 90) else ((St.bdF n zBd p.body).and (Bd.mk 1 0 0), 0) := by
      unfold ofP
      rw [if_neg (by rintro (q | q | q); exact q hz; exact h1 q; exact h2 q)]
    refine ldB (cs := p.cells.toArray) Tryd.underlying31 rfl iPr hb13 ?_
    refine CK_st Tryd.func13 rfl rfl (Counted_ok (h.mod hm03) hf) ?_
    rintro _ w4 ⟨rfl, hm4⟩
    rw [not_ok, Bool.not_not]
    have hm04 := hm03.trans hm4
    cases hl : St.lpL p.body with
    | true =>
      refine condT ?_
      rw [build_ok bBd0]
      exact resOf (hm4.blk hb23 id) hm04 (by omega) (by rw [ho, hl]; rfl) rfl
    | false =>
      refine condF ?_
      rw [hl] at ho
      have f1 : FAt Tryd.prog w4 31 1 ⟨w.heap.size, 0, none⟩ 29 p.bs := FAt.mk' (off := 1) (by kernel_rfl) uSts rfl (by rw [add_pl, cell_blk (hm4.blk hb13 id)]; rfl)
      refine f1.vk' fun _ => ?_
      refine CK_st Tryd.func24 rfl rfl (All_ok hn p.body w4 _ (h.mod hm04).b hf.2 hmays) ?_
      rintro _ w5 ⟨rfl, hm5⟩
      rw [build_ok (bBd1 1)]
      have hbi := body_in hn hmays hf
      have hai : ((St.bdF n zBd p.body).and (Bd.mk 1 0 0)).In 1048578 := by
        obtain ⟨⟨x1, x2⟩, ⟨x3, x4⟩, x5, x6⟩ := hbi
        unfold Bd.and
        refine ⟨⟨?_, ?_⟩, ⟨?_, ?_⟩, ?_, ?_⟩ <;> dsimp only <;> omega
      refine CK_st Tryd.func25 rfl rfl (And_ok (b := Bd.mk 1 0 0) hai (by decide)) ?_
      rintro _ w6 ⟨rfl, hm6⟩
      refine lcl_k (cs := ((St.bdF n zBd p.body).and (Bd.mk 1 0 0)).cells.toArray) zBnd _ iBnd rfl (bd_one _) fun w7 hb7 hm7 hz7 => ?_
      have hm47 := (hm5.trans hm6).trans hm7
      have hm07 := hm04.trans hm47
      have hb27 := hm47.blk (hm4.blk hb23 id) id
      refine (bdF hb7).1.vk' fun _ => ?_
      refine BKgtr (a := (St.bdF n zBd p.body).s + 1) (b := 1048576) rfl rfl ?_
      refine caseC (fun hq => ?_) (fun hq => ?_)
      · rw [build_ok bBd0]
        exact resOf hb27 hm07 (by omega) (by rw [ho, if_neg (by simp), if_pos (of_decide_eq_true hq)]) rfl
      · refine ldB (cs := ((St.bdF n zBd p.body).and (Bd.mk 1 0 0)).cells.toArray) Tryd.underlying34 rfl iBnd hb7 ?_
        exact resOf hb27 hm07 (by omega) (by rw [ho, if_neg (by simp), if_neg (of_decide_eq_false hq)]) rfl
theorem OfR_ok {w : World} {p : Pr} (h : p.Ok w) (hf : p.fits) (n : Int) : Rt Tryd.prog 12 #[.agg p.cells.toArray, .int .i64 n] w fun v w' => v = .tuple #[(ofP p n).1.v, .int .i64 (ofP p n).2] ∧ Mod none_ w w' := by
  refine dispatcherref09_Of_calls ?_
  unfold dispatcherref09_Of_F
  refine box_k (cs := p.cells.toArray) rfl fun w1 hb1 hm1 hz1 => ?_
  refine al_k zBnd rfl _ fun w2 hb2 hm2 hz2 => ?_
  have hm02 := hm1.trans hm2
  refine ldB (cs := p.cells.toArray) Tryd.underlying31 rfl iPr (hm2.blk hb1 id) ?_
  refine CK_st Tryd.func26 rfl rfl (Check4_ok (h.mod hm02) hf) ?_
  rintro _ w3 ⟨rfl, hm3⟩
  rw [fldWr]
  have hm03 := hm02.trans hm3
  have hb13 := (hm2.trans hm3).blk hb1 id
  have hb23 := hm3.blk hb2 id
  have hlt : w.heap.size < w1.heap.size := by omega
  clear hm1 hz1 hb1 hm2 hz2 hb2 hm3 hm02
  generalize w1.heap.size = b4 at *
  have hes : (checkP p).err ≠ 0 → ofP p n = (zBd, 2) := fun q => by unfold ofP; rw [if_pos (Or.inl q)]
  refine BKneI (a := (checkP p).err) (b := 0) rfl rfl (fun hz => ?_) (fun hz => ?_)
  rotate_left
  · simp only [CondK_bool, MG_u, NG_u, VG_u, UG_u, PG_u, BG_u, CG_u, IG_u, MG_b, NG_b, VG_b, UG_b, PG_b, BG_b, CG_b, IG_b, PK_bool, NK_ptr, not_ok, reduceCtorEq, if_true, if_false, Bool.true_eq_false, Bool.false_eq_true, Bool.not_true, Bool.not_false]
    rw [build_ok bBd0]
    exact resOf hb23 hm03 (by omega) (hes hz) rfl
  · have hmays := of_may hz
    simp only [CondK_bool, MG_u, NG_u, VG_u, UG_u, PG_u, BG_u, CG_u, IG_u, MG_b, NG_b, VG_b, UG_b, PG_b, BG_b, CG_b, IG_b, PK_bool, NK_ptr, not_ok, reduceCtorEq, if_true, if_false, Bool.true_eq_false, Bool.false_eq_true, Bool.not_true, Bool.not_false]
    refine BKlss (a := n) (b := 1) rfl rfl ?_
    by_cases h1 : n < 1
    · rw [decide_eq_true h1]
      simp only [CondK_bool, MG_u, NG_u, VG_u, UG_u, PG_u, BG_u, CG_u, IG_u, MG_b, NG_b, VG_b, UG_b, PG_b, BG_b, CG_b, IG_b, PK_bool, NK_ptr, not_ok, reduceCtorEq, if_true, if_false, Bool.true_eq_false, Bool.false_eq_true, Bool.not_true, Bool.not_false]
      rw [build_ok bBd0]
      exact resOf hb23 hm03 (by omega) (by unfold ofP; rw [if_pos (Or.inr (Or.inl h1))]) rfl
    rw [decide_eq_false h1]
    simp only [CondK_bool, MG_u, NG_u, VG_u, UG_u, PG_u, BG_u, CG_u, IG_u, MG_b, NG_b, VG_b, UG_b, PG_b, BG_b, CG_b, IG_b, PK_bool, NK_ptr, not_ok, reduceCtorEq, if_true, if_false, Bool.true_eq_false, Bool.false_eq_true, Bool.not_true, Bool.not_false]
    refine BKgtr (a := n) (b := 64) rfl rfl ?_
    by_cases h2 : 64 < n
    · rw [decide_eq_true h2]
      refine condT ?_
      rw [build_ok bBd0]
      exact resOf hb23 hm03 (by omega) (by unfold ofP; rw [if_pos (Or.inr (Or.inr h2))]) rfl
    rw [decide_eq_false h2]
    refine condF ?_
    have hn : 1 ≤ n ∧ n ≤ 64 := by omega
    have ho : ofP p n = if St.lpL p.body then (zBd, 90) else if 1048576 < (St.bdF n zBd p.body).s + 1 then (zBd, 90) else ((St.bdF n zBd p.body).and (Bd.mk 1 0 0), 0) := by
      unfold ofP
      rw [if_neg (by rintro (q | q | q); exact q hz; exact h1 q; exact h2 q)]
    refine ldB (cs := p.cells.toArray) Tryd.underlying31 rfl iPr hb13 ?_
    refine CK_st Tryd.func14 rfl rfl (CountedR_ok (h.mod hm03) hf) ?_
    rintro _ w4 ⟨rfl, hm4⟩
    rw [not_ok, Bool.not_not]
    have hm04 := hm03.trans hm4
    cases hl : St.lpL p.body with
    | true =>
      refine condT ?_
      rw [build_ok bBd0]
      exact resOf (hm4.blk hb23 id) hm04 (by omega) (by rw [ho, hl]; rfl) rfl
    | false =>
      refine condF ?_
      rw [hl] at ho
      have f1 : FAt Tryd.prog w4 31 1 ⟨w.heap.size, 0, none⟩ 29 p.bs := FAt.mk' (off := 1) (by kernel_rfl) uSts rfl (by rw [add_pl, cell_blk (hm4.blk hb13 id)]; rfl)
      refine f1.vk' fun _ => ?_
      refine CK_st Tryd.func27 rfl rfl (StmtsR_ok hn p.body w4 _ (h.mod hm04).b hf.2 hmays) ?_
      rintro _ w5 ⟨rfl, hm5⟩
      have hbi := body_in hn hmays hf
      refine lcl_k (cs := (St.bdF n zBd p.body).cells.toArray) zBnd _ iBnd rfl (bd_one _) fun w6 hb6 hm6 hz6 => ?_
      have hm46 := hm5.trans hm6
      have hm06 := hm04.trans hm46
      have hb26 := hm46.blk (hm4.blk hb23 id) id
      have l4 : b4 < w5.heap.size := by have := X.blk_lt hb23; have := hm4.size; have := hm5.size; omega
      generalize w5.heap.size = b6 at *
      refine (bdF hb6).1.vk' fun _ => ?_
      have := hbi.1
      refine BKadd (a := (St.bdF n zBd p.body).s) (b := 1) rfl rfl (by omega) (by omega) ?_
      refine foBd (j := 0) (by decide) rfl ?_
      refine bdSt hb6 (j := 0) (by decide) rfl fun w7 hb7 hm7 => ?_
      rw [bd_set0] at hb7
      have hb7' : w7.heap[b6]? = some (.cells ((St.bdF n zBd p.body).and (Bd.mk 1 0 0)).cells.toArray 34 (0, 0)) := by
        rw [show (St.bdF n zBd p.body).and (Bd.mk 1 0 0) = Bd.mk ((St.bdF n zBd p.body).s + 1) (St.bdF n zBd p.body).c (St.bdF n zBd p.body).d by simp [Bd.and]]
        exact hb7
      have hm07 : Mod none_ w w7 := hm06.then hm7 fun i hi q => absurd q (by omega)
      have hb27 := hm7.blk hb26 (by omega)
      refine (bdF hb7').1.vk' fun _ => ?_
      refine BKgtr (a := (St.bdF n zBd p.body).s + 1) (b := 1048576) rfl rfl ?_
      refine caseC (fun hq => ?_) (fun hq => ?_)
      · rw [build_ok bBd0]
        exact resOf hb27 hm07 (by omega) (by rw [ho, if_neg (by simp), if_pos (of_decide_eq_true hq)]) rfl
      · refine ldB (cs := ((St.bdF n zBd p.body).and (Bd.mk 1 0 0)).cells.toArray) Tryd.underlying34 rfl iBnd hb7' ?_
        exact resOf hb27 hm07 (by omega) (by rw [ho, if_neg (by simp), if_neg (of_decide_eq_false hq)]) rfl
theorem gBd : Tryd.prog.eqGuardType Tryd.prog.depth 34 = false := by kernel_rfl
theorem eqBd (a b : Bd) (w : World) : (Op.equalIn 10000 34 a.v b.v).run Tryd.prog w = .ok (decide (a = b)) w := by
  show (Op.equalIn (9999 + 1) 34 (.agg a.cells.toArray) (.agg b.cells.toArray)).run Tryd.prog w = _
  rw [run_equalIn_struct w 9999 34 _ _ (by simp [Program.fieldsOf, Tryd.underlying34]) (by kernel_rfl)]
  obtain ⟨a1, a2, a3⟩ := a; obtain ⟨b1, b2, b3⟩ := b
  simp [Program.fieldsOf, Tryd.underlying34, Op.eqFields, part, isI, Sem.run_bind, Bd.cells, run_equalIn_int w 9998 3 .i64 .i64 _ _ Tryd.underlying3]
  by_cases h1 : a1 = b1 <;> by_cases h2 : a2 = b2 <;> by_cases h3 : a3 = b3 <;> simp [h1, h2, h3]
theorem rBdE (a b : Bd) (w : World) : (binOp .eql 34 a.v b.v).run Tryd.prog w = .ok (.bool (decide (a = b))) w := by
  show (binOp .eql 34 (.agg a.cells.toArray) (.agg b.cells.toArray)).run Tryd.prog w = _
  rw [run_eql_struct]
  have := eqBd a b w
  rw [Bd.v, Bd.v] at this
  rw [this]; rfl
theorem uBo : Tryd.prog.underlying 4 = some .bool := by kernel_rfl
theorem BoundTells_ok {w : World} (hg : Gl w) {p : Pr} (h : p.Ok w) (hf : p.fits) (n : Int) : Rt Tryd.prog 4 #[.agg p.cells.toArray, .int .i64 n] w fun v w' => v = .bool true ∧ Mod none_ w w' := by
  refine dispatcherlaw09_BoundTells_calls ?_
  unfold dispatcherlaw09_BoundTells_F
  refine box_k (cs := p.cells.toArray) rfl fun w1 hb1 hm1 hz1 => ?_
  refine ldB (cs := p.cells.toArray) Tryd.underlying31 rfl iPr hb1 ?_
  refine CK_st Tryd.func10 rfl rfl (Great_ok (h.mod hm1) hf) ?_
  rintro _ w2 ⟨rfl, hm2⟩
  have hb2 := hm2.blk hb1 id
  have hm02 := hm1.trans hm2
  refine caseC (fun _ => ⟨rfl, hm02⟩) (fun _ => ?_)
  refine ldB (cs := p.cells.toArray) Tryd.underlying31 rfl iPr hb2 ?_
  refine CK_st Tryd.func11 rfl rfl (Of_ok (hg.mod hm02) (h.mod hm02) hf n) ?_
  rintro _ w3 ⟨rfl, hm3⟩
  rw [extract_ok (v := (ofP p n).1.v) rfl, extract_ok (v := .int .i64 (ofP p n).2) rfl]
  refine lcl_k (cs := (ofP p n).1.cells.toArray) zBnd _ iBnd rfl (bd_one _) fun w4 hb4 hm4 hz4 => ?_
  have hm24 := hm3.trans hm4
  have hm04 := hm02.trans hm24
  have hb14 := hm24.blk hb2 id
  generalize w3.heap.size = b5 at *
  refine ldB (cs := p.cells.toArray) Tryd.underlying31 rfl iPr hb14 ?_
  refine CK_st Tryd.func12 rfl rfl (OfR_ok (h.mod hm04) hf n) ?_
  rintro _ w5 ⟨rfl, hm5⟩
  rw [extract_ok (v := (ofP p n).1.v) rfl, extract_ok (v := .int .i64 (ofP p n).2) rfl]
  refine lcl_k (cs := (ofP p n).1.cells.toArray) zBnd _ iBnd rfl (bd_one _) fun w6 hb6 hm6 hz6 => ?_
  have hm46 := hm5.trans hm6
  have hm06 := hm04.trans hm46
  have hb16 := hm46.blk hb14 id
  have hb46 := hm46.blk hb4 id
  generalize w5.heap.size = b7 at *
  have h6 := h.mod hm06
  refine dispatcherlaw09_BoundTells_R0_quiet (D := []) (fun w' => Mod none_ w6 w') ((Mod.refl _ w6).drawn _) ?_
  unfold dispatcherlaw09_BoundTells_R0_Q
  refine QV_of (v := (ofP p n).1.v) (fun w' hw => run_ldB (cs := (ofP p n).1.cells.toArray) Tryd.underlying34 rfl iBnd (hw.blk hb46 id)) ?_
  refine QV_of (v := (ofP p n).1.v) (fun w' hw => run_ldB (cs := (ofP p n).1.cells.toArray) Tryd.underlying34 rfl iBnd (hw.blk hb6 id)) ?_
  refine QB_of (v := .bool (decide ((ofP p n).1 = (ofP p n).1))) (fun w => run_eqGuard_agg w .eql _ _ _ _ _ gBd) (fun w => rBdE _ _ w) ?_
  rw [decide_eq_true rfl, QG_b, if_pos rfl]
  refine QM ?_
  rw [QG_b, if_pos rfl]
  refine QM ?_
  rw [QG_b, if_pos rfl]
  refine Qeql (a := (ofP p n).2) (b := (ofP p n).2) ?_
  rw [beq_self_eq_true]
  refine QP_of ?_
  rw [if_pos rfl, QG_b, if_pos rfl]
  have ld : ∀ w', Mod none_ w6 w' → (Instr.loadAt 31 (.pointer (some ⟨w.heap.size, 0, none⟩))).run Tryd.prog w' = .ok (.agg p.cells.toArray) w' := fun w' hw => run_ldB (cs := p.cells.toArray) Tryd.underlying31 rfl iPr (hw.blk hb16 id)
  refine QV_of ld ?_
  rw [QG_b, if_pos rfl]
  refine QC_rt (R := fun w' v w'' => v = .bool (!St.lpL p.body) ∧ Mod none_ w' w'') Tryd.func13 rfl rfl (v := .bool (!St.lpL p.body)) (fun w' hw => Counted_ok (h6.mod hw) hf) (fun w' u w'' hw hu => ⟨hu.1, hw.trans hu.2⟩) ?_
  rw [QG_b, if_pos rfl]
  refine QV_of ld ?_
  rw [QG_b, if_pos rfl]
  refine QC_rt (R := fun w' v w'' => v = .bool (!St.lpL p.body) ∧ Mod none_ w' w'') Tryd.func14 rfl rfl (v := .bool (!St.lpL p.body)) (fun w' hw => CountedR_ok (h6.mod hw) hf) (fun w' u w'' hw hu => ⟨hu.1, hw.trans hu.2⟩) ?_
  rw [QG_b, if_pos rfl]
  refine QB_of (v := .bool ((!St.lpL p.body) == (!St.lpL p.body))) (fun w => rfl) (fun w => run_eql_bool w _ _ _ uBo) ?_
  rw [beq_self_eq_true]
  refine QP_of ?_
  intro w7 hm7
  rw [sq_n, dispatcherlaw09_BoundTells_R1_eq]
  unfold dispatcherlaw09_BoundTells_R1_F
  exact ⟨rfl, hm06.trans hm7⟩
end Go.Proofs.YtmgmlnhahofipaaDoor.Tr
