/- How many instructions an expression takes. -/
import Derived.Test.YtmgmlnhahofipaaDoorT2
set_option linter.unusedVariables false
set_option linter.unusedSimpArgs false
set_option maxRecDepth 4000
namespace Go.Proofs.YtmgmlnhahofipaaDoor.Tr
open Go Go.X Go.RowKit Go.Proofs.YtmgmlnhahofipaaDoor.XF Go.Proofs.YtmgmlnhahofipaaDoor.XK

theorem bexpr_ok : ∀ (e : Ex) (w : World), e.Ok w → e.sz ≤ 1099511627776 → Rt Tryd.prog 18 #[.agg e.cells.toArray] w fun v w' => v = .int .i64 e.steps ∧ Mod none_ w w' := by
  intro e
  induction e using Ex.ind with
  | h e ih =>
    intro w hok hsz
    obtain ⟨A, c, hs, _⟩ := reads_cap hok.args.1
    have hszL : Ex.szL e.args ≤ 1099511627776 := by rw [Ex.sz_eq] at hsz; omega
    have hlen := Ex.len_sz e.args
    refine bound_expr_calls ?_
    unfold bound_expr_F
    refine box_k (cs := e.cells.toArray) rfl fun w1 hb1 hm1 _ => ?_
    have d0 : FAt Tryd.prog w1 24 0 ⟨w.heap.size, 0, none⟩ 5 (.int .u8 e.op) := FAt.mk' (off := 0) (by kernel_rfl) uU8 rfl (by rw [add_pl, cell_blk hb1]; rfl)
    have r0 : ∀ (ρ' : Sl), ρ' 1 = .pointer (some ⟨w.heap.size, 0, none⟩) → ρ' 3 = .int .i64 (exW e.op) →
        sx fn_ Tryd.prog 27 bound_expr_R0 (retK Tryd.prog [ResultVar.tmp 2] fun v w' => v = .int .i64 e.steps ∧ Mod none_ w w') ρ' w1 := by
      intro ρ' q1 q3
      have hW : exW e.op ≤ 3 := by unfold exW; split <;> omega
      rw [bound_expr_R0_eq]
      unfold bound_expr_R0_F
      simp only [q1, fo24_0, fo24_1, fo24_2, fo24_3, fo31_0, fo31_1, fo43_0, fo43_1, fo45_0, fo45_1, fo45_2, fo45_3, fo45_4, fo45_5, fo45_6, fo45_7, ld2, ld3, ld5, ld9, ld22, ld28, ld29, len9, len22, len28, len29, len93, ldK_some, cellE, blkC_c, add_pl, Nat.zero_add, List.getElem?_toArray, List.getElem?_cons_succ, List.getElem?_cons_zero, Ex.c0, Ex.c1, Ex.c2, Ex.c3, Ex.c4, Ex.c5, St.c0, St.c1, St.c2, St.c3, St.c4, St.c5, St.c6, St.c7, St.c8, St.c9, hb1, hs]
      refine W_loop bound_expr_L1_ok (fun ρ w' => ∃ n : Nat, n ≤ e.args.length ∧ ρ 17 = .int .i64 n ∧ ρ 16 = .int .i64 e.args.length ∧ ρ 15 = .slice A e.args.length c ∧ ρ 3 = .int .i64 (exW e.op + Ex.stepsL (e.args.take n) : Nat) ∧ Mod none_ w w') (fun ρ _ => e.args.length - (intOf (ρ 17)).toNat)
        ⟨0, Nat.zero_le _, rfl, rfl, rfl, q3.trans (by simp [Ex.stepsL]), hm1⟩ ?_
      rintro ρ w2 ⟨n, hn, h17, h16, h15, h3, hm⟩
      rw [bound_expr_L1_eq]
      unfold bound_expr_L1_F
      rw [h17, h16, h15, h3, BK_lss]
      by_cases hlt : n < e.args.length
      · rw [show decide ((n : Int) < (e.args.length : Int)) = true by rw [decide_eq_true_eq]; omega]
        refine condT ?_
        have hx : e.args[n]? = some e.args[n] := List.getElem?_eq_getElem hlt
        have hmem : e.args[n] ∈ e.args := List.getElem_mem hlt
        have hok2 := hok.args.mod hm
        rw [hs] at hok2
        refine ixEx hok2 hx fun y => ?_
        refine lcl_k (cs := e.args[n].cells.toArray) zEx _ iEx rfl (ex_one (hok2.at hx)) fun w3 hb3 hm3 _ => ?_
        refine ldB (cs := e.args[n].cells.toArray) Tryd.underlying24 rfl iEx hb3 ?_
        have hs2 := Ex.szL_at hx
        have t1 := Ex.stepsL_sz (e.args.take n)
        have t2 := Ex.steps_sz e.args[n]
        refine CK_st Tryd.func18 rfl rfl (ih _ hmem w3 ((hok2.at hx).mod hm3) (by omega)) ?_
        rintro _ w4 ⟨rfl, hm4⟩
        rw [BK_add, wrap_i (n := ((exW e.op + Ex.stepsL (e.args.take n) : Nat) : Int) + (e.args[n].steps : Int)) (by omega) (by omega), BK_add, wrap_i (n := (n : Int) + 1) (by omega) (by omega)]
        refine ⟨⟨n + 1, hlt, rfl, h16, h15, ?_, (hm.trans hm3).trans hm4⟩, ?_⟩
        · show Value.int .i64 _ = _
          rw [List.take_add_one, hx, Option.toList_some, Ex.stepsL_snoc]
          congr 1
          omega
        · show e.args.length - (intOf (Value.int .i64 ((n : Int) + 1))).toNat < _
          simp only [intOf]; omega
      · obtain rfl : n = e.args.length := by omega
        rw [show decide (((e.args.length : Nat) : Int) < (e.args.length : Int)) = false by simp]
        refine condF ?_
        rw [List.take_length] at h3
        rw [sq_x, bk_x, sq_n, bound_expr_R2_eq]
        unfold bound_expr_R2_F
        refine ⟨?_, hm⟩
        refine h3.trans ?_
        rw [Ex.steps_eq]
    refine d0.vk' fun x6 => ?_
    rw [BK_eql]
    refine fO' d0 (fun K => BK_eql _ _ _ _ _ _) fun x10 x11 x12 => ?_
    have hw : ((e.op == 19) || (e.op == 20)) = decide (e.op = 19 ∨ e.op = 20) := by
      simp only [beq_dec]
      by_cases q3 : e.op = 19 <;> by_cases q4 : e.op = 20 <;> simp [q3, q4]
    rw [hw]
    refine caseC (fun hp => ?_) (fun hp => ?_)
    · rw [decide_eq_true_eq] at hp
      refine r0 _ rfl ?_
      show Value.int .i64 3 = _
      unfold exW
      rw [if_pos hp]
      rfl
    · rw [decide_eq_false_iff_not] at hp
      refine r0 _ rfl ?_
      show Value.int .i64 1 = _
      unfold exW
      rw [if_neg hp]
      rfl
/-- The value that both tell. -/
def exprP (e : Ex) : Nat := if e.may = true ∧ e.deep ≤ 32 then e.steps else 0
theorem one_row {w : World} {e : Ex} (he : e.Ok w) {b : Nat} (hb : w.heap[b]? = some (.cells e.cells.toArray 24 (0, 0))) : ExsOk w (.slice (some ⟨b, 0, none⟩) 1 1) [e] :=
  ⟨by have := reads_blk (size := 6) (n := 1) hb rfl; simpa using this, fun a ha => by rw [List.mem_singleton.1 ha]; exact he⟩
theorem bRowE (e : Ex) : builtRow Tryd.prog 22 1 [(0, .agg e.cells.toArray)] = some e.cells.toArray := by kernel_rfl
def asrt (e : Ex) (x : Value) : St := ⟨6, 0, 0, ByteArray.empty, 0, x, [e], .slice none 0 0, [], .slice none 0 0, [], 0, 0⟩
theorem bSt (A : Option Addr) (n c : Nat) : Tryd.prog.built 45 [(0, .int .u8 6), (5, .slice A n c)] = some #[.int .u8 6, .int .u8 0, .int .u8 0, .string ByteArray.empty, .int .i64 0, .slice A n c, .slice none 0 0, .slice none 0 0, .int .i64 0, .int .i64 0] := by kernel_rfl
theorem bRowS (A : Option Addr) (n c : Nat) : builtRow Tryd.prog 29 1 [(0, .agg #[.int .u8 6, .int .u8 0, .int .u8 0, .string ByteArray.empty, .int .i64 0, .slice A n c, .slice none 0 0, .slice none 0 0, .int .i64 0, .int .i64 0])] = some #[.int .u8 6, .int .u8 0, .int .u8 0, .string ByteArray.empty, .int .i64 0, .slice A n c, .slice none 0 0, .slice none 0 0, .int .i64 0, .int .i64 0] := by kernel_rfl
theorem bPr (A : Option Addr) (n c : Nat) : Tryd.prog.built 31 [(1, .slice A n c)] = some #[.slice none 0 0, .slice A n c] := by kernel_rfl
theorem asrt_may (e : Ex) (x y : Value) : Pr.may ⟨.slice none 0 0, [], y, [asrt e x]⟩ = (decide (e.deep ≤ 32) && e.may) := by
  have h1 : 1 ≤ e.deep := by rw [Ex.deep_eq]; omega
  have hd : St.deepAt [asrt e x] 1 = e.deep := by
    unfold St.deepAt
    rw [if_neg (by simp)]
    simp only [St.blocksL', St.exprDL, St.blocks_eq, St.exprD_eq, asrt, St.blocksL, Ex.deepL, List.length_nil, if_true]
    omega
  have ho : (asrt e x).own = true := by
    unfold St.own
    rfl
  unfold Pr.may
  dsimp only
  rw [hd, St.mayL_eq]
  simp only [List.all_cons, List.all_nil, Bool.and_true]
  rw [St.may_eq, ho]
  simp [asrt, Ex.mayL, St.mayL]
theorem asrt_ok {w : World} {e : Ex} {x : Value} (h : ExsOk w x [e]) : (asrt e x).Ok w := by
  have f : (asrt e x).fine := by
    unfold St.fine asrt
    dsimp only
    refine ⟨by decide, by decide, by decide, ?_, by decide, by decide, by decide⟩
    show 0 ≤ maxLen
    exact Nat.zero_le _
  exact St.ok.2 ⟨h, ⟨reads_nil _ _, fun a ha => by cases ha⟩, ⟨reads_nil _ _, fun a ha => by cases ha⟩, f⟩
theorem one_rowS {w : World} {e : St} (he : e.Ok w) {b : Nat} (hb : w.heap[b]? = some (.cells e.cells.toArray 45 (0, 0))) : StsOk w (.slice (some ⟨b, 0, none⟩) 1 1) [e] :=
  ⟨by have := reads_blk (size := 10) (n := 1) hb rfl; simpa using this, fun a ha => by rw [List.mem_singleton.1 ha]; exact he⟩
theorem bExpr_ok {w : World} (hg : Gl w) {e : Ex} (hok : e.Ok w) (hsz : e.sz ≤ 1048576) : Rt Tryd.prog 8 #[.agg e.cells.toArray] w fun v w' => v = .int .i64 (exprP e) ∧ Mod none_ w w' := by
  refine bound_Expr_calls ?_
  unfold bound_Expr_F
  refine box_k (cs := e.cells.toArray) rfl fun w1 hb1 hm1 _ => ?_
  refine ldB (cs := e.cells.toArray) Tryd.underlying24 rfl iEx hb1 ?_
  refine bs_k (bRowE e) fun w2 hb2 hm2 hs2 => ?_
  rw [build_ok (bSt _ _ _)]
  refine bs_k (bRowS _ _ _) fun w3 hb3 hm3 hs3 => ?_
  rw [build_ok (bPr _ _ _)]
  have eE : Tryd.prog.elem 22 = 24 := by kernel_rfl
  have eS : Tryd.prog.elem 29 = 45 := by kernel_rfl
  rw [eE] at hb2
  rw [eS] at hb3
  have hm13 := (hm1.trans hm2).trans hm3
  have hrow : ExsOk w3 (.slice (some ⟨w1.heap.size, 0, none⟩) 1 1) [e] := one_row (hok.mod hm13) (hm3.blk hb2 id)
  have hP : Pr.Ok w3 ⟨.slice none 0 0, [], .slice (some ⟨w2.heap.size, 0, none⟩) 1 1, [asrt e (.slice (some ⟨w1.heap.size, 0, none⟩) 1 1)]⟩ :=
    ⟨⟨reads_nil _ _, fun a ha => by cases ha⟩, one_rowS (asrt_ok hrow) hb3⟩
  have hF : Pr.fits ⟨.slice none 0 0, [], .slice (some ⟨w2.heap.size, 0, none⟩) 1 1, [asrt e (.slice (some ⟨w1.heap.size, 0, none⟩) 1 1)]⟩ := by
    refine ⟨by simp, ?_⟩
    have z : ByteArray.empty.size = 0 := rfl
    simp only [St.szL, St.sz_eq, asrt, Ex.szL, z]
    omega
  have hmay := May_ok (hg.mod hm13) hP hF
  rw [asrt_may] at hmay
  have hmay' : Rt Tryd.prog 16 #[.agg #[.slice none 0 0, .slice (some ⟨w2.heap.size, 0, none⟩) 1 1]] w3 fun v w' => v = .bool (decide (e.deep ≤ 32) && e.may) ∧ Mod none_ w3 w' := hmay
  clear hmay hP hF hrow
  generalize w2.heap.size = b2 at *
  refine CK_st Tryd.func16 rfl rfl hmay' ?_
  rintro _ w4 ⟨rfl, hm4⟩
  rw [not_ok]
  have hm14 := hm13.trans hm4
  unfold exprP
  refine caseC (fun hp => ?_) (fun hp => ?_)
  · refine ⟨?_, hm14⟩
    rw [if_neg]
    · rfl
    · rintro ⟨q1, q2⟩
      rw [q1, decide_eq_true q2] at hp
      cases hp
  · have hb4 := ((hm2.trans hm3).trans hm4).blk hb1 id
    refine ldB (cs := e.cells.toArray) Tryd.underlying24 rfl iEx hb4 ?_
    refine CK_st Tryd.func18 rfl rfl (bexpr_ok e w4 (hok.mod hm14) (by omega)) ?_
    rintro _ w5 ⟨rfl, hm5⟩
    refine ⟨?_, hm14.trans hm5⟩
    rw [if_pos]
    cases h1 : e.may <;> cases h2 : decide (e.deep ≤ 32) <;> rw [h1, h2] at hp <;> simp_all
end Go.Proofs.YtmgmlnhahofipaaDoor.Tr
