/- What is wrong with expressions, statements: the chapter's. -/
import Derived.Test.YtbnbcimjapiicaaDoorSB
set_option linter.unusedVariables false
set_option linter.unusedSimpArgs false
set_option maxRecDepth 4000
namespace Go.Proofs.YtbnbcimjapiicaaDoor.Tr
open Go Go.X Go.RowKit Go.Proofs.YtbnbcimjapiicaaDoor.XG Go.Proofs.YtbnbcimjapiicaaDoor.XK

/-- What declarations tell of a name. -/
def kindP (l : List De) : Key → Int := fun k => (findP l k).kind
structure Decls (l : List De) : Prop where
  len : l.length ≤ 1099511627776
  may : ∀ d ∈ l, d.may = true
theorem uErrI : Tryd.prog.underlying 28 = some (.int .i64) := by kernel_rfl
/-- 'wrong', kept in a result's cell. -/
theorem wrong_res {w : World} {bW : Nat} {old : Array Value} {l c : Int} {x4 : Value} {R : Value → World → Prop} (hx : x4 = .pointer (some ⟨bW, 0, none⟩)) (hb : w.heap[bW]? = some (.cells old 30 (0, 0))) (ho : old.size = 3) (hk : ∀ w', Mod (fun i => i = bW) w w' → R (Wr.mk 40 l c).v w') :
    CK Tryd.prog (.func (.func 34) #[] #[]) [.int .i64 l, .int .i64 c] w fun x w => UK Tryd.prog (Instr.storeAt 30 x4 x) w fun _ w => ∃ v, (do loadVar 30 (← asAddr x4) : Sem Value).run Tryd.prog w = .ok v w ∧ R v w := by
  refine CK_st Tryd.func34 rfl rfl (Wrong_ok l c) ?_
  rintro _ w1 ⟨rfl, hm1⟩
  refine stS (old := old) (cs := (Wr.mk 40 l c).cells.toArray) hx rfl iWrg ho (wr_one _) (hm1.blk hb id) fun w2 hb2 hm2 _ => ?_
  rw [hx]
  exact ⟨_, res_ld (run_ldB (cs := (Wr.mk 40 l c).cells.toArray) Tryd.underlying30 rfl iWrg hb2), hk w2 ((hm1.mono fun _ _ q => q.elim).trans hm2)⟩
theorem exprR4_ok {ds : List De} (hD : Decls ds) {s : Value} : ∀ (e : Ex) (w : World), DesOk w s ds → e.Ok w → e.sz ≤ 1099511627776 → Rt Tryd.prog 59 #[s, .agg e.cells.toArray] w fun v w' => v = (e.wr (kindP ds)).v ∧ Mod none_ w w' := by
  intro e
  induction e using Ex.ind with
  | h e ih =>
    intro w hds hok hsz
    obtain ⟨A, c, hs, _⟩ := reads_cap hok.args.1
    have hszL : Ex.szL e.args ≤ 1099511627776 := by rw [Ex.sz_eq] at hsz; omega
    have hlen := Ex.len_sz e.args
    refine dispatcherref04_expr_calls ?_
    unfold dispatcherref04_expr_F
    refine box_k (cs := e.cells.toArray) rfl fun w1 hb1 hm1 hz1 => ?_
    refine al_k zWrg rfl _ fun w2 hb2 hm2 hz2 => ?_
    have hm12 := hm1.trans hm2
    have hb1' := hm2.blk hb1 id
    have d2 : FAt Tryd.prog w2 60 2 ⟨w.heap.size, 0, none⟩ 9 (.string e.name) := FAt.mk' (off := 2) (by kernel_rfl) uSt rfl (by rw [add_pl, cell_blk hb1']; rfl)
    refine d2.vk' fun x9 => ?_
    refine CK_st Tryd.func17 rfl rfl (Find_ok (hds.mod hm12) hD.len hD.may e.name) ?_
    rintro _ w3 ⟨rfl, hm3⟩
    rw [fldK]
    have hb3 := hm3.blk hb1' id
    have hb3w := hm3.blk hb2 id
    have hm13 := hm12.trans hm3
    have hW : (w1.heap.size) = w.heap.size + 1 := hz1
    generalize w1.heap.size = bW at *
    have d0 : FAt Tryd.prog w3 60 0 ⟨w.heap.size, 0, none⟩ 5 (.int .u8 e.op) := FAt.mk' (off := 0) (by kernel_rfl) uU8 rfl (by rw [add_pl, cell_blk hb3]; rfl)
    have d4 : FAt Tryd.prog w3 60 4 ⟨w.heap.size, 0, none⟩ 3 (.int .i64 e.line) := FAt.mk' (off := 4) (by kernel_rfl) uI rfl (by rw [add_pl, cell_blk hb3]; rfl)
    have d5 : FAt Tryd.prog w3 60 5 ⟨w.heap.size, 0, none⟩ 3 (.int .i64 e.col) := FAt.mk' (off := 5) (by kernel_rfl) uI rfl (by rw [add_pl, cell_blk hb3]; rfl)
    have loop : e.bad (kindP ds) = false → ∀ (ρ' : Sl), ρ' 0 = s → ρ' 3 = .pointer (some ⟨w.heap.size, 0, none⟩) → ρ' 4 = .pointer (some ⟨bW, 0, none⟩) → ρ' 6 = .int .i64 0 →
        W fn_ Tryd.prog 53 (Code.loop dispatcherref04_expr_L0) (blkK 0 (seqK (sx fn_ Tryd.prog 53 dispatcherref04_expr_R1 (retK Tryd.prog [ResultVar.cell 4 30] fun v w' => v = (e.wr (kindP ds)).v ∧ Mod none_ w w')) (retK Tryd.prog [ResultVar.cell 4 30] fun v w' => v = (e.wr (kindP ds)).v ∧ Mod none_ w w'))) ρ' w3 := by
      intro hb ρ' q0 q3 q4 q6
      rw [Ex.wr_eq, hb]
      simp only [Bool.false_eq_true, if_false]
      refine W_loop dispatcherref04_expr_L0_ok (fun ρ w' => ∃ n : Nat, n ≤ e.args.length ∧ ρ 6 = .int .i64 n ∧ ρ 0 = s ∧ ρ 3 = .pointer (some ⟨w.heap.size, 0, none⟩) ∧ ρ 4 = .pointer (some ⟨bW, 0, none⟩) ∧ (∀ a ∈ e.args.take n, (a.wr (kindP ds)).err = 0) ∧ Mod none_ w3 w') (fun ρ _ => e.args.length - (intOf (ρ 6)).toNat)
        ⟨0, Nat.zero_le _, q6, q0, q3, q4, by simp, Mod.refl _ _⟩ ?_
      rintro ρ w4 ⟨n, hn, h6, h0, h3, h4, hall, hm⟩
      have hb4 := hm.blk hb3 id
      have hb4w := hm.blk hb3w id
      have hm14 := hm13.trans hm
      have f3 : FAt Tryd.prog w4 60 3 ⟨w.heap.size, 0, none⟩ 58 (.slice A e.args.length c) := FAt.mk' (off := 3) (by kernel_rfl) uExs rfl (by rw [add_pl, cell_blk hb4, ← hs]; rfl)
      rw [dispatcherref04_expr_L0_eq]
      unfold dispatcherref04_expr_L0_F
      rw [h3, h6, h0]
      refine f3.vk' fun x35 => ?_
      rw [len58]
      refine BKlss (a := n) (b := e.args.length) rfl rfl ?_
      by_cases hlt : n < e.args.length
      · rw [show decide ((n : Int) < (e.args.length : Int)) = true by rw [decide_eq_true_eq]; omega]
        refine condT ?_
        have hx : e.args[n]? = some e.args[n] := List.getElem?_eq_getElem hlt
        have hmem : e.args[n] ∈ e.args := List.getElem_mem hlt
        refine f3.vk' fun x42 => ?_
        have hok4 := hok.args.mod hm14
        rw [hs] at hok4
        refine ixEx hok4 hx fun y => ?_
        have hs2 := Ex.szL_at hx
        refine CK_st Tryd.func59 rfl rfl (ih _ hmem w4 (hds.mod hm14) (hok4.at hx) (by omega)) ?_
        rintro _ w5 ⟨rfl, hm5⟩
        have hb5w := hm5.blk hb4w id
        refine lcl_k (cs := (e.args[n].wr (kindP ds)).cells.toArray) zWrg _ iWrg rfl (wr_one _) fun w6 hb6 hm6 hz6 => ?_
        have hb6w := hm6.blk hb5w id
        have hm16 := (hm14.trans hm5).trans hm6
        generalize w5.heap.size = b6 at *
        have g0 : FAt Tryd.prog w6 30 0 ⟨b6, 0, none⟩ 28 (.int .i64 (e.args[n].wr (kindP ds)).err) := FAt.mk' (off := 0) (by kernel_rfl) uErrI rfl (by rw [add_pl, cell_blk hb6]; rfl)
        refine g0.vk' fun x48 => ?_
        refine BKneI (a := (e.args[n].wr (kindP ds)).err) (b := 0) rfl rfl (fun hz => condF ?_) (fun hz => condT ?_)
        · refine BKadd (a := n) (b := 1) rfl rfl (by omega) (by omega) ?_
          refine ⟨⟨n + 1, hlt, rfl, h0, h3, h4, ?_, (hm.trans hm5).trans hm6⟩, ?_⟩
          · rw [List.take_add_one, hx, Option.toList_some]
            intro a q
            rcases List.mem_append.1 q with q | q
            · exact hall a q
            · rw [List.mem_singleton.1 q]; exact hz
          · show e.args.length - (intOf (Value.int .i64 ((n : Int) + 1))).toNat < _
            simp only [intOf]; omega
        · refine ldS (cs := (e.args[n].wr (kindP ds)).cells.toArray) rfl Tryd.underlying30 rfl iWrg hb6 ?_
          refine stS (old := zWr.cells.toArray) (cs := (e.args[n].wr (kindP ds)).cells.toArray) h4 rfl iWrg rfl (wr_one _) hb6w fun w7 hb7 hm7 _ => ?_
          rw [sq_r, bk_r, sq_r]
          refine rtCell (b := bW) (cs := (e.args[n].wr (kindP ds)).cells.toArray) ?_ Tryd.underlying30 rfl iWrg hb7 ⟨?_, hm16.then hm7 (fun i hi q => absurd q (by omega))⟩
          · exact h4
          · rw [Ex.wrL_at hx hall hz]; rfl
      · obtain rfl : n = e.args.length := by omega
        rw [show decide (((e.args.length : Nat) : Int) < (e.args.length : Int)) = false by simp]
        refine condF ?_
        rw [sq_x, bk_x, sq_n, dispatcherref04_expr_R1_eq]
        unfold dispatcherref04_expr_R1_F
        rw [List.take_length] at hall
        rw [build_ok bWr0]
        refine stS (old := zWr.cells.toArray) (cs := zWr.cells.toArray) h4 rfl iWrg rfl (wr_one _) hb4w fun w7 hb7 hm7 _ => ?_
        refine rtCell (b := bW) (cs := zWr.cells.toArray) ?_ Tryd.underlying30 rfl iWrg hb7 ⟨?_, hm14.then hm7 (fun i hi q => absurd q (by omega))⟩
        · exact h4
        · rw [Ex.wrL_all hall]; rfl
    refine d0.vk' fun x13 => ?_
    have kk : ∀ k : Int, (findP ds e.name.data.toList).kind = k → kindP ds e.name.data.toList = k := fun _ q => q
    refine caseI (fun h2 => ?_) (fun h2 => ?_)
    · simp only [CondK_bool, MG_u, NG_u, VG_u, UG_u, PG_u, BG_u, CG_u, IG_u, MG_b, NG_b, VG_b, UG_b, PG_b, BG_b, CG_b, IG_b, PK_bool, NK_ptr, not_ok, reduceCtorEq, if_true, if_false, Bool.true_eq_false, Bool.false_eq_true, Bool.not_true, Bool.not_false]
      refine BKneI (a := (findP ds e.name.data.toList).kind) (b := 1) rfl rfl (fun hk => ?_) (fun hk => ?_)
      · simp only [CondK_bool, MG_u, NG_u, VG_u, UG_u, PG_u, BG_u, CG_u, IG_u, MG_b, NG_b, VG_b, UG_b, PG_b, BG_b, CG_b, IG_b, PK_bool, NK_ptr, not_ok, reduceCtorEq, if_true, if_false, Bool.true_eq_false, Bool.false_eq_true, Bool.not_true, Bool.not_false]
        refine d0.vk' fun x21 => ?_
        refine caseI (fun h3 => absurd (h2.symm.trans h3) (by decide)) (fun h3 => ?_)
        simp only [CondK_bool, MG_u, NG_u, VG_u, UG_u, PG_u, BG_u, CG_u, IG_u, MG_b, NG_b, VG_b, UG_b, PG_b, BG_b, CG_b, IG_b, PK_bool, NK_ptr, not_ok, reduceCtorEq, if_true, if_false, Bool.true_eq_false, Bool.false_eq_true, Bool.not_true, Bool.not_false]
        refine loop ?_ _ rfl rfl rfl rfl
        unfold Ex.bad kindP
        rw [h2, hk]; rfl
      · simp only [CondK_bool, MG_u, NG_u, VG_u, UG_u, PG_u, BG_u, CG_u, IG_u, MG_b, NG_b, VG_b, UG_b, PG_b, BG_b, CG_b, IG_b, PK_bool, NK_ptr, not_ok, reduceCtorEq, if_true, if_false, Bool.true_eq_false, Bool.false_eq_true, Bool.not_true, Bool.not_false]
        refine d4.vk' fun x29 => d5.vk' fun x31 => ?_
        refine wrong_res rfl hb3w rfl fun w4 hm4 => ⟨?_, hm13.then hm4 (fun i hi q => absurd q (by omega))⟩
        rw [Ex.wr_eq, if_pos]
        unfold Ex.bad kindP
        rw [decide_eq_true ⟨h2, hk⟩]; rfl
    · simp only [CondK_bool, MG_u, NG_u, VG_u, UG_u, PG_u, BG_u, CG_u, IG_u, MG_b, NG_b, VG_b, UG_b, PG_b, BG_b, CG_b, IG_b, PK_bool, NK_ptr, not_ok, reduceCtorEq, if_true, if_false, Bool.true_eq_false, Bool.false_eq_true, Bool.not_true, Bool.not_false]
      refine d0.vk' fun x21 => ?_
      refine caseI (fun h3 => ?_) (fun h3 => ?_)
      · simp only [CondK_bool, MG_u, NG_u, VG_u, UG_u, PG_u, BG_u, CG_u, IG_u, MG_b, NG_b, VG_b, UG_b, PG_b, BG_b, CG_b, IG_b, PK_bool, NK_ptr, not_ok, reduceCtorEq, if_true, if_false, Bool.true_eq_false, Bool.false_eq_true, Bool.not_true, Bool.not_false]
        refine BKneI (a := (findP ds e.name.data.toList).kind) (b := 2) rfl rfl (fun hk => ?_) (fun hk => ?_)
        · simp only [CondK_bool, MG_u, NG_u, VG_u, UG_u, PG_u, BG_u, CG_u, IG_u, MG_b, NG_b, VG_b, UG_b, PG_b, BG_b, CG_b, IG_b, PK_bool, NK_ptr, not_ok, reduceCtorEq, if_true, if_false, Bool.true_eq_false, Bool.false_eq_true, Bool.not_true, Bool.not_false]
          refine loop ?_ _ rfl rfl rfl rfl
          unfold Ex.bad kindP
          rw [h3, hk]; rfl
        · simp only [CondK_bool, MG_u, NG_u, VG_u, UG_u, PG_u, BG_u, CG_u, IG_u, MG_b, NG_b, VG_b, UG_b, PG_b, BG_b, CG_b, IG_b, PK_bool, NK_ptr, not_ok, reduceCtorEq, if_true, if_false, Bool.true_eq_false, Bool.false_eq_true, Bool.not_true, Bool.not_false]
          refine d4.vk' fun x29 => d5.vk' fun x31 => ?_
          refine wrong_res rfl hb3w rfl fun w4 hm4 => ⟨?_, hm13.then hm4 (fun i hi q => absurd q (by omega))⟩
          rw [Ex.wr_eq, if_pos]
          unfold Ex.bad kindP
          rw [decide_eq_true (⟨h3, hk⟩ : e.op = 3 ∧ (findP ds e.name.data.toList).kind ≠ 2), Bool.or_true]
      · simp only [CondK_bool, MG_u, NG_u, VG_u, UG_u, PG_u, BG_u, CG_u, IG_u, MG_b, NG_b, VG_b, UG_b, PG_b, BG_b, CG_b, IG_b, PK_bool, NK_ptr, not_ok, reduceCtorEq, if_true, if_false, Bool.true_eq_false, Bool.false_eq_true, Bool.not_true, Bool.not_false]
        refine loop ?_ _ rfl rfl rfl rfl
        unfold Ex.bad kindP
        simp [h2, h3]
end Go.Proofs.YtbnbcimjapiicaaDoor.Tr
