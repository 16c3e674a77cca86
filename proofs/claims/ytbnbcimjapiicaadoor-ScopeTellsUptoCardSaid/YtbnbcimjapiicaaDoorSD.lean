/- What is wrong with statements: the chapter's. -/
import Derived.Test.YtbnbcimjapiicaaDoorSC
set_option linter.unusedVariables false
set_option linter.unusedSimpArgs false
set_option maxRecDepth 4000
namespace Go.Proofs.YtbnbcimjapiicaaDoor.Tr
open Go Go.X Go.RowKit Go.Proofs.YtbnbcimjapiicaaDoor.XG Go.Proofs.YtbnbcimjapiicaaDoor.XK

def StR4 (ds : List De) (s : Value) (l : List St) : Prop := ∀ (w : World) (v : Value), DesOk w s ds → StsOk w v l → St.szL l ≤ 1099511627776 → Rt Tryd.prog 36 #[s, v] w fun v w' => v = (St.wrL (kindP ds) l).v ∧ Mod none_ w w'
theorem stR4_row {ds : List De} (hD : Decls ds) {s : Value} {l : List St} (ih : ∀ a ∈ l, StR4 ds s a.body ∧ StR4 ds s a.els) : StR4 ds s l := by
  intro w v hds hok hsz
  obtain ⟨A, c, hs, _⟩ := reads_cap hok.1
  have hlen := St.len_sz l
  refine dispatcherref04_stmts_calls ?_
  unfold dispatcherref04_stmts_F
  refine al_k zWrg rfl _ fun w1 hb1 hm1 hz1 => ?_
  have hbW : w.heap.size < w1.heap.size := by omega
  have hnew : ∀ i, i < w.heap.size → ¬ i = w.heap.size := fun i hi q => absurd q (by omega)
  generalize hW : w.heap.size = bW at hb1 hbW hnew ⊢
  refine W_loop dispatcherref04_stmts_L0_ok (fun ρ w' => ∃ n : Nat, n ≤ l.length ∧ ρ 5 = .int .i64 n ∧ ρ 0 = s ∧ ρ 1 = .slice A l.length c ∧ ρ 4 = .pointer (some ⟨bW, 0, none⟩) ∧ (∀ a ∈ l.take n, (a.wr (kindP ds)).err = 0) ∧ Mod none_ w1 w') (fun ρ _ => l.length - (intOf (ρ 5)).toNat)
    ⟨0, Nat.zero_le _, rfl, rfl, hs, rfl, by simp, Mod.refl _ _⟩ ?_
  rintro ρ w2 ⟨n, hn, h5, h0, h1, h4, hall, hm⟩
  have h : ∀ K : Exit → Sl → World → Prop, (∀ ρ' w', n < l.length → ρ' 5 = .int .i64 ((n : Int) + 1) → ρ' 0 = s → ρ' 1 = .slice A l.length c → ρ' 4 = .pointer (some ⟨bW, 0, none⟩) → (∀ a ∈ l.take (n + 1), (a.wr (kindP ds)).err = 0) → Mod none_ w1 w' → K .normal ρ' w') →
      (∀ ρ' w', ρ' 4 = .pointer (some ⟨bW, 0, none⟩) → w'.heap[bW]? = some (.cells (St.wrL (kindP ds) l).cells.toArray 30 (0, 0)) → Mod none_ w w' → K .ret ρ' w') →
      (∀ ρ', ρ' 4 = .pointer (some ⟨bW, 0, none⟩) → n = l.length → K (.exit 0) ρ' w2) → sx fn_ Tryd.prog 86 dispatcherref04_stmts_L0 K ρ w2 := by
    intro K kN kR kX
    have hb2 := hm.blk hb1 id
    have hm2 := hm1.trans hm
    rw [dispatcherref04_stmts_L0_eq]
    unfold dispatcherref04_stmts_L0_F
    rw [h1, h5, len23]
    refine BKlss (a := n) (b := l.length) rfl rfl ?_
    by_cases hlt : n < l.length
    · rw [show decide ((n : Int) < (l.length : Int)) = true by rw [decide_eq_true_eq]; omega]
      refine condT ?_
      have hx : l[n]? = some l[n] := List.getElem?_eq_getElem hlt
      have hmem : l[n] ∈ l := List.getElem_mem hlt
      have hok2 := hok.mod hm2
      rw [hs] at hok2
      have hds2 := hds.mod hm2
      refine ixSt hok2 hx fun y => ?_
      have hoke := hok2.at hx
      have hsn := St.szL_at hx
      have hsz2 := St.sz_eq l[n]
      obtain ⟨ihB, ihE⟩ := ih _ hmem
      refine lcl_k (cs := l[n].cells.toArray) zSt _ iSt rfl (st_one hoke) fun w3 hb3 hm3 hz3 => ?_
      have hb3w := hm3.blk hb2 id
      have hds3 := hds2.mod hm3
      have hoke3 := hoke.mod hm3
      have hmA := hm.trans hm3
      generalize w2.heap.size = bS at *
      have d3 : FAt Tryd.prog w3 62 3 ⟨bS, 0, none⟩ 9 (.string l[n].name) := FAt.mk' (off := 3) (by kernel_rfl) uSt rfl (by rw [add_pl, cell_blk hb3]; rfl)
      refine d3.vk' fun x22 => ?_
      rw [h0]
      refine CK_st Tryd.func17 rfl rfl (Find_ok hds3 hD.len hD.may l[n].name) ?_
      rintro _ w4 ⟨rfl, hm4⟩
      rw [fldK]
      have hb4 := hm4.blk hb3 id
      have hb4w := hm4.blk hb3w id
      have hmB := hmA.trans hm4
      have hds4 := hds3.mod hm4
      have hoke4 := hoke3.mod hm4
      clear hm3 hm4 hds3 hoke3 hds2 hoke hok2 hb3 hb3w hmA hz3
      have d0 : FAt Tryd.prog w4 62 0 ⟨bS, 0, none⟩ 5 (.int .u8 l[n].op) := FAt.mk' (off := 0) (by kernel_rfl) uU8 rfl (by rw [add_pl, cell_blk hb4]; rfl)
      have d8 : FAt Tryd.prog w4 62 8 ⟨bS, 0, none⟩ 3 (.int .i64 l[n].line) := FAt.mk' (off := 8) (by kernel_rfl) uI rfl (by rw [add_pl, cell_blk hb4]; rfl)
      have d9 : FAt Tryd.prog w4 62 9 ⟨bS, 0, none⟩ 3 (.int .i64 l[n].col) := FAt.mk' (off := 9) (by kernel_rfl) uI rfl (by rw [add_pl, cell_blk hb4]; rfl)
      -- the answer is this statement's
      have ans : (l[n].wr (kindP ds)).err ≠ 0 → St.wrL (kindP ds) l = l[n].wr (kindP ds) := St.wrL_at hx hall
      have bad : l[n].bad (kindP ds) = true → ∀ (x4 : Value) (N : Value → World → Prop), x4 = .pointer (some ⟨bW, 0, none⟩) → (∀ x w', w'.heap[bW]? = some (.cells (St.wrL (kindP ds) l).cells.toArray 30 (0, 0)) → Mod none_ w w' → N x w') →
          CK Tryd.prog (.func (.func 34) #[] #[]) [.int .i64 l[n].line, .int .i64 l[n].col] w4 fun x w => UK Tryd.prog (Instr.storeAt 30 x4 x) w fun _ w => N x w := by
        intro hb x4 N q hk
        have e : l[n].wr (kindP ds) = ⟨40, l[n].line, l[n].col⟩ := by rw [St.wr_eq, if_pos hb]
        have e2 := ans (by rw [e]; simp)
        rw [e] at e2
        rw [e2] at hk
        refine CK_st Tryd.func34 rfl rfl (Wrong_ok l[n].line l[n].col) ?_
        rintro _ w5 ⟨rfl, hm5⟩
        exact stS (old := zWr.cells.toArray) (cs := (Wr.mk 40 l[n].line l[n].col).cells.toArray) q rfl iWrg rfl (wr_one _) (hm5.blk hb4w id) fun w6 hb6 hm6 _ => hk _ w6 hb6 (((hm1.trans hmB).trans hm5).then hm6 fun i hi q => hnew i (by omega) q)
      -- behind the bodies
      have r5 : ∀ (ρ' : Sl) (w5 : World) (r : Wr) (b10 : Nat), (l[n].wr (kindP ds)) = r → ρ' 10 = .pointer (some ⟨b10, 0, none⟩) → w5.heap[b10]? = some (.cells r.cells.toArray 30 (0, 0)) → w5.heap[bW]? = some (.cells zWr.cells.toArray 30 (0, 0)) →
          ρ' 4 = .pointer (some ⟨bW, 0, none⟩) → ρ' 5 = .int .i64 n → ρ' 0 = s → ρ' 1 = .slice A l.length c → Mod none_ w1 w5 → sx fn_ Tryd.prog 86 dispatcherref04_stmts_R5 (blkK 1 (seqK (sx fn_ Tryd.prog 86 dispatcherref04_stmts_R4 K) K)) ρ' w5 := by
        intro ρ' w5 r b10 hr q10 hb10 hbw q4 q5 q0 q1 hm5
        have g0 : FAt Tryd.prog w5 30 0 ⟨b10, 0, none⟩ 28 (.int .i64 r.err) := FAt.mk' (off := 0) (by kernel_rfl) uErrI rfl (by rw [add_pl, cell_blk hb10]; rfl)
        rw [dispatcherref04_stmts_R5_eq]
        unfold dispatcherref04_stmts_R5_F
        rw [q10]
        refine g0.vk' fun x48 => ?_
        refine BKneI (a := r.err) (b := 0) rfl rfl (fun hz => condF ?_) (fun hz => condT ?_)
        · rw [bk_n, sq_n, dispatcherref04_stmts_R4_eq]
          unfold dispatcherref04_stmts_R4_F
          refine BKadd (a := n) (b := 1) ?_ rfl (by omega) (by omega) ?_
          · exact q5
          refine kN _ _ hlt rfl ?_ ?_ ?_ ?_ hm5
          · exact q0
          · exact q1
          · exact q4
          · rw [List.take_add_one, hx, Option.toList_some]
            intro a q
            rcases List.mem_append.1 q with q | q
            · exact hall a q
            · rw [List.mem_singleton.1 q, hr]; exact hz
        · refine ldS (cs := r.cells.toArray) rfl Tryd.underlying30 rfl iWrg hb10 ?_
          refine stS (old := zWr.cells.toArray) (cs := r.cells.toArray) q4 rfl iWrg rfl (wr_one _) hbw fun w6 hb6 hm6 _ => ?_
          rw [bk_r, sq_r]
          refine kR _ _ ?_ ?_ ((hm1.trans hm5).then hm6 fun i hi q => hnew i (by omega) q)
          · exact q4
          · rw [ans (by rw [hr]; exact hz), hr]; exact hb6
      have good : l[n].bad (kindP ds) = false → ∀ (ρ' : Sl), ρ' 0 = s → ρ' 1 = .slice A l.length c → ρ' 4 = .pointer (some ⟨bW, 0, none⟩) → ρ' 5 = .int .i64 n → ρ' 6 = .pointer (some ⟨bS, 0, none⟩) → ρ' 8 = .int .i64 0 →
          W fn_ Tryd.prog 86 (Code.loop dispatcherref04_stmts_L2) (blkK 2 (seqK (sx fn_ Tryd.prog 86 dispatcherref04_stmts_R3 (blkK 1 (seqK (sx fn_ Tryd.prog 86 dispatcherref04_stmts_R4 K) K))) (blkK 1 (seqK (sx fn_ Tryd.prog 86 dispatcherref04_stmts_R4 K) K)))) ρ' w4 := by
        intro hb ρ' q0 q1 q4 q5 q6 q8
        have hwr := St.wr_eq (kindP ds) l[n]
        rw [hb] at hwr
        simp only [Bool.false_eq_true, if_false] at hwr
        obtain ⟨A', c', hs', _⟩ := reads_cap hoke4.exprs.1
        have hlx := Ex.len_sz l[n].exprs
        refine W_loop dispatcherref04_stmts_L2_ok (fun ρ w' => ∃ m : Nat, m ≤ l[n].exprs.length ∧ ρ 8 = .int .i64 m ∧ ρ 0 = s ∧ ρ 1 = .slice A l.length c ∧ ρ 4 = .pointer (some ⟨bW, 0, none⟩) ∧ ρ 5 = .int .i64 n ∧ ρ 6 = .pointer (some ⟨bS, 0, none⟩) ∧ (∀ a ∈ l[n].exprs.take m, (a.wr (kindP ds)).err = 0) ∧ Mod none_ w4 w') (fun ρ _ => l[n].exprs.length - (intOf (ρ 8)).toNat)
          ⟨0, Nat.zero_le _, q8, q0, q1, q4, q5, q6, by simp, Mod.refl _ _⟩ ?_
        rintro ρ w5 ⟨m, hmn, h8, h0, h1, h4, h5, h6, hall2, hm5⟩
        have hb5 := hm5.blk hb4 id
        have hb5w := hm5.blk hb4w id
        have hmC := hmB.trans hm5
        have f5 : FAt Tryd.prog w5 62 5 ⟨bS, 0, none⟩ 58 (.slice A' l[n].exprs.length c') := FAt.mk' (off := 5) (by kernel_rfl) uExs rfl (by rw [add_pl, cell_blk hb5, ← hs']; rfl)
        rw [dispatcherref04_stmts_L2_eq]
        unfold dispatcherref04_stmts_L2_F
        rw [h6, h8, h0]
        refine f5.vk' fun x53 => ?_
        rw [len58]
        refine BKlss (a := m) (b := l[n].exprs.length) rfl rfl ?_
        by_cases hlt2 : m < l[n].exprs.length
        · rw [show decide ((m : Int) < (l[n].exprs.length : Int)) = true by rw [decide_eq_true_eq]; omega]
          refine condT ?_
          have hxj : l[n].exprs[m]? = some l[n].exprs[m] := List.getElem?_eq_getElem hlt2
          refine f5.vk' fun x60 => ?_
          have hok5 := hoke4.exprs.mod hm5
          rw [hs'] at hok5
          refine ixEx hok5 hxj fun y => ?_
          have hsj := Ex.szL_at hxj
          refine CK_st Tryd.func59 rfl rfl (exprR4_ok hD _ w5 (hds4.mod hm5) (hok5.at hxj) (by omega)) ?_
          rintro _ w6 ⟨rfl, hm6⟩
          have hb6w := hm6.blk hb5w id
          refine lcl_k (cs := (l[n].exprs[m].wr (kindP ds)).cells.toArray) zWrg _ iWrg rfl (wr_one _) fun w7 hb7 hm7 hz7 => ?_
          have hb7w := hm7.blk hb6w id
          have hmD := (hmC.trans hm6).trans hm7
          generalize w6.heap.size = b9 at *
          have g0 : FAt Tryd.prog w7 30 0 ⟨b9, 0, none⟩ 28 (.int .i64 (l[n].exprs[m].wr (kindP ds)).err) := FAt.mk' (off := 0) (by kernel_rfl) uErrI rfl (by rw [add_pl, cell_blk hb7]; rfl)
          refine g0.vk' fun x66 => ?_
          refine BKneI (a := (l[n].exprs[m].wr (kindP ds)).err) (b := 0) rfl rfl (fun hz => condF ?_) (fun hz => condT ?_)
          · refine BKadd (a := m) (b := 1) rfl rfl (by omega) (by omega) ?_
            refine ⟨⟨m + 1, hlt2, rfl, h0, h1, h4, h5, h6, ?_, (hm5.trans hm6).trans hm7⟩, ?_⟩
            · rw [List.take_add_one, hxj, Option.toList_some]
              intro a q
              rcases List.mem_append.1 q with q | q
              · exact hall2 a q
              · rw [List.mem_singleton.1 q]; exact hz
            · show l[n].exprs.length - (intOf (Value.int .i64 ((m : Int) + 1))).toNat < _
              simp only [intOf]; omega
          · have e1 := Ex.wrL_at hxj hall2 hz
            rw [e1, if_neg hz] at hwr
            refine ldS (cs := (l[n].exprs[m].wr (kindP ds)).cells.toArray) rfl Tryd.underlying30 rfl iWrg hb7 ?_
            refine stS (old := zWr.cells.toArray) (cs := (l[n].exprs[m].wr (kindP ds)).cells.toArray) h4 rfl iWrg rfl (wr_one _) hb7w fun w8 hb8 hm8 _ => ?_
            rw [sq_r, bk_r, sq_r, bk_r, sq_r]
            refine kR _ _ ?_ ?_ ((hm1.trans hmD).then hm8 fun i hi q => hnew i (by omega) q)
            · exact h4
            · rw [ans (by rw [hwr]; exact hz), hwr]; exact hb8
        · obtain rfl : m = l[n].exprs.length := by omega
          rw [show decide (((l[n].exprs.length : Nat) : Int) < (l[n].exprs.length : Int)) = false by simp]
          refine condF ?_
          rw [List.take_length] at hall2
          rw [Ex.wrL_all hall2] at hwr
          rw [if_pos (show zWr.err = 0 from rfl)] at hwr
          rw [sq_x, bk_x, sq_n, dispatcherref04_stmts_R3_eq]
          unfold dispatcherref04_stmts_R3_F
          have f6 : ∀ w', w'.heap[bS]? = some (.cells l[n].cells.toArray 62 (0, 0)) → FAt Tryd.prog w' 62 6 ⟨bS, 0, none⟩ 23 l[n].bs := fun w' hb => FAt.mk' (off := 6) (by kernel_rfl) uSts rfl (by rw [add_pl, cell_blk hb]; rfl)
          have f7 : ∀ w', w'.heap[bS]? = some (.cells l[n].cells.toArray 62 (0, 0)) → FAt Tryd.prog w' 62 7 ⟨bS, 0, none⟩ 23 l[n].ls := fun w' hb => FAt.mk' (off := 7) (by kernel_rfl) uSts rfl (by rw [add_pl, cell_blk hb]; rfl)
          have hoke5 := hoke4.mod hm5
          refine (f6 _ hb5).vs ?_ fun x71 => ?_
          · exact h6
          refine CK_eq (bs := [s, l[n].bs]) rfl ?_ (CK_st Tryd.func36 rfl rfl (ihB w5 _ (hds4.mod hm5) hoke5.body (by omega)) ?_)
          · exact congrArg (fun z => [z, l[n].bs]) h0
          rintro _ w6 ⟨rfl, hm6⟩
          refine lcl_k (cs := (St.wrL (kindP ds) l[n].body).cells.toArray) zWrg _ iWrg rfl (wr_one _) fun w7 hb7 hm7 hz7 => ?_
          have hb6s := (hm6.trans hm7).blk hb5 id
          have hb6w := (hm6.trans hm7).blk hb5w id
          have hmD := (hmC.trans hm6).trans hm7
          have hlt10 : w5.heap.size ≤ w6.heap.size := hm6.size
          have hlt4 : bS < w5.heap.size := blk_lt hb5
          have hltw : bW < w5.heap.size := blk_lt hb5w
          have hw15 : w5.heap.size ≤ w6.heap.size := hm6.size
          have hz6 : Mod none_ w5 w7 := hm6.trans hm7
          generalize hb10 : w6.heap.size = b10 at *
          have g0 : FAt Tryd.prog w7 30 0 ⟨b10, 0, none⟩ 28 (.int .i64 (St.wrL (kindP ds) l[n].body).err) := FAt.mk' (off := 0) (by kernel_rfl) uErrI rfl (by rw [add_pl, cell_blk hb7]; rfl)
          refine g0.vk' fun x74 => ?_
          refine BKeqI (a := (St.wrL (kindP ds) l[n].body).err) (b := 0) rfl rfl (fun hz => condT ?_) (fun hz => condF ?_)
          · rw [if_pos hz] at hwr
            refine (f7 _ hb6s).vs ?_ fun x78 => ?_
            · exact h6
            refine CK_eq (bs := [s, l[n].ls]) rfl ?_ (CK_st Tryd.func36 rfl rfl (ihE w7 _ ((hds4.mod hm5).mod hz6) (hoke5.mod hz6).els (by omega)) ?_)
            · exact congrArg (fun z => [z, l[n].ls]) h0
            rintro _ w8 ⟨rfl, hm8⟩
            refine stS (old := (St.wrL (kindP ds) l[n].body).cells.toArray) (cs := (St.wrL (kindP ds) l[n].els).cells.toArray) rfl rfl iWrg rfl (wr_one _) (hm8.blk hb7 id) fun w9 hb9 hm9 _ => ?_
            refine r5 _ w9 _ b10 hwr ?_ hb9 (hm9.blk (hm8.blk hb6w id) (by omega)) ?_ ?_ ?_ ?_ ?_
            · rfl
            · exact h4
            · exact h5
            · exact h0
            · exact h1
            · exact (hmD.trans hm8).then hm9 fun i hi q => by
                have := hmC.size
                omega
          · rw [if_neg hz] at hwr
            refine r5 _ w7 _ b10 hwr ?_ hb7 hb6w ?_ ?_ ?_ ?_ hmD
            · rfl
            · exact h4
            · exact h5
            · exact h0
            · exact h1
      refine d0.vk' fun x26 => ?_
      refine caseI (fun k1 => ?_) (fun k1 => ?_)
      · simp only [CondK_bool, MG_u, NG_u, VG_u, UG_u, PG_u, BG_u, CG_u, IG_u, MG_b, NG_b, VG_b, UG_b, PG_b, BG_b, CG_b, IG_b, PK_bool, NK_ptr, not_ok, reduceCtorEq, if_true, if_false, Bool.true_eq_false, Bool.false_eq_true, Bool.not_true, Bool.not_false]
        refine BKneI (a := (findP ds l[n].name.data.toList).kind) (b := 1) rfl rfl (fun hk => ?_) (fun hk => ?_)
        · simp only [CondK_bool, MG_u, NG_u, VG_u, UG_u, PG_u, BG_u, CG_u, IG_u, MG_b, NG_b, VG_b, UG_b, PG_b, BG_b, CG_b, IG_b, PK_bool, NK_ptr, not_ok, reduceCtorEq, if_true, if_false, Bool.true_eq_false, Bool.false_eq_true, Bool.not_true, Bool.not_false]
          refine d0.vk' fun x39 => ?_
          refine caseI (fun h3 => absurd (k1.symm.trans h3) (by decide)) (fun h3 => ?_)
          simp only [CondK_bool, MG_u, NG_u, VG_u, UG_u, PG_u, BG_u, CG_u, IG_u, MG_b, NG_b, VG_b, UG_b, PG_b, BG_b, CG_b, IG_b, PK_bool, NK_ptr, not_ok, reduceCtorEq, if_true, if_false, Bool.true_eq_false, Bool.false_eq_true, Bool.not_true, Bool.not_false]
          refine good ?_ _ ?_ ?_ ?_ ?_ rfl rfl
          · unfold St.bad kindP; rw [k1, hk]; rfl
          · exact h0
          · exact h1
          · exact h4
          · exact h5
        · simp only [CondK_bool, MG_u, NG_u, VG_u, UG_u, PG_u, BG_u, CG_u, IG_u, MG_b, NG_b, VG_b, UG_b, PG_b, BG_b, CG_b, IG_b, PK_bool, NK_ptr, not_ok, reduceCtorEq, if_true, if_false, Bool.true_eq_false, Bool.false_eq_true, Bool.not_true, Bool.not_false]
          refine d8.vk' fun x29 => d9.vk' fun x31 => ?_
          refine bad ?_ _ _ ?_ fun x w' a b => kR _ _ ?_ a b
          · unfold St.bad kindP; rw [decide_eq_true (⟨Or.inl k1, hk⟩ : (l[n].op = 1 ∨ l[n].op = 5) ∧ (findP ds l[n].name.data.toList).kind ≠ 1)]; rfl
          · exact h4
          · exact h4
      · simp only [CondK_bool, MG_u, NG_u, VG_u, UG_u, PG_u, BG_u, CG_u, IG_u, MG_b, NG_b, VG_b, UG_b, PG_b, BG_b, CG_b, IG_b, PK_bool, NK_ptr, not_ok, reduceCtorEq, if_true, if_false, Bool.true_eq_false, Bool.false_eq_true, Bool.not_true, Bool.not_false]
        refine d0.vk' fun x30 => ?_
        refine caseI (fun k5 => ?_) (fun k5 => ?_)
        · simp only [CondK_bool, MG_u, NG_u, VG_u, UG_u, PG_u, BG_u, CG_u, IG_u, MG_b, NG_b, VG_b, UG_b, PG_b, BG_b, CG_b, IG_b, PK_bool, NK_ptr, not_ok, reduceCtorEq, if_true, if_false, Bool.true_eq_false, Bool.false_eq_true, Bool.not_true, Bool.not_false]
          refine BKneI (a := (findP ds l[n].name.data.toList).kind) (b := 1) rfl rfl (fun hk => ?_) (fun hk => ?_)
          · simp only [CondK_bool, MG_u, NG_u, VG_u, UG_u, PG_u, BG_u, CG_u, IG_u, MG_b, NG_b, VG_b, UG_b, PG_b, BG_b, CG_b, IG_b, PK_bool, NK_ptr, not_ok, reduceCtorEq, if_true, if_false, Bool.true_eq_false, Bool.false_eq_true, Bool.not_true, Bool.not_false]
            refine d0.vk' fun x39 => ?_
            refine caseI (fun h3 => absurd (k5.symm.trans h3) (by decide)) (fun h3 => ?_)
            simp only [CondK_bool, MG_u, NG_u, VG_u, UG_u, PG_u, BG_u, CG_u, IG_u, MG_b, NG_b, VG_b, UG_b, PG_b, BG_b, CG_b, IG_b, PK_bool, NK_ptr, not_ok, reduceCtorEq, if_true, if_false, Bool.true_eq_false, Bool.false_eq_true, Bool.not_true, Bool.not_false]
            refine good ?_ _ ?_ ?_ ?_ ?_ rfl rfl
            · unfold St.bad kindP; rw [k5, hk]; rfl
            · exact h0
            · exact h1
            · exact h4
            · exact h5
          · simp only [CondK_bool, MG_u, NG_u, VG_u, UG_u, PG_u, BG_u, CG_u, IG_u, MG_b, NG_b, VG_b, UG_b, PG_b, BG_b, CG_b, IG_b, PK_bool, NK_ptr, not_ok, reduceCtorEq, if_true, if_false, Bool.true_eq_false, Bool.false_eq_true, Bool.not_true, Bool.not_false]
            refine d8.vk' fun x29 => d9.vk' fun x31 => ?_
            refine bad ?_ _ _ ?_ fun x w' a b => kR _ _ ?_ a b
            · unfold St.bad kindP; rw [decide_eq_true (⟨Or.inr k5, hk⟩ : (l[n].op = 1 ∨ l[n].op = 5) ∧ (findP ds l[n].name.data.toList).kind ≠ 1)]; rfl
            · exact h4
            · exact h4
        · simp only [CondK_bool, MG_u, NG_u, VG_u, UG_u, PG_u, BG_u, CG_u, IG_u, MG_b, NG_b, VG_b, UG_b, PG_b, BG_b, CG_b, IG_b, PK_bool, NK_ptr, not_ok, reduceCtorEq, if_true, if_false, Bool.true_eq_false, Bool.false_eq_true, Bool.not_true, Bool.not_false]
          refine d0.vk' fun x39 => ?_
          refine caseI (fun k2 => ?_) (fun k2 => ?_)
          · simp only [CondK_bool, MG_u, NG_u, VG_u, UG_u, PG_u, BG_u, CG_u, IG_u, MG_b, NG_b, VG_b, UG_b, PG_b, BG_b, CG_b, IG_b, PK_bool, NK_ptr, not_ok, reduceCtorEq, if_true, if_false, Bool.true_eq_false, Bool.false_eq_true, Bool.not_true, Bool.not_false]
            refine BKneI (a := (findP ds l[n].name.data.toList).kind) (b := 2) rfl rfl (fun hk => ?_) (fun hk => ?_)
            · simp only [CondK_bool, MG_u, NG_u, VG_u, UG_u, PG_u, BG_u, CG_u, IG_u, MG_b, NG_b, VG_b, UG_b, PG_b, BG_b, CG_b, IG_b, PK_bool, NK_ptr, not_ok, reduceCtorEq, if_true, if_false, Bool.true_eq_false, Bool.false_eq_true, Bool.not_true, Bool.not_false]
              refine good ?_ _ ?_ ?_ ?_ ?_ rfl rfl
              · unfold St.bad kindP; rw [k2, hk]; rfl
              · exact h0
              · exact h1
              · exact h4
              · exact h5
            · simp only [CondK_bool, MG_u, NG_u, VG_u, UG_u, PG_u, BG_u, CG_u, IG_u, MG_b, NG_b, VG_b, UG_b, PG_b, BG_b, CG_b, IG_b, PK_bool, NK_ptr, not_ok, reduceCtorEq, if_true, if_false, Bool.true_eq_false, Bool.false_eq_true, Bool.not_true, Bool.not_false]
              refine d8.vk' fun x29 => d9.vk' fun x31 => ?_
              refine bad ?_ _ _ ?_ fun x w' a b => kR _ _ ?_ a b
              · unfold St.bad kindP; rw [decide_eq_true (⟨k2, hk⟩ : l[n].op = 2 ∧ (findP ds l[n].name.data.toList).kind ≠ 2), Bool.or_true]
              · exact h4
              · exact h4
          · simp only [CondK_bool, MG_u, NG_u, VG_u, UG_u, PG_u, BG_u, CG_u, IG_u, MG_b, NG_b, VG_b, UG_b, PG_b, BG_b, CG_b, IG_b, PK_bool, NK_ptr, not_ok, reduceCtorEq, if_true, if_false, Bool.true_eq_false, Bool.false_eq_true, Bool.not_true, Bool.not_false]
            refine good ?_ _ ?_ ?_ ?_ ?_ rfl rfl
            · unfold St.bad kindP; simp [k1, k2, k5]
            · exact h0
            · exact h1
            · exact h4
            · exact h5
    · obtain rfl : n = l.length := by omega
      rw [show decide (((l.length : Nat) : Int) < (l.length : Int)) = false by simp]
      refine condF ?_
      refine kX _ ?_ rfl
      exact h4
  refine h _ (fun ρ' w' a b c' d e f g => ⟨⟨n + 1, a, b, c', d, e, f, g⟩, ?_⟩) (fun ρ' w' a b c' => ?_) (fun ρ' a b => ?_)
  · rw [b, h5]; simp only [intOf]; omega
  · rw [sq_r, bk_r, sq_r]
    exact rtCell (b := bW) (cs := (St.wrL (kindP ds) l).cells.toArray) a Tryd.underlying30 rfl iWrg b ⟨rfl, c'⟩
  · subst b
    rw [List.take_length] at hall
    rw [sq_x, bk_x, sq_n, dispatcherref04_stmts_R1_eq]
    unfold dispatcherref04_stmts_R1_F
    rw [build_ok bWr0]
    refine stS (old := zWr.cells.toArray) (cs := zWr.cells.toArray) a rfl iWrg rfl (wr_one _) (hm.blk hb1 id) fun w7 hb7 hm7 _ => ?_
    refine rtCell (b := bW) (cs := zWr.cells.toArray) ?_ Tryd.underlying30 rfl iWrg hb7 ⟨?_, (hm1.trans hm).then hm7 fun i hi q => hnew i (by omega) q⟩
    · exact a
    · rw [St.wrL_all hall]; rfl
theorem stR4_all {ds : List De} (hD : Decls ds) {s : Value} : ∀ e : St, StR4 ds s e.body ∧ StR4 ds s e.els := by
  intro e
  induction e using St.ind with
  | h e ih1 ih2 => exact ⟨stR4_row hD ih1, stR4_row hD ih2⟩
theorem StmtsR4_ok {ds : List De} (hD : Decls ds) {s : Value} (l : List St) : StR4 ds s l := stR4_row hD fun a _ => stR4_all hD a
end Go.Proofs.YtbnbcimjapiicaaDoor.Tr
