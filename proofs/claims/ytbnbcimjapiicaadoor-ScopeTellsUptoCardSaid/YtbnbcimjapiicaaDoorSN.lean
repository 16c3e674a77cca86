/- ScopeFinds. -/
import Derived.Test.YtbnbcimjapiicaaDoorSL
import Derived.Test.YtbnbcimjapiicaaDoorU
set_option linter.unusedVariables false
set_option linter.unusedSimpArgs false
set_option maxRecDepth 4000
namespace Go.Proofs.YtbnbcimjapiicaaDoor.Tr
open Go Go.X Go.RowKit Go.Proofs.YtbnbcimjapiicaaDoor.XG Go.Proofs.YtbnbcimjapiicaaDoor.XK

theorem uTp : Tryd.prog.underlying 32 = some (.pointer 71) := by kernel_rfl
theorem FindT_ok {w : World} {base t : Nat} {ds : List De} (h : TbAt w base t ds) (k : ByteArray) : Rt Tryd.prog 16 #[pt t, .string k] w fun v w' => v = (findP ds k.data.toList).v ∧ Mod none_ w w' := by
  obtain ⟨nv, av, m, l, c, hR, hval⟩ := h.raw
  refine scope_Table_Find_calls ?_
  unfold scope_Table_Find_F
  refine al_k zEnt rfl _ fun w1 hb1 hm1 hz1 => ?_
  have hR1 := hR.mod hm1
  rw [BK_eqlP uTp]
  refine condF ?_
  rw [NK_ptr]
  have f1 : FAt Tryd.prog w1 71 1 ⟨t, 0, none⟩ 69 (.map (some m)) := FAt.mk' (off := 1) (by kernel_rfl) uMp rfl (by rw [add_pl, cell_blk hR1.bt]; rfl)
  refine f1.vk' fun x10 => ?_
  refine look_ok hR1.bm k ?_
  rw [hval]
  refine stS (b := w.heap.size) (old := zEn.cells.toArray) (cs := (findP ds k.data.toList).cells.toArray) rfl rfl iEnt rfl (en_one _) hb1 fun w2 hb2 hm2 _ => ?_
  exact ⟨_, res_ld (run_ldB (cs := (findP ds k.data.toList).cells.toArray) Tryd.underlying37 rfl iEnt hb2), rfl, hm1.then hm2 (fun i hi q => absurd q (by omega))⟩
theorem FindN_ok {w : World} (k : Value) : Rt Tryd.prog 16 #[.pointer none, k] w fun v w' => v = zEn.v ∧ Mod none_ w w' := by
  refine scope_Table_Find_calls ?_
  unfold scope_Table_Find_F
  refine al_k zEnt rfl _ fun w1 hb1 hm1 hz1 => ?_
  rw [BK_eqlP uTp]
  refine condT ?_
  rw [build_ok bEnt0]
  refine stS (b := w.heap.size) (old := zEn.cells.toArray) (cs := zEn.cells.toArray) rfl rfl iEnt rfl (en_one _) hb1 fun w2 hb2 hm2 _ => ?_
  exact ⟨_, res_ld (run_ldB (cs := zEn.cells.toArray) Tryd.underlying37 rfl iEnt hb2), rfl, hm1.then hm2 (fun i hi q => absurd q (by omega))⟩
theorem QixDe {C : World → Prop} {s : Value} {l : List De} {i : Nat} {e : De} {K : Value → Prop} {w0 : World} (hw0 : C w0) (h : ∀ w, C w → DesOk w s l) (hi : l[i]? = some e) (hk : ∀ a, (∀ w, C w → ∀ j u, e.cells[j]? = some u → w.cell? (a.add j) = some u) → K (.pointer (some a))) :
    QK Tryd.prog C (do pure (Next.value (← Instr.indexAt 22 s (.int .i64 (i : Int))))) K := by
  have hlt : i < l.length := (List.getElem?_eq_some_iff.1 hi).1
  obtain ⟨hl, A, c, hs, hc, hr⟩ := (h w0 hw0).1
  obtain ⟨a, ha | q⟩ := rd_cell (size := 4) (hs ▸ (h w0 hw0).1) hlt
  · subst ha
    subst hs
    refine QV_of (fun w _ => run_ixa uDes cDe (by omega) (by omega) w) (hk _ fun w hw j u hu => ?_)
    obtain ⟨_, A', c', hs', _, hr'⟩ := (h w hw).1
    cases hs'
    have hj : j < 3 + 1 := (List.getElem?_eq_some_iff.1 hu).1
    obtain ⟨a', ha', hcell⟩ := hr' (i * 4 + j) u (by rw [fl_get (k := 3 + 1) De.cells_len hi hj]; exact hu)
    cases ha'
    rw [add_add, show ((i : Int).toNat) = i by omega]
    exact hcell
  · omega
theorem ScopeFinds_ok {w : World} (hg : Gl w) {p : Pr} (h : p.Ok w) (hf : p.fits) (name : ByteArray) : Rt Tryd.prog 4 #[.agg p.cells.toArray, .string name] w fun v w' => v = .bool true ∧ Mod none_ w w' := by
  refine dispatcherlaw04_ScopeFinds_calls ?_
  unfold dispatcherlaw04_ScopeFinds_F
  refine box_k (cs := p.cells.toArray) rfl fun w1 hb1 hm1 hz1 => ?_
  refine ldB (cs := p.cells.toArray) Tryd.underlying25 rfl iPr hb1 ?_
  refine CK_st Tryd.func10 rfl rfl (Great_ok (h.mod hm1) hf) ?_
  rintro _ w2 ⟨rfl, hm2⟩
  have hb2 := hm2.blk hb1 id
  have hm02 := hm1.trans hm2
  cases hgr : p.great with
  | true =>
    simp only [CondK_bool, MG_u, NG_u, VG_u, UG_u, PG_u, BG_u, CG_u, IG_u, MG_b, NG_b, VG_b, UG_b, PG_b, BG_b, CG_b, IG_b, PK_bool, NK_ptr, not_ok, reduceCtorEq, if_true, if_false, Bool.true_eq_false, Bool.false_eq_true, Bool.not_true, Bool.not_false]
    first | exact ⟨rfl, hm02⟩ | exact ⟨trivial, hm02⟩
  | false =>
    simp only [CondK_bool, MG_u, NG_u, VG_u, UG_u, PG_u, BG_u, CG_u, IG_u, MG_b, NG_b, VG_b, UG_b, PG_b, BG_b, CG_b, IG_b, PK_bool, NK_ptr, not_ok, reduceCtorEq, if_true, if_false, Bool.true_eq_false, Bool.false_eq_true, Bool.not_true, Bool.not_false]
    rw [len9]
    refine BKgtr (a := name.size) (b := 30) rfl rfl ?_
    refine caseC (fun _ => by first | exact ⟨rfl, hm02⟩ | exact ⟨trivial, hm02⟩) (fun _ => ?_)
    refine ldB (cs := p.cells.toArray) Tryd.underlying25 rfl iPr hb2 ?_
    refine CK_st Tryd.func13 rfl rfl (New_ok (hg.mod hm02) (h.mod hm02) hf) ?_
    rintro _ w3 ⟨x, rfl, hT⟩
    rw [extract_ok (v := x) rfl, extract_ok (v := (checkP p).v) rfl]
    have hm3 := hT.m
    have hm03 := hm02.trans hm3
    have hb3 := hm3.blk hb2 id
    refine lcl_k (cs := (checkP p).cells.toArray) zWrg _ iWrg rfl (wr_one _) fun w4 hb4 hm4 hz4 => ?_
    have hm04 := hm03.trans hm4
    have hb14 := hm4.blk hb3 id
    generalize w3.heap.size = b6 at *
    have g0 : FAt Tryd.prog w4 30 0 ⟨b6, 0, none⟩ 28 (.int .i64 (checkP p).err) := FAt.mk' (off := 0) (by kernel_rfl) uErrI rfl (by rw [add_pl, cell_blk hb4]; rfl)
    refine g0.vk' fun x20 => ?_
    have h4 := h.mod hm04
    refine BKneI (a := (checkP p).err) (b := 0) rfl rfl (fun hz => condF ?_) (fun hz => condT ?_)
    · obtain ⟨hmay, hdz, t, rfl, hTb⟩ := hT.ok hz
      have hTb4 := hTb.mod hm4
      have hmays : ∀ d ∈ p.decls, d.may = true := by
        unfold Pr.may at hmay
        simp only [Bool.and_eq_true, List.all_eq_true] at hmay
        exact hmay.1.2
      obtain ⟨A, c, hs, hnc⟩ := reads_cap h.d.1
      have hf1 := hf.1
      have hds : ∀ w', Mod none_ w4 w' → DesOk w' (.slice A p.decls.length c) p.decls := fun w' hw => by rw [← hs]; exact h4.d.mod hw
      have cell0 : ∀ w', Mod none_ w4 w' → w'.cell? ((⟨w.heap.size, 0, none⟩ : Addr).add 0) = some (.slice A p.decls.length c) := fun w' hw => by rw [add_pl, cell_blk (hw.blk hb14 id), ← hs]; rfl
      refine W_loop dispatcherlaw04_ScopeFinds_L3_ok (fun ρ w' => ∃ n : Nat, n ≤ p.decls.length ∧ ρ 7 = .int .i64 n ∧ ρ 2 = pt w.heap.size ∧ ρ 5 = pt t ∧ ρ 1 = .string name ∧ Mod none_ w4 w') (fun ρ _ => p.decls.length - (intOf (ρ 7)).toNat)
        ⟨0, Nat.zero_le _, rfl, rfl, rfl, rfl, Mod.refl _ _⟩ ?_
      rintro ρ w5 ⟨n, hn, h7, h2, h5, h1, hm5⟩
      have hm05 := hm04.trans hm5
      have hends : ∀ (K : Exit → Sl → World → Prop), (∀ ρ' w', n < p.decls.length → ρ' 7 = .int .i64 ((n : Int) + 1) → ρ' 2 = pt w.heap.size → ρ' 5 = pt t → ρ' 1 = .string name → Mod none_ w4 w' → K .normal ρ' w') →
          (∀ ρ', n = p.decls.length → ρ' 2 = pt w.heap.size → ρ' 5 = pt t → ρ' 1 = .string name → K (.exit 0) ρ' w5) → sx fn_ Tryd.prog 67 dispatcherlaw04_ScopeFinds_L3 K ρ w5 := by
        intro K kN kX
        have f0 : FAt Tryd.prog w5 25 0 ⟨w.heap.size, 0, none⟩ 22 (.slice A p.decls.length c) := FAt.mk' (off := 0) (by kernel_rfl) uDes rfl (cell0 w5 hm5)
        rw [dispatcherlaw04_ScopeFinds_L3_eq]
        unfold dispatcherlaw04_ScopeFinds_L3_F
        rw [h2, h7]
        refine f0.vk' fun x35 => ?_
        rw [len22]
        refine BKlss (a := n) (b := p.decls.length) rfl rfl ?_
        by_cases hlt : n < p.decls.length
        · rw [show decide ((n : Int) < (p.decls.length : Int)) = true by rw [decide_eq_true_eq]; omega]
          refine condT ?_
          have hx : p.decls[n]? = some p.decls[n] := List.getElem?_eq_getElem hlt
          have e5 : ∀ (KK : Exit → Sl → World → Prop), (∀ (ρ3 : Sl) (w6 : World), ρ3 58 = .bool false → ρ3 7 = .int .i64 n → ρ3 2 = pt w.heap.size → ρ3 5 = pt t → ρ3 1 = .string name → Mod none_ w5 w6 → KK .normal ρ3 w6) → ∀ (ρ2 : Sl), ρ2 7 = .int .i64 n → ρ2 2 = pt w.heap.size → ρ2 5 = pt t → ρ2 1 = .string name → W fn_ Tryd.prog 67 dispatcherlaw04_ScopeFinds_R5 KK ρ2 w5 := by
            intro KK kN' ρ2 q7 q2 q5 q1
            refine dispatcherlaw04_ScopeFinds_R5_quiet (D := []) (fun w' => Mod none_ w5 w') ((Mod.refl _ w5).drawn _) ?_
            unfold dispatcherlaw04_ScopeFinds_R5_Q
            rw [q2, q7, q5]
            refine Qfo (off := 0) (a := ⟨w.heap.size, 0, none⟩) (by kernel_rfl) (Qld uDes rfl (v := .slice A p.decls.length c) (fun w' hw => cell0 w' (hm5.trans hw)) ?_)
            refine QixDe (w0 := w5) (Mod.refl _ w5) (fun w' hw => hds w' (hm5.trans hw)) hx fun a ha => ?_
            refine Qfo (off := 0) (by kernel_rfl) (Qld uSt rfl (v := .string p.decls[n].name) (fun w' hw => ha w' hw 0 _ rfl) ?_)
            refine QC_rt (R := fun w' v w'' => v = (findP p.decls p.decls[n].name.data.toList).v ∧ Mod none_ w' w'') Tryd.func16 rfl rfl (v := (findP p.decls p.decls[n].name.data.toList).v) (fun w' hw => FindT_ok (hTb4.mod (hm5.trans hw)) _) (fun w' u w'' hw hu => ⟨hu.1, hw.trans hu.2⟩) ?_
            refine Qfo (off := 0) (a := ⟨w.heap.size, 0, none⟩) (by kernel_rfl) (Qld uDes rfl (v := .slice A p.decls.length c) (fun w' hw => cell0 w' (hm5.trans hw)) ?_)
            refine Qfo (off := 0) (a := ⟨w.heap.size, 0, none⟩) (by kernel_rfl) (Qld uDes rfl (v := .slice A p.decls.length c) (fun w' hw => cell0 w' (hm5.trans hw)) ?_)
            refine QixDe (w0 := w5) (Mod.refl _ w5) (fun w' hw => hds w' (hm5.trans hw)) hx fun a2 ha2 => ?_
            refine Qfo (off := 0) (by kernel_rfl) (Qld uSt rfl (v := .string p.decls[n].name) (fun w' hw => ha2 w' hw 0 _ rfl) ?_)
            refine QC_rt (R := fun w' v w'' => v = (findP p.decls p.decls[n].name.data.toList).v ∧ Mod none_ w' w'') Tryd.func17 rfl rfl (v := (findP p.decls p.decls[n].name.data.toList).v) (fun w' hw => Find_ok (hds w' (hm5.trans hw)) hf1 hmays _) (fun w' u w'' hw hu => ⟨hu.1, hw.trans hu.2⟩) ?_
            refine QB_of (v := .bool (!decide (findP p.decls p.decls[n].name.data.toList = findP p.decls p.decls[n].name.data.toList))) (fun w => run_eqGuard_agg w .neq _ _ _ _ _ gEn) (fun w => rEnN _ _ w) ?_
            rw [decide_eq_true rfl]
            intro w6 hm6
            exact kN' _ w6 rfl q7 q2 q5 q1 hm6
          refine e5 _ (fun ρ3 w6 q58 q7 q2 q5 q1 hm6 => ?_) _ ?_ ?_ ?_ ?_
          · rw [sq_n, dispatcherlaw04_ScopeFinds_R6_eq]
            unfold dispatcherlaw04_ScopeFinds_R6_F
            refine caseN q58 (fun q => by cases q) (fun _ => ?_)
            rw [bk_n, sq_n, dispatcherlaw04_ScopeFinds_R7_eq]
            unfold dispatcherlaw04_ScopeFinds_R7_F
            refine BKadd (a := n) (b := 1) q7 rfl (by omega) (by omega) ?_
            refine kN _ w6 hlt rfl ?_ ?_ ?_ (hm5.trans hm6)
            · exact q2
            · exact q5
            · exact q1
          · exact h7
          · exact h2
          · exact h5
          · exact h1
        · obtain rfl : n = p.decls.length := by omega
          rw [show decide (((p.decls.length : Nat) : Int) < (p.decls.length : Int)) = false by simp]
          refine condF ?_
          refine kX _ rfl ?_ ?_ ?_
          · exact h2
          · exact h5
          · exact h1
      refine hends _ (fun ρ' w' a b c1 c2 c3 d => ⟨⟨n + 1, a, b, c1, c2, c3, d⟩, ?_⟩) (fun ρ' a q2 q5 q1 => ?_)
      · rw [b, h7]; simp only [intOf]; omega
      · rw [sq_x, bk_x, sq_n, dispatcherlaw04_ScopeFinds_R4_eq]
        unfold dispatcherlaw04_ScopeFinds_R4_F
        refine dispatcherlaw04_ScopeFinds_R8_quiet (D := []) (fun w' => Mod none_ w5 w') ((Mod.refl _ w5).drawn _) ?_
        unfold dispatcherlaw04_ScopeFinds_R8_Q
        rw [q2, q5, q1]
        refine QC_rt (R := fun w' v w'' => v = (findP p.decls name.data.toList).v ∧ Mod none_ w' w'') Tryd.func16 rfl rfl (v := (findP p.decls name.data.toList).v) (fun w' hw => FindT_ok (hTb4.mod (hm5.trans hw)) _) (fun w' u w'' hw hu => ⟨hu.1, hw.trans hu.2⟩) ?_
        refine Qfo (off := 0) (a := ⟨w.heap.size, 0, none⟩) (by kernel_rfl) (Qld uDes rfl (v := .slice A p.decls.length c) (fun w' hw => cell0 w' (hm5.trans hw)) ?_)
        refine QC_rt (R := fun w' v w'' => v = (findP p.decls name.data.toList).v ∧ Mod none_ w' w'') Tryd.func17 rfl rfl (v := (findP p.decls name.data.toList).v) (fun w' hw => Find_ok (hds w' (hm5.trans hw)) hf1 hmays _) (fun w' u w'' hw hu => ⟨hu.1, hw.trans hu.2⟩) ?_
        refine QB_of (v := .bool (decide (findP p.decls name.data.toList = findP p.decls name.data.toList))) (fun w => run_eqGuard_agg w .eql _ _ _ _ _ gEn) (fun w => rEnE _ _ w) ?_
        rw [decide_eq_true rfl]
        intro w6 hm6
        rw [sq_n, dispatcherlaw04_ScopeFinds_R9_eq]
        unfold dispatcherlaw04_ScopeFinds_R9_F
        exact ⟨rfl, hm05.trans hm6⟩
    · have hx := hT.bad hz
      subst hx
      refine dispatcherlaw04_ScopeFinds_R0_quiet (D := []) (fun w' => Mod none_ w4 w') ((Mod.refl _ w4).drawn _) ?_
      unfold dispatcherlaw04_ScopeFinds_R0_Q
      refine QV_of (v := (checkP p).v) (fun w' hw => run_ldB (cs := (checkP p).cells.toArray) Tryd.underlying30 rfl iWrg (hw.blk hb4 id)) ?_
      refine QV_of (v := .agg p.cells.toArray) (fun w' hw => run_ldB (cs := p.cells.toArray) Tryd.underlying25 rfl iPr (hw.blk hb14 id)) ?_
      refine QC_rt (R := fun w' v w'' => v = (checkP p).v ∧ Mod none_ w' w'') Tryd.func12 rfl rfl (v := (checkP p).v) (fun w' hw => Check4_ok (h4.mod hw) hf) (fun w' u w'' hw hu => ⟨hu.1, hw.trans hu.2⟩) ?_
      refine QB_of (v := .bool (decide (checkP p = checkP p))) (fun w => run_eqGuard_agg w .eql _ _ _ _ _ gWr) (fun w => rWrE _ _ w) ?_
      rw [decide_eq_true rfl]
      rw [QG_b, if_pos rfl]
      refine QM ?_
      rw [QG_b, if_pos rfl]
      refine QM ?_
      rw [QG_b, if_pos rfl]
      refine QC_rt (R := fun w' v w'' => v = zEn.v ∧ Mod none_ w' w'') Tryd.func16 rfl rfl (v := zEn.v) (fun w' hw => FindN_ok _) (fun w' u w'' hw hu => ⟨hu.1, hw.trans hu.2⟩) ?_
      rw [QG_b, if_pos rfl]
      refine QV_of (fun w' _ => build_run bEnt0) ?_
      rw [QG_b, if_pos rfl]
      refine QB_of (v := .bool (decide (zEn = zEn))) (fun w => run_eqGuard_agg w .eql _ _ _ _ _ gEn) (fun w => rEnE zEn zEn w) ?_
      rw [decide_eq_true rfl]
      refine QP_of ?_
      intro w5 hm5
      rw [sq_n, dispatcherlaw04_ScopeFinds_R1_eq]
      unfold dispatcherlaw04_ScopeFinds_R1_F
      exact ⟨rfl, hm04.trans hm5⟩
end Go.Proofs.YtbnbcimjapiicaaDoor.Tr
