/- Check of the chapter; Find, Vars of a table. -/
import Derived.Test.YtbnbcimjapiicaaDoorSK
set_option linter.unusedVariables false
set_option linter.unusedSimpArgs false
set_option maxRecDepth 4000
namespace Go.Proofs.YtbnbcimjapiicaaDoor.Tr
open Go Go.X Go.RowKit Go.Proofs.YtbnbcimjapiicaaDoor.XG Go.Proofs.YtbnbcimjapiicaaDoor.XK

theorem flat_take (l : List De) : ∀ m : Nat, (l.flatMap De.cells).take (m * 4) = (l.take m).flatMap De.cells := by
  induction l with
  | nil => intro m; simp
  | cons d r ih =>
    intro m
    cases m with
    | zero => simp
    | succ m =>
      rw [List.flatMap_cons, List.take_succ_cons, List.flatMap_cons, show (m + 1) * 4 = m * 4 + 4 by omega, List.take_append]
      have : d.cells.length = 4 := rfl
      rw [this, List.take_of_length_le (by rw [this]; omega), show m * 4 + 4 - 4 = m * 4 by omega, ih]
theorem DesOk.cut {w : World} {A : Option Addr} {c : Nat} {l : List De} (h : DesOk w (.slice A l.length c) l) {m : Nat} (hm : m ≤ l.length) : DesOk w (sliced A 0 m c 4) (l.take m) := by
  refine ⟨?_, fun a ha => h.2 a (List.mem_of_mem_take ha)⟩
  have := reads_cut h.1 hm 4
  rw [flat_take] at this
  rw [List.length_take, Nat.min_eq_left hm]
  exact this
theorem run_cutDe {A : Option Addr} {n c : Nat} (hnc : n ≤ c) {i : Int} (h0 : 0 ≤ i) (h1 : i ≤ n) (w : World) : (Instr.sliceAt 22 (.slice A n c) none (some (.int .i64 i)) none).run Tryd.prog w = .ok (sliced A 0 i.toNat c 4) w :=
  run_cut (sz := 3) uDes cDe hnc h0 h1 w
theorem full_ref {pre : List De} {d : De} (hv : vars pre ≤ 64) (hc : cellsP pre ≤ 1000) (hp : 0 ≤ d.places) : full pre d = (decide (64 < vars (pre ++ [d])) || decide (1000 < cellsP (pre ++ [d]))) := by
  unfold full
  rw [vars_snoc, cellsP_snoc]
  by_cases q : d.places = 0
  · rw [if_pos q, show isV d = true from decide_eq_true q, q]
    simp only [if_true, Int.add_zero]
    rw [show decide (1000 < cellsP pre) = false by rw [decide_eq_false_iff_not]; omega, Bool.or_false, decide_eq_decide]
    omega
  · rw [if_neg q, show isV d = false from decide_eq_false q]
    simp only [Bool.false_eq_true, if_false, Nat.add_zero]
    rw [show decide (64 < vars pre) = false by rw [decide_eq_false_iff_not]; omega, Bool.false_or]
theorem fldK_run {w : World} (e : En) : (Instr.field 37 e.v 0).run Tryd.prog w = .ok (.int .u8 e.kind) w := by
  unfold Instr.field
  simp [Sem.run_bind, run_underlying Tryd.underlying37, part, isU, En.v, En.cells, asAgg]
theorem Check4_ok {w : World} {p : Pr} (h : p.Ok w) (hf : p.fits) : Rt Tryd.prog 12 #[.agg p.cells.toArray] w fun v w' => v = (checkP p).v ∧ Mod none_ w w' := by
  refine dispatcherref04_Check_calls ?_
  unfold dispatcherref04_Check_F
  refine box_k (cs := p.cells.toArray) rfl fun w1 hb1 hm1 hz1 => ?_
  refine al_k zWrg rfl _ fun w2 hb2 hm2 hz2 => ?_
  have hb12 := hm2.blk hb1 id
  have hm12 := hm1.trans hm2
  refine ldB (cs := p.cells.toArray) Tryd.underlying25 rfl iPr hb12 ?_
  refine CK_st Tryd.func33 rfl rfl (MayR_ok (h.mod hm12) hf) ?_
  rintro _ w3 ⟨rfl, hm3⟩
  rw [not_ok]
  have hm13 := hm12.trans hm3
  have hb13 := hm3.blk hb12 id
  have hb23 := hm3.blk hb2 id
  generalize hx3 : w1.heap.size = b3 at *
  cases hmay : p.may with
  | false =>
    refine condT ?_
    rw [build_ok (bWr1 2)]
    refine stS (b := b3) (old := zWr.cells.toArray) (cs := (Wr.mk 2 0 0).cells.toArray) rfl rfl iWrg rfl (wr_one _) hb23 fun w4 hb4 hm4 _ => ?_
    have hcp : checkP p = ⟨2, 0, 0⟩ := by unfold checkP; rw [hmay]; rfl
    exact ⟨_, res_ld (run_ldB (cs := (Wr.mk 2 0 0).cells.toArray) Tryd.underlying30 rfl iWrg hb4), by rw [hcp]; rfl, hm13.then hm4 (fun i hi q => absurd q (by omega))⟩
  | true =>
    refine condF ?_
    have hmays : ∀ d ∈ p.decls, d.may = true := by
      unfold Pr.may at hmay
      simp only [Bool.and_eq_true, List.all_eq_true] at hmay
      exact hmay.1.2
    have hcp : checkP p = (if (declsW [] p.decls).err = 0 then St.wrL (kindP p.decls) p.body else declsW [] p.decls) := by unfold checkP; rw [hmay]; rfl
    obtain ⟨A, c, hs, hnc⟩ := reads_cap h.d.1
    clear hm1 hb1 hm2 hb2 hm12 hb12 hm3
    refine W_loop dispatcherref04_Check_L0_ok (fun ρ w' => ∃ n : Nat, n ≤ p.decls.length ∧ ρ 3 = .int .i64 n ∧ ρ 1 = pt w.heap.size ∧ ρ 2 = pt b3 ∧ vars (p.decls.take n) ≤ 64 ∧ cellsP (p.decls.take n) ≤ 1000 ∧ declsW [] p.decls = declsW (p.decls.take n) (p.decls.drop n) ∧ Mod none_ w3 w') (fun ρ _ => p.decls.length - (intOf (ρ 3)).toNat)
      ⟨0, Nat.zero_le _, rfl, rfl, rfl, Nat.zero_le _, (by rw [List.take_zero]; decide), rfl, Mod.refl _ _⟩ ?_
    rintro ρ w6 ⟨n, hn, h3, h1, h2, hv, hc, hdW, hm6⟩
    have hb16 := hm6.blk hb13 id
    have hb26 := hm6.blk hb23 id
    have hm06 := hm13.trans hm6
    have f0 : ∀ w', Mod none_ w6 w' → FAt Tryd.prog w' 25 0 ⟨w.heap.size, 0, none⟩ 22 (.slice A p.decls.length c) := fun w' hw => FAt.mk' (off := 0) (by kernel_rfl) uDes rfl (by rw [add_pl, cell_blk (hw.blk hb16 id), ← hs]; rfl)
    have hsz2 := hf.1
    have hends : ∀ (K : Exit → Sl → World → Prop), (∀ ρ' w', n < p.decls.length → ρ' 3 = .int .i64 ((n : Int) + 1) → ρ' 1 = pt w.heap.size → ρ' 2 = pt b3 → vars (p.decls.take (n + 1)) ≤ 64 → cellsP (p.decls.take (n + 1)) ≤ 1000 → declsW [] p.decls = declsW (p.decls.take (n + 1)) (p.decls.drop (n + 1)) → Mod none_ w3 w' → K .normal ρ' w') →
        (∀ ρ' w', ρ' 2 = pt b3 → w'.heap[b3]? = some (.cells (checkP p).cells.toArray 30 (0, 0)) → Mod none_ w w' → K .ret ρ' w') →
        (∀ ρ', n = p.decls.length → ρ' 1 = pt w.heap.size → ρ' 2 = pt b3 → K (.exit 0) ρ' w6) → sx fn_ Tryd.prog 61 dispatcherref04_Check_L0 K ρ w6 := by
      intro K kN kR kX
      rw [dispatcherref04_Check_L0_eq]
      unfold dispatcherref04_Check_L0_F
      rw [h1, h3]
      refine (f0 w6 (Mod.refl _ _)).vk' fun x10 => ?_
      rw [len22]
      refine BKlss (a := n) (b := p.decls.length) rfl rfl ?_
      by_cases hlt : n < p.decls.length
      · rw [show decide ((n : Int) < (p.decls.length : Int)) = true by rw [decide_eq_true_eq]; omega]
        refine condT ?_
        have hx : p.decls[n]? = some p.decls[n] := List.getElem?_eq_getElem hlt
        have hmem : p.decls[n] ∈ p.decls := List.getElem_mem hlt
        have hds6 := h.d.mod hm06
        rw [hs] at hds6
        refine (f0 w6 (Mod.refl _ _)).vk' fun x16 => ?_
        refine ixDe hds6 hx fun y => ?_
        refine lcl_k (cs := p.decls[n].cells.toArray) zDe _ iDe rfl (de_one _) fun w7 hb7 hm7 hz7 => ?_
        have hb17 := hm7.blk hb16 id
        have hb27 := hm7.blk hb26 id
        have hm37 := hm6.trans hm7
        have hm07 := hm06.trans hm7
        have hds7 := hds6.mod hm7
        have hb3lt : b3 < w6.heap.size := X.blk_lt hb26
        generalize w6.heap.size = b4 at *
        have hp := may_places (hmays _ hmem)
        have htake : p.decls.take (n + 1) = p.decls.take n ++ [p.decls[n]] := by rw [List.take_add_one, hx, Option.toList_some]
        have hdrop : p.decls.drop n = p.decls[n] :: p.decls.drop (n + 1) := (List.getElem_cons_drop hlt).symm
        have htl : (p.decls.take n).length = n := by rw [List.length_take]; omega
        rw [hdrop, declsW] at hdW
        have bad : ∀ e, e ≠ 0 → dstep (p.decls.take n) p.decls[n] = e → checkP p = ⟨e, p.decls[n].line, p.decls[n].col⟩ := fun e he q => by
          rw [if_neg (by rw [q]; exact he), q] at hdW
          rw [hcp, hdW, if_neg he]
        have hcut := hds7.cut (m := n) hn
        have e2 : ∀ (KK : Exit → Sl → World → Prop), (∀ (ρ3 : Sl) (w8 : World), ρ3 1 = pt w.heap.size → ρ3 2 = pt b3 → ρ3 3 = .int .i64 n → ρ3 4 = pt b4 → ρ3 29 = .bool ((findP (p.decls.take n) p.decls[n].key).kind != 0) → Mod none_ w7 w8 → KK .normal ρ3 w8) → ∀ (ρ2 : Sl), ρ2 1 = pt w.heap.size → ρ2 2 = pt b3 → ρ2 3 = .int .i64 n → ρ2 4 = pt b4 → W fn_ Tryd.prog 61 dispatcherref04_Check_R2 KK ρ2 w7 := by
          intro KK kN' ρ2 q1 q2 q3 q4
          refine dispatcherref04_Check_R2_quiet (D := []) (fun w' => Mod none_ w7 w') ((Mod.refl _ w7).drawn _) ?_
          unfold dispatcherref04_Check_R2_Q
          rw [q1, q3, q4]
          refine Qfo (off := 0) (a := ⟨w.heap.size, 0, none⟩) (by kernel_rfl) (Qld uDes rfl (v := .slice A p.decls.length c) (fun w' hw => by rw [add_pl, cell_blk (hw.blk hb17 id), ← hs]; rfl) ?_)
          refine QV_of (v := sliced A 0 n c 4) (fun w' _ => by have := run_cutDe (A := A) (n := p.decls.length) hnc (i := (n : Int)) (by omega) (by omega) w'; exact this) ?_
          refine Qfo (off := 0) (a := ⟨b4, 0, none⟩) (by kernel_rfl) (Qld uSt rfl (v := .string p.decls[n].name) (fun w' hw => by rw [add_pl, cell_blk (hw.blk hb7 id)]; rfl) ?_)
          refine QC_rt (R := fun w' v w'' => v = (findP (p.decls.take n) p.decls[n].key).v ∧ Mod none_ w' w'') Tryd.func17 rfl rfl (v := (findP (p.decls.take n) p.decls[n].key).v) (fun w' hw => Find_ok (hcut.mod hw) (by rw [htl]; omega) (fun d hd => hmays d (List.mem_of_mem_take hd)) p.decls[n].name) (fun w' u w'' hw hu => ⟨hu.1, hw.trans hu.2⟩) ?_
          refine QV_of (fun w' _ => fldK_run _) (Qneq ?_)
          intro w8 hm8
          exact kN' _ w8 q1 q2 q3 q4 rfl hm8
        refine e2 _ (fun ρ3 w8 q1 q2 q3 q4 q29 hm8 => ?_) _ ?_ ?_ ?_ ?_
        · rw [sq_n, dispatcherref04_Check_R3_eq]
          unfold dispatcherref04_Check_R3_F
          have hb18 := hm8.blk hb17 id
          have hb28 := hm8.blk hb27 id
          have hb78 := hm8.blk hb7 id
          have hm08 := hm07.trans hm8
          have hm38 := hm37.trans hm8
          have g2 : FAt Tryd.prog w8 40 2 ⟨b4, 0, none⟩ 3 (.int .i64 p.decls[n].line) := FAt.mk' (off := 2) (by kernel_rfl) uI rfl (by rw [add_pl, cell_blk hb78]; rfl)
          have g3 : FAt Tryd.prog w8 40 3 ⟨b4, 0, none⟩ 3 (.int .i64 p.decls[n].col) := FAt.mk' (off := 3) (by kernel_rfl) uI rfl (by rw [add_pl, cell_blk hb78]; rfl)
          refine caseN q29 (fun hk => ?_) (fun hk => ?_)
          · have hk0 : (findP (p.decls.take n) p.decls[n].key).kind ≠ 0 := by simpa using hk
            have hb := bad 40 (by decide) (by unfold dstep; rw [if_pos hk0])
            refine g2.vs q4 fun x30 => g3.vs q4 fun x32 => ?_
            refine CK_st Tryd.func34 rfl rfl (Wrong_ok p.decls[n].line p.decls[n].col) ?_
            rintro _ w9 ⟨rfl, hm9⟩
            refine stS (b := b3) (old := zWr.cells.toArray) (cs := (checkP p).cells.toArray) q2 (by rw [hb]; rfl) iWrg rfl (wr_one _) (hm9.blk hb28 id) fun w10 hb10 hm10 _ => ?_
            rw [sq_r, bk_r, sq_r]
            refine kR _ w10 ?_ hb10 ((hm08.trans hm9).then hm10 fun i hi q => absurd q (by omega))
            exact q2
          · have hk0 : (findP (p.decls.take n) p.decls[n].key).kind = 0 := by simpa using hk
            rw [sq_n, dispatcherref04_Check_R4_eq]
            unfold dispatcherref04_Check_R4_F
            have hds8 := hds7.mod hm8
            have hcut8 := hds8.cut (m := n + 1) hlt
            have f8 : FAt Tryd.prog w8 25 0 ⟨w.heap.size, 0, none⟩ 22 (.slice A p.decls.length c) := FAt.mk' (off := 0) (by kernel_rfl) uDes rfl (by rw [add_pl, cell_blk hb18, ← hs]; rfl)
            have htl1 : (p.decls.take (n + 1)).length = n + 1 := by rw [List.length_take]; omega
            have hfl := full_ref hv hc hp.1
            have hds : dstep (p.decls.take n) p.decls[n] = if full (p.decls.take n) p.decls[n] then 4 else 0 := by unfold dstep; rw [if_neg (by simp [hk0])]
            rw [← htake] at hfl
            have hcut8' : ∀ w', Mod none_ w8 w' → DesOk w' (sliced A 0 ((n : Int) + 1).toNat c 4) (p.decls.take (n + 1)) := fun w' hw => by
              rw [show ((n : Int) + 1).toNat = n + 1 by omega]; exact hcut8.mod hw
            have rc : ∀ w', (Instr.sliceAt 22 (.slice A p.decls.length c) none (some (.int .i64 ((n : Int) + 1))) none).run Tryd.prog w' = .ok (sliced A 0 ((n : Int) + 1).toNat c 4) w' := fun w' => run_cutDe hnc (by omega) (by omega) w'
            refine f8.vs q1 fun x35 => ?_
            refine BKadd (a := n) (b := 1) q3 rfl (by omega) (by omega) ?_
            refine VK_of (rc w8) ?_
            refine CK_st Tryd.func26 rfl rfl (Vars_ok (hcut8' w8 (Mod.refl _ _)) (by rw [htl1]; omega)) ?_
            rintro _ w9 ⟨rfl, hm9⟩
            have hb19 := hm9.blk hb18 id
            have hb29 := hm9.blk hb28 id
            have f9 : FAt Tryd.prog w9 25 0 ⟨w.heap.size, 0, none⟩ 22 (.slice A p.decls.length c) := FAt.mk' (off := 0) (by kernel_rfl) uDes rfl (by rw [add_pl, cell_blk hb19, ← hs]; rfl)
            refine BKgtr (a := vars (p.decls.take (n + 1))) (b := 64) rfl rfl ?_
            rw [q1, q3]
            by_cases hvv : 64 < vars (p.decls.take (n + 1))
            · rw [show decide ((64 : Int) < (vars (p.decls.take (n + 1)) : Int)) = true by rw [decide_eq_true_eq]; omega]
              simp only [CondK_bool, MG_u, NG_u, VG_u, UG_u, PG_u, BG_u, CG_u, IG_u, MG_b, NG_b, VG_b, UG_b, PG_b, BG_b, CG_b, IG_b, PK_bool, NK_ptr, not_ok, reduceCtorEq, if_true, if_false, Bool.true_eq_false, Bool.false_eq_true, Bool.not_true, Bool.not_false]
              have hb := bad 4 (by decide) (by rw [hds, hfl, show decide (64 < vars (p.decls.take (n + 1))) = true from decide_eq_true hvv]; rfl)
              have hb79 := hm9.blk hb78 id
              have g2' : FAt Tryd.prog w9 40 2 ⟨b4, 0, none⟩ 3 (.int .i64 p.decls[n].line) := FAt.mk' (off := 2) (by kernel_rfl) uI rfl (by rw [add_pl, cell_blk hb79]; rfl)
              have g3' : FAt Tryd.prog w9 40 3 ⟨b4, 0, none⟩ 3 (.int .i64 p.decls[n].col) := FAt.mk' (off := 3) (by kernel_rfl) uI rfl (by rw [add_pl, cell_blk hb79]; rfl)
              refine g2'.vs q4 fun x51 => g3'.vs q4 fun x53 => ?_
              rw [build_ok (bWr3 _ _ _)]
              refine stS (b := b3) (old := zWr.cells.toArray) (cs := (checkP p).cells.toArray) q2 (by rw [hb]) iWrg rfl (wr_one _) hb29 fun w10 hb10 hm10 _ => ?_
              rw [bk_r, sq_r]
              refine kR _ w10 ?_ hb10 ((hm08.trans hm9).then hm10 fun i hi q => absurd q (by omega))
              exact q2
            · rw [show decide ((64 : Int) < (vars (p.decls.take (n + 1)) : Int)) = false by rw [decide_eq_false_iff_not]; omega]
              simp only [CondK_bool, MG_u, NG_u, VG_u, UG_u, PG_u, BG_u, CG_u, IG_u, MG_b, NG_b, VG_b, UG_b, PG_b, BG_b, CG_b, IG_b, PK_bool, NK_ptr, not_ok, reduceCtorEq, if_true, if_false, Bool.true_eq_false, Bool.false_eq_true, Bool.not_true, Bool.not_false]
              refine f9.vk' fun x43 => ?_
              refine BKadd (a := n) (b := 1) rfl rfl (by omega) (by omega) ?_
              refine VK_of (rc w9) ?_
              refine CK_st Tryd.func35 rfl rfl (Cells_ok (hcut8' w9 hm9) (by rw [htl1]; omega) (fun d hd => hmays d (List.mem_of_mem_take hd))) ?_
              rintro _ w10 ⟨rfl, hm10⟩
              refine BKgtr (a := cellsP (p.decls.take (n + 1))) (b := 1000) rfl rfl ?_
              refine caseC (fun hcc => ?_) (fun hcc => ?_)
              · have hb := bad 4 (by decide) (by rw [hds, hfl, hcc, Bool.or_true]; rfl)
                have hb710 := hm10.blk (hm9.blk hb78 id) id
                have hb210 := hm10.blk hb29 id
                have g2' : FAt Tryd.prog w10 40 2 ⟨b4, 0, none⟩ 3 (.int .i64 p.decls[n].line) := FAt.mk' (off := 2) (by kernel_rfl) uI rfl (by rw [add_pl, cell_blk hb710]; rfl)
                have g3' : FAt Tryd.prog w10 40 3 ⟨b4, 0, none⟩ 3 (.int .i64 p.decls[n].col) := FAt.mk' (off := 3) (by kernel_rfl) uI rfl (by rw [add_pl, cell_blk hb710]; rfl)
                refine g2'.vs q4 fun x51 => g3'.vs q4 fun x53 => ?_
                rw [build_ok (bWr3 _ _ _)]
                refine stS (b := b3) (old := zWr.cells.toArray) (cs := (checkP p).cells.toArray) q2 (by rw [hb]) iWrg rfl (wr_one _) hb210 fun w11 hb11 hm11 _ => ?_
                rw [bk_r, sq_r]
                refine kR _ w11 ?_ hb11 (((hm08.trans hm9).trans hm10).then hm11 fun i hi q => absurd q (by omega))
                exact q2
              · have hfu : full (p.decls.take n) p.decls[n] = false := by
                  rw [hfl, show decide (64 < vars (p.decls.take (n + 1))) = false from decide_eq_false hvv, hcc]; rfl
                have hz : dstep (p.decls.take n) p.decls[n] = 0 := by rw [hds, hfu]; rfl
                obtain ⟨hv', hc'⟩ := lim_snoc hfu hp.1 hv hc
                rw [if_pos hz] at hdW
                rw [bk_n, sq_n, dispatcherref04_Check_R5_eq]
                unfold dispatcherref04_Check_R5_F
                refine BKadd (a := n) (b := 1) ?_ rfl (by omega) (by omega) ?_
                · exact q3
                refine kN _ w10 hlt rfl ?_ ?_ ?_ ?_ ?_ ((hm38.trans hm9).trans hm10)
                · exact q1
                · exact q2
                · rw [htake]; exact hv'
                · rw [htake]; exact hc'
                · rw [htake]; exact hdW
        · exact h1
        · exact h2
        · exact h3
        · rfl
      · obtain rfl : n = p.decls.length := by omega
        rw [show decide (((p.decls.length : Nat) : Int) < (p.decls.length : Int)) = false by simp]
        refine condF ?_
        refine kX _ rfl ?_ ?_
        · exact h1
        · exact h2
    refine hends _ (fun ρ' w' a b c1 c2 c3 c4 c5 d => ⟨⟨n + 1, a, b, c1, c2, c3, c4, c5, d⟩, ?_⟩) (fun ρ' w' a b d => ?_) (fun ρ' a q1 q2 => ?_)
    · rw [b, h3]; simp only [intOf]; omega
    · rw [sq_r, bk_r, sq_r]
      exact rtCell (b := b3) (cs := (checkP p).cells.toArray) a Tryd.underlying30 rfl iWrg b ⟨rfl, d⟩
    · subst a
      rw [List.drop_length, List.take_length, declsW] at hdW
      rw [hdW, if_pos (show zWr.err = 0 from rfl)] at hcp
      rw [sq_x, bk_x, sq_n, dispatcherref04_Check_R1_eq]
      unfold dispatcherref04_Check_R1_F
      refine (f0 w6 (Mod.refl _ _)).vs q1 fun x56 => ?_
      have f1 : FAt Tryd.prog w6 25 1 ⟨w.heap.size, 0, none⟩ 23 p.bs := FAt.mk' (off := 1) (by kernel_rfl) uSts rfl (by rw [add_pl, cell_blk hb16]; rfl)
      refine f1.vs q1 fun x58 => ?_
      have h6 := h.mod hm06
      rw [← hs]
      refine CK_st Tryd.func36 rfl rfl (StmtsR4_ok ⟨hf.1, hmays⟩ p.body w6 p.bs h6.d h6.b hf.2) ?_
      rintro _ w7 ⟨rfl, hm7⟩
      refine stS (b := b3) (old := zWr.cells.toArray) (cs := (St.wrL (kindP p.decls) p.body).cells.toArray) q2 rfl iWrg rfl (wr_one _) (hm7.blk hb26 id) fun w8 hb8 hm8 _ => ?_
      refine rtCell (b := b3) (cs := (St.wrL (kindP p.decls) p.body).cells.toArray) ?_ Tryd.underlying30 rfl iWrg hb8 ⟨?_, (hm06.trans hm7).then hm8 fun i hi q => absurd q (by omega)⟩
      · exact q2
      · rw [hcp]; rfl
end Go.Proofs.YtbnbcimjapiicaaDoor.Tr
