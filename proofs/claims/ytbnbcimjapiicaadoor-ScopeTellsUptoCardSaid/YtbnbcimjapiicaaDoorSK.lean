/- New. -/
import Derived.Test.YtbnbcimjapiicaaDoorSJ
set_option linter.unusedVariables false
set_option linter.unusedSimpArgs false
set_option maxRecDepth 4000
namespace Go.Proofs.YtbnbcimjapiicaaDoor.Tr
open Go Go.X Go.RowKit Go.Proofs.YtbnbcimjapiicaaDoor.XG Go.Proofs.YtbnbcimjapiicaaDoor.XK

def declsW (pre : List De) : List De → Wr
  | [] => zWr
  | d :: r => if dstep pre d = 0 then declsW (pre ++ [d]) r else ⟨dstep pre d, d.line, d.col⟩
def checkP (p : Pr) : Wr := if p.may then (if (declsW [] p.decls).err = 0 then St.wrL (kindP p.decls) p.body else declsW [] p.decls) else ⟨2, 0, 0⟩
theorem dstep_zero {pre : List De} {d : De} (h : dstep pre d = 0) : (findP pre d.key).kind = 0 ∧ full pre d = false := by
  unfold dstep at h
  split at h
  · simp at h
  · rename_i q
    split at h
    · simp at h
    · rename_i q2; exact ⟨by simpa using q, by simpa using q2⟩
theorem lim_snoc {pre : List De} {d : De} (h : full pre d = false) (hp : 0 ≤ d.places) (hv : vars pre ≤ 64) (hc : cellsP pre ≤ 1000) : vars (pre ++ [d]) ≤ 64 ∧ cellsP (pre ++ [d]) ≤ 1000 := by
  unfold full at h
  rw [vars_snoc, cellsP_snoc]
  by_cases q : d.places = 0
  · rw [if_pos q] at h
    have := of_decide_eq_false h
    rw [show isV d = true from decide_eq_true q]
    simp only [if_true]
    omega
  · rw [if_neg q] at h
    have := of_decide_eq_false h
    rw [show isV d = false from decide_eq_false q]
    simp only [Bool.false_eq_true, if_false]
    omega
theorem declsW_err {l : List De} : ∀ {pre : List De}, (declsW pre l).err = 0 → declsW pre l = zWr := by
  induction l with
  | nil => intro pre _; rw [declsW]
  | cons d r ih =>
    intro pre h
    rw [declsW] at h ⊢
    split
    · rename_i q; rw [if_pos q] at h; exact ih h
    · rename_i q; rw [if_neg q] at h; exact absurd h q
theorem zTb : (Tryd.prog.info? 69).isSome = true := by kernel_rfl
theorem bTb (m : Nat) : Tryd.prog.built 71 [(1, .map (some m))] = some #[.slice none 0 0, .map (some m), .int .i64 0, .slice none 0 0, .int .i64 0] := by kernel_rfl
theorem extr {w : World} {K : Value → World → Prop} (a b : Value) : VK Tryd.prog (Instr.extract (.tuple #[a, b]) 0) w K = K a w := extract_ok rfl
theorem TbAt.low {w : World} {base base' t : Nat} {ds : List De} (h : TbAt w base t ds) (hb : base' ≤ base) : TbAt w base' t ds := by
  obtain ⟨nv, av, m, l, c, h1, h2, h3, h4, h5, h6, h7⟩ := h.at'
  exact ⟨⟨nv, av, m, l, c, h1, h2, h3, by omega, by omega, owns_base h6 hb, owns_base h7 hb⟩⟩
theorem TbAt.off {w w' : World} {S : Nat → Prop} {base t : Nat} {ds : List De} (h : TbAt w base t ds) (hm : Mod S w w') (hS : ∀ i, S i → i < base) : TbAt w' base t ds := by
  obtain ⟨nv, av, m, l, c, h1, h2, h3, h4, h5, h6, h7⟩ := h.at'
  have hn : ∀ {i}, base ≤ i → ¬ S i := fun h q => by have := hS _ q; omega
  exact ⟨⟨nv, av, m, l, c, hm.blk h1 (hn h4), h2.mod hm (hn h5), h3, h4, h5, owns_mod h6 hm (fun k hk => hn (owns_ge h6 hk)), owns_mod h7 hm (fun k hk => hn (owns_ge h7 hk))⟩⟩
/-- What New tells. -/
structure Told (p : Pr) (w : World) (x : Value) (w' : World) : Prop where
  m : Mod none_ w w'
  ok : (checkP p).err = 0 → p.may = true ∧ (declsW [] p.decls).err = 0 ∧ ∃ t, x = pt t ∧ TbAt w' w.heap.size t p.decls
  bad : (checkP p).err ≠ 0 → x = .pointer none
theorem New_ok {w : World} (hg : Gl w) {p : Pr} (h : p.Ok w) (hf : p.fits) : Rt Tryd.prog 13 #[.agg p.cells.toArray] w fun v w' => ∃ x, v = .tuple #[x, (checkP p).v] ∧ Told p w x w' := by
  refine scope_New_calls ?_
  unfold scope_New_F
  refine box_k (cs := p.cells.toArray) rfl fun w1 hb1 hm1 hz1 => ?_
  refine al_k zWrg rfl _ fun w2 hb2 hm2 hz2 => ?_
  have hb12 := hm2.blk hb1 id
  have hm12 := hm1.trans hm2
  refine ldB (cs := p.cells.toArray) Tryd.underlying25 rfl iPr hb12 ?_
  refine CK_st Tryd.func29 rfl rfl (May_ok (hg.mod hm12) (h.mod hm12) hf) ?_
  rintro _ w3 ⟨rfl, hm3⟩
  rw [not_ok]
  have hm13 := hm12.trans hm3
  have hb13 := hm3.blk hb12 id
  have hb23 := hm3.blk hb2 id
  generalize hx3 : w1.heap.size = b3 at *
  cases hmay : p.may with
  | false =>
    refine condT ?_
    rw [build_ok (bWr1 2)]
    refine stS (b := b3) (old := zWr.cells.toArray) (cs := (Wr.mk 2 0 0).cells.toArray) rfl rfl iWrg rfl (wr_one _) hb23 fun w4 hb4 hm4 _ => ?_
    have hcp : checkP p = ⟨2, 0, 0⟩ := by unfold checkP; rw [hmay]; rfl
    refine ⟨_, res_ld (run_ldB (cs := (Wr.mk 2 0 0).cells.toArray) Tryd.underlying30 rfl iWrg hb4), _, by rw [hcp]; rfl, hm13.then hm4 (fun i hi q => absurd q (by omega)), fun q => ?_, fun _ => rfl⟩
    rw [hcp] at q; simp at q
  | true =>
    refine condF ?_
    have hmays : ∀ d ∈ p.decls, d.may = true := by
      unfold Pr.may at hmay
      simp only [Bool.and_eq_true, List.all_eq_true] at hmay
      exact hmay.1.2
    refine make_ok (enc := encK) 69 fun w4 hIs hm4 hz4 => ?_
    rw [build_ok (bTb _)]
    refine box_k (cs := #[.slice none 0 0, .map (some w3.heap.size), .int .i64 0, .slice none 0 0, .int .i64 0]) rfl fun w5 hb5 hm5 hz5 => ?_
    have hlt3 : w3.heap.size < w4.heap.size := by omega
    have hbase : b3 < w3.heap.size := X.blk_lt hb23
    have hT0 : TbAt w5 w3.heap.size w4.heap.size [] :=
      ⟨⟨_, _, _, [], 0, hb5, hIs.mod hm5 id, fun k => rfl, by omega, by omega, ⟨rfl, .inl ⟨rfl, rfl⟩⟩, ⟨rfl, .inl ⟨rfl, rfl⟩⟩⟩⟩
    have hm35 := hm4.trans hm5
    have hm15 := hm13.trans hm35
    have hb15 := hm35.blk hb13 id
    have hb25 := hm35.blk hb23 id
    have hb1lt : w.heap.size < b3 := by omega
    have h5 := h.mod hm15
    obtain ⟨A, c, hs, _⟩ := reads_cap h.d.1
    generalize w3.heap.size = base at *
    generalize w4.heap.size = t at *
    have f0 : FAt Tryd.prog w5 25 0 ⟨w.heap.size, 0, none⟩ 22 (.slice A p.decls.length c) := FAt.mk' (off := 0) (by kernel_rfl) uDes rfl (by rw [add_pl, cell_blk hb15, ← hs]; rfl)
    refine f0.vk' fun x16 => ?_
    rw [len22]
    have hcp : checkP p = (if (declsW [] p.decls).err = 0 then St.wrL (kindP p.decls) p.body else declsW [] p.decls) := by unfold checkP; rw [hmay]; rfl
    clear hm1 hz1 hb1 hm2 hz2 hb2 hm12 hb12 hb13 hb23 hm3 hIs hm4 hz4 hb5 hm5 hz5 hm13 hm35
    refine W_loop scope_New_L0_ok (fun ρ w' => ∃ n : Nat, n ≤ p.decls.length ∧ ρ 19 = .int .i64 n ∧ ρ 18 = .int .i64 p.decls.length ∧ ρ 17 = .slice A p.decls.length c ∧ ρ 1 = pt w.heap.size ∧ ρ 3 = pt b3 ∧ ρ 4 = pt t ∧ TbAt w' base t (p.decls.take n) ∧ vars (p.decls.take n) ≤ 64 ∧ cellsP (p.decls.take n) ≤ 1000 ∧ declsW [] p.decls = declsW (p.decls.take n) (p.decls.drop n) ∧ Mod (fun i => base ≤ i) w5 w') (fun ρ _ => p.decls.length - (intOf (ρ 19)).toNat)
      ⟨0, Nat.zero_le _, rfl, rfl, rfl, rfl, rfl, rfl, hT0, Nat.zero_le _, (by rw [List.take_zero]; decide), rfl, Mod.refl _ _⟩ ?_
    rintro ρ w6 ⟨n, hn, h19, h18, h17, h1, h3, h4, hT, hv, hc, hdW, hm6⟩
    have hb16 := hm6.blk hb15 (by omega)
    have hb26 := hm6.blk hb25 (by omega)
    have hm06 : Mod none_ w w6 := hm15.then hm6 fun i hi q => by omega
    rw [scope_New_L0_eq]
    unfold scope_New_L0_F
    rw [h19, h18, h17]
    refine BKlss (a := n) (b := p.decls.length) rfl rfl ?_
    by_cases hlt : n < p.decls.length
    · rw [show decide ((n : Int) < (p.decls.length : Int)) = true by rw [decide_eq_true_eq]; omega]
      refine condT ?_
      have hx : p.decls[n]? = some p.decls[n] := List.getElem?_eq_getElem hlt
      have hmem : p.decls[n] ∈ p.decls := List.getElem_mem hlt
      have hds6 := h.d.mod hm06
      rw [hs] at hds6
      refine ixDe hds6 hx fun y => ?_
      refine lcl_k (cs := p.decls[n].cells.toArray) zDe _ iDe rfl (de_one _) fun w7 hb7 hm7 hz7 => ?_
      refine ldS (b := w6.heap.size) (cs := p.decls[n].cells.toArray) rfl Tryd.underlying40 rfl iDe hb7 ?_
      rw [h4]
      have hlen' := hf.1
      have htl : (p.decls.take n).length = n := by rw [List.length_take]; omega
      have htake : p.decls.take (n + 1) = p.decls.take n ++ [p.decls[n]] := by rw [List.take_add_one, hx, Option.toList_some]
      have hdrop : p.decls.drop n = p.decls[n] :: p.decls.drop (n + 1) := (List.getElem_cons_drop hlt).symm
      have hp := may_places (hmays _ hmem)
      have hb17 := hm7.blk hb16 id
      have hb27 := hm7.blk hb26 id
      have hlt6 : base < w6.heap.size := by have := hm6.size; have := hT.raw; obtain ⟨_, _, m, _, _, hR, _⟩ := this; have := hR.fld; have := hR.lt; have := hR.bm; have := X.blk_lt this; have := hR.lm; omega
      refine CK_st Tryd.func37 rfl rfl (declare_ok (hT.mod hm7) ⟨by omega, fun d hd => hmays d (List.mem_of_mem_take hd)⟩ (by omega) hv hc (hmays _ hmem)) ?_
      rintro _ w8 ⟨rfl, hTn, hm8⟩
      have hdl : w8.heap[w6.heap.size]? = some (.cells p.decls[n].cells.toArray 40 (0, 0)) := hm8.blk hb7 fun q => q.2 _ _ hb7
      have hm58 : Mod (fun i => base ≤ i) w5 w8 := (hm6.trans (hm7.mono fun _ _ q => q.elim)).trans (hm8.mono fun _ _ q => q.1)
      rw [hdrop, declsW] at hdW
      refine BKneI (a := dstep (p.decls.take n) p.decls[n]) (b := 0) rfl rfl (fun hz => condF ?_) (fun hz => condT ?_)
      · obtain ⟨_, hfull⟩ := dstep_zero hz
        obtain ⟨hv', hc'⟩ := lim_snoc hfull hp.1 hv hc
        rw [if_pos hz] at hdW
        refine BKadd (a := n) (b := 1) rfl rfl (by omega) (by omega) ?_
        refine ⟨⟨n + 1, hlt, rfl, h18, h17, h1, h3, h4, ?_, ?_, ?_, ?_, hm58⟩, ?_⟩
        · rw [htake]; exact hTn hz
        · rw [htake]; exact hv'
        · rw [htake]; exact hc'
        · rw [htake]; exact hdW
        · show p.decls.length - (intOf (Value.int .i64 ((n : Int) + 1))).toNat < _
          simp only [intOf]; omega
      · rw [if_neg hz] at hdW
        have hcp' : checkP p = ⟨dstep (p.decls.take n) p.decls[n], p.decls[n].line, p.decls[n].col⟩ := by rw [hcp, hdW, if_neg hz]
        have hb18 := hm8.blk hb17 (fun q => by have := q.1; omega)
        have hb28 := hm8.blk hb27 (fun q => by have := q.1; omega)
        have hm08 : Mod none_ w w8 := hm15.then hm58 fun i hi q => by omega
        have e2 : ∀ (KK : Exit → Sl → World → Prop), (∀ (ρ3 : Sl) (w9 : World), ρ3 3 = pt b3 → ρ3 2 = .pointer none → w9.heap[b3]? = some (.cells (checkP p).cells.toArray 30 (0, 0)) → Mod (fun i => i = b3) w8 w9 → KK .normal ρ3 w9) → ∀ (ρ2 : Sl), ρ2 3 = pt b3 → ρ2 6 = pt w6.heap.size → ρ2 7 = .int .i64 (dstep (p.decls.take n) p.decls[n]) → W fn_ Tryd.prog 45 scope_New_R2 KK ρ2 w8 := by
          intro KK kN ρ2 q3 q6 q7
          refine scope_New_R2_tail (D := []) ?_
          unfold scope_New_R2_T
          have hbd : ({ w8 with drawn := w8.drawn + 1 } : World).heap[w6.heap.size]? = some (.cells p.decls[n].cells.toArray 40 (0, 0)) := hdl
          have hbd3 : ({ w8 with drawn := w8.drawn + 1 } : World).heap[b3]? = some (.cells zWr.cells.toArray 30 (0, 0)) := hb28
          have hmd : Mod (fun i => i = b3) w8 { w8 with drawn := w8.drawn + 1 } := (Mod.refl _ w8).drawn _
          generalize ({ w8 with drawn := w8.drawn + 1 } : World) = wd at hbd hbd3 hmd ⊢
          dsimp only
          rw [q6, q7]
          refine Qfo (off := 2) (a := ⟨w6.heap.size, 0, none⟩) (by kernel_rfl) (Qld uI rfl (v := .int .i64 p.decls[n].line) (fun w' hw => by rw [hw, add_pl, cell_blk hbd]; rfl) ?_)
          refine Qfo (off := 3) (a := ⟨w6.heap.size, 0, none⟩) (by kernel_rfl) (Qld uI rfl (v := .int .i64 p.decls[n].col) (fun w' hw => by rw [hw, add_pl, cell_blk hbd]; rfl) ?_)
          refine QV_of (fun w' _ => build_run (bWr3 _ _ _)) ?_
          refine stS (b := b3) (old := zWr.cells.toArray) (cs := (checkP p).cells.toArray) q3 (by rw [hcp']) iWrg rfl (wr_one _) hbd3 fun w9 hb9 hm9 _ => ?_
          refine kN _ w9 ?_ rfl hb9 (hmd.trans hm9)
          exact q3
        refine e2 _ (fun ρ3 w9 q3 q2 hb9 hm9 => ?_) _ ?_ ?_ rfl
        · rw [sq_n, scope_New_R3_eq]
          unfold scope_New_R3_F
          rw [bk_r, sq_r, sq_r, bk_r, sq_r]
          refine rtTC (b := b3) (cs := (checkP p).cells.toArray) q3 Tryd.underlying30 rfl iWrg hb9 ?_
          refine ⟨_, by rw [q2]; rfl, hm08.then hm9 (fun i hi q => absurd q (by omega)), fun q => ?_, fun _ => rfl⟩
          rw [hcp'] at q; exact absurd q hz
        · exact h3
        · rfl
    · obtain rfl : n = p.decls.length := by omega
      rw [show decide (((p.decls.length : Nat) : Int) < (p.decls.length : Int)) = false by simp]
      refine condF ?_
      rw [List.take_length] at hT hv hc
      rw [List.drop_length, List.take_length, declsW] at hdW
      rw [hdW] at hcp
      rw [if_pos (show zWr.err = 0 from rfl)] at hcp
      rw [sq_x, bk_x, sq_n, scope_New_R1_eq]
      unfold scope_New_R1_F
      have f1 : FAt Tryd.prog w6 25 1 ⟨w.heap.size, 0, none⟩ 23 p.bs := FAt.mk' (off := 1) (by kernel_rfl) uSts rfl (by rw [add_pl, cell_blk hb16]; rfl)
      refine f1.vs h1 fun x36 => ?_
      refine CK_eq (bs := [pt t, p.bs]) rfl ?_ (CK_st Tryd.func38 rfl rfl (look_ok' hT (h.b.mod hm06) hf.2) ?_)
      · exact congrArg (fun z => [z, p.bs]) h4
      rintro _ w7 ⟨rfl, hm7⟩
      refine lcl_k (cs := (St.wrL (kindP p.decls) p.body).cells.toArray) zWrg _ iWrg rfl (wr_one _) fun w8 hb8 hm8 hz8 => ?_
      have hb28 := (hm7.trans hm8).blk hb26 id
      have hm08 := (hm06.trans hm7).trans hm8
      have hT8 := (hT.mod hm7).mod hm8
      have hlt8 : b3 < w7.heap.size := by have := X.blk_lt hb26; have := hm7.size; omega
      generalize w7.heap.size = b8 at *
      have g0 : FAt Tryd.prog w8 30 0 ⟨b8, 0, none⟩ 28 (.int .i64 (St.wrL (kindP p.decls) p.body).err) := FAt.mk' (off := 0) (by kernel_rfl) uErrI rfl (by rw [add_pl, cell_blk hb8]; rfl)
      refine g0.vk' fun x39 => ?_
      refine BKneI (a := (St.wrL (kindP p.decls) p.body).err) (b := 0) rfl rfl (fun hz => condF ?_) (fun hz => condT ?_)
      · have he : (checkP p).err = 0 := by rw [hcp]; exact hz
        have hcz : checkP p = zWr := by rw [hcp]; exact St.wrL_z _ (fun a _ => St.wr_z a) hz
        rw [build_ok bWr0]
        refine stS (b := b3) (old := zWr.cells.toArray) (cs := zWr.cells.toArray) h3 rfl iWrg rfl (wr_one _) hb28 fun w9 hb9 hm9 _ => ?_
        refine rtTC (b := b3) (cs := zWr.cells.toArray) ?_ Tryd.underlying30 rfl iWrg hb9 ?_
        · exact h3
        · refine ⟨_, by rw [hcz]; rfl, hm08.then hm9 (fun i hi q => absurd q (by omega)), fun _ => ⟨hmay, by rw [hdW]; rfl, t, ?_, ?_⟩, fun q => absurd he q⟩
          · exact h4
          · exact (hT8.off hm9 fun i q => by omega).low (by omega)
      · have he : (checkP p).err ≠ 0 := by rw [hcp]; exact hz
        have e5 : ∀ (KK : Exit → Sl → World → Prop), (∀ (ρ3 : Sl) (w9 : World), ρ3 3 = pt b3 → ρ3 2 = .pointer none → w9.heap[b3]? = some (.cells (checkP p).cells.toArray 30 (0, 0)) → Mod (fun i => i = b3) w8 w9 → KK .normal ρ3 w9) → ∀ (ρ2 : Sl), ρ2 3 = pt b3 → ρ2 8 = pt b8 → W fn_ Tryd.prog 45 scope_New_R5 KK ρ2 w8 := by
          intro KK kN ρ2 q3 q8
          refine scope_New_R5_tail (D := []) ?_
          unfold scope_New_R5_T
          have hbd : ({ w8 with drawn := w8.drawn + 1 } : World).heap[b8]? = some (.cells (St.wrL (kindP p.decls) p.body).cells.toArray 30 (0, 0)) := hb8
          have hbd3 : ({ w8 with drawn := w8.drawn + 1 } : World).heap[b3]? = some (.cells zWr.cells.toArray 30 (0, 0)) := hb28
          have hmd : Mod (fun i => i = b3) w8 { w8 with drawn := w8.drawn + 1 } := (Mod.refl _ w8).drawn _
          generalize ({ w8 with drawn := w8.drawn + 1 } : World) = wd at hbd hbd3 hmd ⊢
          dsimp only
          rw [q8]
          refine QV_of (v := (checkP p).v) (fun w' hw => by rw [hw, hcp]; exact run_ldB (cs := (St.wrL (kindP p.decls) p.body).cells.toArray) Tryd.underlying30 rfl iWrg hbd) ?_
          refine stS (b := b3) (old := zWr.cells.toArray) (cs := (checkP p).cells.toArray) q3 rfl iWrg rfl (wr_one _) hbd3 fun w9 hb9 hm9 _ => ?_
          refine kN _ w9 ?_ rfl hb9 (hmd.trans hm9)
          exact q3
        refine e5 _ (fun ρ3 w9 q3 q2 hb9 hm9 => ?_) _ ?_ ?_
        · rw [sq_n, scope_New_R6_eq]
          unfold scope_New_R6_F
          rw [sq_r]
          refine rtTC (b := b3) (cs := (checkP p).cells.toArray) q3 Tryd.underlying30 rfl iWrg hb9 ?_
          exact ⟨_, by rw [q2]; rfl, hm08.then hm9 (fun i hi q => absurd q (by omega)), fun q => absurd q he, fun _ => rfl⟩
        · exact h3
        · rfl
end Go.Proofs.YtbnbcimjapiicaaDoor.Tr
