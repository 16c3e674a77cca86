/- Several texts of this repo, one behind the other, without what is not used here. -/
import Derived.Test.YtmbgbffgkdcieaaBV2
set_option linter.unusedVariables false
set_option linter.unusedSimpArgs false
set_option maxRecDepth 4000
namespace Go.Proofs.Ytmbgbffgkdcieaa.Tr
open Go Go.X Go.RowKit Go.Proofs.Ytmbgbffgkdcieaa.XF Go.Proofs.Ytmbgbffgkdcieaa.XK
theorem QixIns {C : World → Prop} {s : Value} {l : List Ins} {i : Nat} {e : Ins} {K : Value → Prop} {w0 : World} (hw0 : C w0) (h : ∀ w, C w → InsRow w s l) (hi : l[i]? = some e) (hk : ∀ a, (∀ w, C w → ∀ j u, e.cells[j]? = some u → w.cell? (a.add j) = some u) → K (.pointer (some a))) :
    QK Try.prog C (do pure (Next.value (← Instr.indexAt 25 s (.int .i64 (i : Int))))) K := by
  have hlt : i < l.length := (List.getElem?_eq_some_iff.1 hi).1
  obtain ⟨hl, A, c, hs, hc, hr⟩ := (h w0 hw0).1
  obtain ⟨a, ha | q⟩ := rd_cell (size := 2) (hs ▸ (h w0 hw0).1) hlt
  · subst ha
    subst hs
    refine QV_of (fun w _ => run_ixa vCs cC (by omega) (by omega) w) (hk _ fun w hw j u hu => ?_)
    obtain ⟨_, A', c', hs', _, hr'⟩ := (h w hw).1
    cases hs'
    have hj : j < 1 + 1 := (List.getElem?_eq_some_iff.1 hu).1
    obtain ⟨a', ha', hcell⟩ := hr' (i * 2 + j) u (by rw [fl_get (k := 1 + 1) Ins.cells_len hi hj]; exact hu)
    cases ha'
    rw [add_add, show ((i : Int).toNat) = i by omega]
    exact hcell
  · omega
abbrev HR_ (P : Pg) (w0 : World) : Value → World → Prop := fun v w' => (∃ lv, v = .tuple #[lv, .int .i64 (if P.heights.isSome then 0 else 50)]) ∧ Mod none_ w0 w'
theorem heights_ok {w : World} {P : Pg} {cs : List Value} (h : PgOk w P cs) (h1 : P.code.length ≤ 1048576) (h2 : P.arrs.length ≤ 1048576) : Rt Try.prog 21 #[.agg cs.toArray] w (HR_ P w) := by
  obtain ⟨A, A', c, c', ecs⟩ := h.e
  refine code_Heights_calls ?_
  unfold code_Heights_F
  refine box_k (cs := cs.toArray) rfl fun w1 hb1 hm1 hz1 => ?_
  have ihP : (Try.prog.info? 28).map (·.size) = some cs.toArray.size := by rw [ecs]; kernel_rfl
  refine ldB Try.underlying28 rfl ihP hb1 ?_
  refine CK_st Try.func32 rfl rfl (whole_ok (h.mod hm1) h1 h2 w1 (Mod.refl _ _)) ?_
  rintro _ w2 ⟨rfl, hm2⟩
  rw [not_ok]
  cases hw : P.whole with
  | false =>
    refine condT ?_
    have : P.heights = none := by unfold Pg.heights; rw [hw]; rfl
    exact ⟨⟨_, by rw [this]; rfl⟩, hm1.trans hm2⟩
  | true =>
    refine condF ?_
    have hl := whole_len hw
    have hcode1 : InsRow w1 (.slice A P.code.length c) P.code := by
      obtain ⟨s, a, b⟩ := (h.mod hm1).code
      rw [ecs] at a
      cases a
      exact b
    refine bs_k (cs := #[.int .i64 (-1)]) (by kernel_rfl) fun w3 hb3 hm3 hz3 => ?_
    have hm13 := hm2.trans hm3
    have k3 : FO Try.prog w3 28 0 0 ⟨w.heap.size, 0, none⟩ 25 (.slice A P.code.length c) := FO.blk (hm13.blk hb1 id) (by kernel_rfl) vCs rfl (by rw [ecs]; rfl)
    rw [k3.e, len_sl vCs]
    refine CK_st Try.func33 rfl rfl (Repeat_ok (n := P.code.length) (by omega) (by omega) (reads_blk (size := 1) (n := 1) hb3 rfl)) ?_
    rintro _ w4 ⟨rfl, hb4, hm4⟩
    have hz13 := hm13.size
    have hz4 := hm4.size
    have er : reps P.code.length P.code.length = (List.replicate P.code.length (Value.int .i64 (-1))).toArray := by unfold reps; simp
    rw [er] at hb4
    generalize hBe : w3.heap.size = B at *
    refine put_r (i := 0) vIs cI rfl (owns_new hb4 (by simp) (by omega)) (by omega) fun y w5 hB5 hm5 hz5 => ?_
    have hm5' : Mod (fun b => b = B) w4 w5 := hm5.mono fun b _ q => by injection q
    refine bs_k (cs := #[.int .i64 0]) (by kernel_rfl) fun w6 hb6 hm6 hz6 => ?_
    have hm16 : Mod none_ w1 w6 := ((hm13.trans hm4).then hm5' fun i hi q => by omega).trans hm6
    have e0 : (List.replicate P.code.length (Value.int .i64 (-1))).set 0 (.int .i64 0) = i64s ((List.replicate P.code.length (-1)).set 0 0) := by unfold i64s; rw [List.map_set, List.map_replicate]
    rw [e0] at hB5
    refine W_loopG code_Heights_L0_ok (fun m ρ w' => ∃ out todo : List Int, WlI P out todo ∧ (∀ b : Nat, out.getD b 0 ≤ 200) ∧ wl P m out todo = P.heights ∧ wlM out todo ≤ m ∧ m ≤ 9000 ∧ ρ 4 = .slice (some ⟨B, 0, none⟩) P.code.length P.code.length ∧ ρ 1 = .pointer (some ⟨w.heap.size, 0, none⟩) ∧
        w'.ownsRow 0 tI 1 (.slice (some ⟨B, 0, none⟩) P.code.length P.code.length) P.code.length (i64s out) ∧ reads w' 1 (ρ 5) todo.length (i64s todo) ∧ (ρ 5).ownBlock ≠ some B ∧ Mod none_ w1 w') (2 * P.code.length + 1)
      ⟨(List.replicate P.code.length (-1)).set 0 0, [0], WlI.start hw, fun b => ?_, ?_, wlM_start hw, by omega, rfl, rfl, owns_mod hB5 hm6 fun _ _ q => q, reads_blk (size := 1) (n := 1) hb6 rfl, ?_, hm16⟩ ?_
    · rw [getD_set (by simp; omega)]
      split
      · omega
      · rw [List.getD_eq_getElem?_getD, List.getElem?_replicate]
        split <;> simp
    · unfold Pg.heights; rw [if_pos hw]
    · show some w5.heap.size ≠ some B
      intro z
      have := X.blk_lt hb4
      injection z with z
      omega
    rintro m ρ w7 ⟨out, todo, hI, h200, hwl, hM, hm9, g4, g1, hB7, ht7, hT7, hm7⟩
    rw [code_Heights_L0_eq]; unfold code_Heights_L0_F
    obtain ⟨AT, cT, eT, hcT⟩ := reads_cap ht7
    rw [eT] at ht7
    rw [eT, len_sl vIs, BK_gtr]
    rcases List.eq_nil_or_concat todo with rfl | ⟨l, a, rfl⟩
    · rw [decide_eq_false (by simp)]
      refine condF ?_
      rw [sq_x, bk_x, sq_n, code_Heights_R1_eq]; unfold code_Heights_R1_F
      rw [wl_nil] at hwl
      exact ⟨⟨_, by rw [← hwl]; rfl⟩, hm1.trans hm7⟩
    · rw [List.concat_eq_append] at *
      have hlen : (l ++ [a]).length = l.length + 1 := by simp
      have hml : 1 + l.length ≤ m := by unfold wlM at hM; rw [hlen] at hM; omega
      rw [hlen] at ht7 ⊢
      rw [decide_eq_true (by omega)]
      refine condT ?_
      rw [len_sl vIs, BK_sub, show IntKind.i64.wrap (((l.length + 1 : Nat) : Int) - 1) = (l.length : Int) by rw [wrap_i (by omega) (by omega)]; omega]
      refine ixld vIs cI vI rfl ht7 (by omega) (u := .int .i64 a) (by unfold i64s; simp) fun y2 => ?_
      rw [len_sl vIs, BK_sub, show IntKind.i64.wrap (((l.length + 1 : Nat) : Int) - 1) = (l.length : Int) by rw [wrap_i (by omega) (by omega)]; omega]
      refine VK_of (run_cut (sz := 0) vIs cI (by omega) (by omega) (by omega) w7) ?_
      rw [Int.toNat_natCast]
      obtain ⟨a0, a1, a2⟩ := hI.td a (by simp)
      obtain ⟨an, rfl⟩ : ∃ an : Nat, a = an := ⟨a.toNat, by omega⟩
      have han : an < P.code.length := by omega
      obtain ⟨m', rfl⟩ : ∃ m', m = m' + 1 := ⟨m - 1, by omega⟩
      rw [wl_snoc] at hwl
      have hip : P.code[an]? = some (P.code.getD an zIns) := by rw [List.getD_eq_getElem?_getD, List.getElem?_eq_getElem han]; rfl
      have hop := whole_op hw (P.code.getD an zIns) (List.mem_of_getElem? hip)
      have hstep := fun o t => @WlI.step P hw out l o t (an : Int) hI
      simp only [Int.toNat_natCast] at hwl a2 hstep
      have hways := wayV_in hw han
      generalize hie : P.code.getD an zIns = i at *
      have htk := tk_nn hop
      have hh200 := h200 an
      generalize hhe : out.getD an 0 = hgt at *
      have hb7 := hm7.blk hb1 id
      have hcode7 := hcode1.mod hm7
      refine code_Heights_R2_quiet (D := []) (fun w' => Mod none_ w7 w') ((Mod.refl _ w7).drawn _) ?_
      unfold code_Heights_R2_Q
      simp only [sq_n, sq_x, sq_r, bk_n, bk_r, bk_x, rt_r, rt_n, rs_0, rs_t, pk_1, pk_2, up_at, reduceIte, Nat.reduceEqDiff, g1]
      refine QV_of (fun w' hw' => run_ldB Try.underlying28 rfl ihP (hw'.blk hb7 id)) ?_
      refine Qfo (off := 0) (a := ⟨w.heap.size, 0, none⟩) (by kernel_rfl) (Qld vCs rfl (v := .slice A P.code.length c) (fun w' hw' => by rw [add_pl, cell_blk (hw'.blk hb7 id), ecs]; rfl) ?_)
      refine QixIns (w0 := w7) (Mod.refl _ _) (fun w' hw' => hcode7.mod hw') hip fun ad had => ?_
      refine QV_of (fun w' hw' => run_ldA (cs := i.cells) Try.underlying30 rfl (by kernel_rfl) (had w' hw')) ?_
      refine QC_rt (R := fun w' => TR P i w') Try.func34 rfl rfl (v := .tuple #[.int .i64 (P.tk i).1, .int .i64 (P.tk i).2.1, .bool (P.tk i).2.2]) (fun w' hw' => by rw [ecs]; exact takes_ok w') (fun w' u w'' hw' hu => ⟨hu.1, hw'.trans hu.2⟩) ?_
      refine QV_of (v := .int .i64 (P.tk i).1) (fun w' _ => rfl) ?_
      refine QV_of (v := .int .i64 (P.tk i).2.1) (fun w' _ => rfl) ?_
      refine QV_of (v := .bool (P.tk i).2.2) (fun w' _ => rfl) ?_
      intro w8 hm8
      rw [code_Heights_R3_eq]; unfold code_Heights_R3_F
      simp only [sq_n, sq_x, sq_r, bk_n, bk_r, bk_x, rt_r, rt_n, rs_0, rs_t, pk_1, pk_2, up_at, reduceIte, Nat.reduceEqDiff, g4, g1]
      have hm18 := hm7.trans hm8
      have hB8 := owns_mod hB7 hm8 fun _ _ q => q
      have hgo := getD_some (l := out) (i := an) (by rw [hI.len]; exact han)
      rw [hhe] at hgo
      have fail : P.heights = none → HR_ P w (.tuple #[.slice none 0 0, .int .i64 50]) w8 := fun q => ⟨⟨_, by rw [q]; rfl⟩, hm1.trans hm18⟩
      refine ixld vIs cI vI rfl (reads_of_owns hB8) (by omega) (u := .int .i64 hgt) (by simpa using i64s_get hgo) fun y3 => ?_
      rw [BK_sub, wrap_i (n := hgt - (P.tk i).1) (by omega) (by omega), BK_add, wrap_i (n := hgt - (P.tk i).1 + (P.tk i).2.1) (by omega) (by omega)]
      refine ixld vIs cI vI rfl (reads_of_owns hB8) (by omega) (u := .int .i64 hgt) (by simpa using i64s_get hgo) fun y4 => ?_
      rw [BK_lss]
      by_cases c1 : hgt < (P.tk i).1
      · simp only [c1, decide_true, ↓VG_u, ↓UG_u, ↓MG_u, ↓NG_u, ↓PG_u, ↓BG_u, ↓CG_u, ↓IG_u, ↓VGtt, ↓VGtf, ↓VGft, ↓VGff, ↓UGtt, ↓UGtf, ↓UGft, ↓UGff, ↓MGtt, ↓MGtf, ↓MGft, ↓MGff, ↓NGtt, ↓NGtf, ↓NGft, ↓NGff, ↓PGtt, ↓PGtf, ↓PGft, ↓PGff, ↓BGtt, ↓BGtf, ↓BGft, ↓BGff, ↓CGtt, ↓CGtf, ↓CGft, ↓CGff, ↓IGtt, ↓IGtf, ↓IGft, ↓IGff, ↓PKt, ↓PKf, ↓CDt, ↓CDf, ↓NOTt, ↓NOTf, ↓NK_ptr]
        rw [if_pos (.inl c1)] at hwl
        exact fail hwl.symm
      simp only [c1, decide_false, ↓VG_u, ↓UG_u, ↓MG_u, ↓NG_u, ↓PG_u, ↓BG_u, ↓CG_u, ↓IG_u, ↓VGtt, ↓VGtf, ↓VGft, ↓VGff, ↓UGtt, ↓UGtf, ↓UGft, ↓UGff, ↓MGtt, ↓MGtf, ↓MGft, ↓MGff, ↓NGtt, ↓NGtf, ↓NGft, ↓NGff, ↓PGtt, ↓PGtf, ↓PGft, ↓PGff, ↓BGtt, ↓BGtf, ↓BGft, ↓BGff, ↓CGtt, ↓CGtf, ↓CGft, ↓CGff, ↓IGtt, ↓IGtf, ↓IGft, ↓IGff, ↓PKt, ↓PKf, ↓CDt, ↓CDf, ↓NOTt, ↓NOTf, ↓NK_ptr, ↓BK_gtr]
      by_cases c2 : 200 < hgt - (P.tk i).1 + (P.tk i).2.1
      · simp only [c2, decide_true, ↓VG_u, ↓UG_u, ↓MG_u, ↓NG_u, ↓PG_u, ↓BG_u, ↓CG_u, ↓IG_u, ↓VGtt, ↓VGtf, ↓VGft, ↓VGff, ↓UGtt, ↓UGtf, ↓UGft, ↓UGff, ↓MGtt, ↓MGtf, ↓MGft, ↓MGff, ↓NGtt, ↓NGtf, ↓NGft, ↓NGff, ↓PGtt, ↓PGtf, ↓PGft, ↓PGff, ↓BGtt, ↓BGtf, ↓BGft, ↓BGff, ↓CGtt, ↓CGtf, ↓CGft, ↓CGff, ↓IGtt, ↓IGtf, ↓IGft, ↓IGff, ↓PKt, ↓PKf, ↓CDt, ↓CDf, ↓NOTt, ↓NOTf, ↓NK_ptr]
        rw [if_pos (.inr c2)] at hwl
        exact fail hwl.symm
      simp only [c2, decide_false, ↓VG_u, ↓UG_u, ↓MG_u, ↓NG_u, ↓PG_u, ↓BG_u, ↓CG_u, ↓IG_u, ↓VGtt, ↓VGtf, ↓VGft, ↓VGff, ↓UGtt, ↓UGtf, ↓UGft, ↓UGff, ↓MGtt, ↓MGtf, ↓MGft, ↓MGff, ↓NGtt, ↓NGtf, ↓NGft, ↓NGff, ↓PGtt, ↓PGtf, ↓PGft, ↓PGff, ↓BGtt, ↓BGtf, ↓BGft, ↓BGff, ↓CGtt, ↓CGtf, ↓CGft, ↓CGff, ↓IGtt, ↓IGtf, ↓IGft, ↓IGff, ↓PKt, ↓PKf, ↓CDt, ↓CDf, ↓NOTt, ↓NOTf, ↓NK_ptr]
      rw [if_neg (by omega)] at hwl
      have k8 : FO Try.prog w8 28 0 0 ⟨w.heap.size, 0, none⟩ 25 (.slice A P.code.length c) := FO.blk (hm18.blk hb1 id) (by kernel_rfl) vCs rfl (by rw [ecs]; rfl)
      rw [k8.e]
      refine ixIns (hcode1.mod hm18) hip fun y5 => ?_
      refine CK_st Try.func35 rfl rfl (ways_ok (i := i) (by omega) (by omega) w8) ?_
      rintro v9 w9 ⟨hrow, hnew, hm9'⟩
      obtain ⟨A9, c9, e9, _⟩ := reads_cap hrow
      rw [e9, len_sl vIs]
      rw [code_Heights_R4_eq]; unfold code_Heights_R4_F
      have hm19 := hm18.trans hm9'
      have fail9 : P.heights = none → ∀ w', Mod none_ w1 w' → HR_ P w (.tuple #[.slice none 0 0, .int .i64 50]) w' := fun q w' hq => ⟨⟨_, by rw [q]; rfl⟩, hm1.trans hq⟩
      have htk : (l ++ [(an : Int)]).take l.length = l := by simp
      have hcut := reads_cut ht7 (m := l.length) (by omega) 1
      have hcut' : reads w7 1 (sliced AT 0 l.length cT 1) l.length (i64s l) := by
        have e : (i64s (l ++ [(an : Int)])).take (l.length * 1) = i64s l := by unfold i64s; simp
        rw [e] at hcut
        exact hcut
      have hTc : (sliced AT 0 l.length cT 1).ownBlock ≠ some B := by
        rw [eT] at hT7
        intro z
        apply hT7
        rw [← z]
        unfold sliced
        cases AT with
        | none => by_cases q : cT = 0 <;> simp [q, Value.ownBlock]
        | some x => by_cases q : cT = 0 <;> simp [q, Value.ownBlock, add_block]
      have hBlt : B < w8.heap.size := by
        obtain ⟨c, hc⟩ := owns_blk hB8 rfl
        exact X.blk_lt hc
      refine ways_loop (n := P.code.length) (B := B) (high := hgt - (P.tk i).1 + (P.tk i).2.1) (ws := wayV an i) (out := out) (todo := l) hways hI.len (by simp only [sq_n, sq_x, sq_r, bk_n, bk_r, bk_x, rt_r, rt_n, rs_0, rs_t, pk_1, pk_2, up_at, reduceIte, Nat.reduceEqDiff]; rw [← e9]; exact hrow) (by simp only [sq_n, sq_x, sq_r, bk_n, bk_r, bk_x, rt_r, rt_n, rs_0, rs_t, pk_1, pk_2, up_at, reduceIte, Nat.reduceEqDiff]) (by simp only [sq_n, sq_x, sq_r, bk_n, bk_r, bk_x, rt_r, rt_n, rs_0, rs_t, pk_1, pk_2, up_at, reduceIte, Nat.reduceEqDiff]) (by simp only [sq_n, sq_x, sq_r, bk_n, bk_r, bk_x, rt_r, rt_n, rs_0, rs_t, pk_1, pk_2, up_at, reduceIte, Nat.reduceEqDiff]) (by simp only [sq_n, sq_x, sq_r, bk_n, bk_r, bk_x, rt_r, rt_n, rs_0, rs_t, pk_1, pk_2, up_at, reduceIte, Nat.reduceEqDiff, g4]) (owns_mod hB8 hm9' fun _ _ q => q)
        (by simp only [sq_n, sq_x, sq_r, bk_n, bk_r, bk_x, rt_r, rt_n, rs_0, rs_t, pk_1, pk_2, up_at, reduceIte, Nat.reduceEqDiff]; exact reads_mod (reads_mod hcut' hm8 fun _ _ _ q => q) hm9' fun _ _ _ q => q) (by simp only [sq_n, sq_x, sq_r, bk_n, bk_r, bk_x, rt_r, rt_n, rs_0, rs_t, pk_1, pk_2, up_at, reduceIte, Nat.reduceEqDiff]; exact hTc) (by simp only [sq_n, sq_x, sq_r, bk_n, bk_r, bk_x, rt_r, rt_n, rs_0, rs_t, pk_1, pk_2, up_at, reduceIte, Nat.reduceEqDiff]; rw [← e9]; intro z; have := hnew _ z; omega) (by have := wayV_len an i; omega) ?_ ?_
      · intro hs ρ' w' q2 q3 hm
        rw [hs] at hwl
        rw [bk_r, bk_r, sq_r, bk_r, sq_r]
        have : HR_ P w (.tuple #[ρ' 2, ρ' 3]) w' := by
          rw [q2, q3]
          exact fail9 hwl.symm w' (hm19.then hm fun k hk q => by omega)
        exact this
      · intro o t hs ρ' w' q4 q1 hBo ht hTo hm
        rw [hs] at hwl
        dsimp only at hwl
        obtain ⟨s1, s2⟩ := hstep o t hs (by omega) (by omega)
        rw [bk_x, bk_n, sq_n]
        have hS := wlS_ok (by omega) (fun x hx => by rw [hI.len]; exact hways x hx) hs
        refine ⟨m', Nat.lt_succ_self _, o, t, s1, fun b => ?_, hwl, by omega, by omega, by rw [q4]; simp only [sq_n, sq_x, sq_r, bk_n, bk_r, bk_x, rt_r, rt_n, rs_0, rs_t, pk_1, pk_2, up_at, reduceIte, Nat.reduceEqDiff, g4], by rw [q1]; simp only [sq_n, sq_x, sq_r, bk_n, bk_r, bk_x, rt_r, rt_n, rs_0, rs_t, pk_1, pk_2, up_at, reduceIte, Nat.reduceEqDiff, g1], hBo, ht, hTo, hm19.then hm fun k hk q => by omega⟩
        rcases hS.new b with z | z
        · rw [z]; exact h200 b
        · rw [z.1]; omega
theorem may_ok {w : World} {P : Pg} {cs : List Value} (h : PgOk w P cs) (h1 : P.code.length ≤ 1048576) (h2 : P.arrs.length ≤ 1048576) : Rt Try.prog 14 #[.agg cs.toArray] w fun v w' => v = .bool P.may ∧ Mod none_ w w' := by
  obtain ⟨A, A', c, c', ecs⟩ := h.e
  refine code_May_calls ?_
  unfold code_May_F
  refine box_k (cs := cs.toArray) rfl fun w1 hb1 hm1 hz1 => ?_
  have ihP : (Try.prog.info? 28).map (·.size) = some cs.toArray.size := by rw [ecs]; kernel_rfl
  refine ldB Try.underlying28 rfl ihP hb1 ?_
  refine CK_st Try.func21 rfl rfl (heights_ok (h.mod hm1) h1 h2) ?_
  rintro _ w2 ⟨⟨lv, rfl⟩, hm2⟩
  rw [extract_ok (v := lv) rfl, extract_ok (v := .int .i64 (if P.heights.isSome then 0 else 50)) rfl]
  refine caseI (fun q => ?_) (fun q => ?_)
  · refine ⟨?_, hm1.trans hm2⟩
    unfold Pg.may
    cases hq : P.heights.isSome with
    | true => rfl
    | false => rw [hq] at q; simp at q
  · refine ⟨?_, hm1.trans hm2⟩
    unfold Pg.may
    cases hq : P.heights.isSome with
    | true => rw [hq] at q; simp at q
    | false => rfl
end Go.Proofs.Ytmbgbffgkdcieaa.Tr
set_option linter.unusedVariables false
set_option linter.unusedSimpArgs false
set_option maxRecDepth 4000
namespace Go.X
open Go Go.RowKit
theorem bs0_k {P : Program} {w : World} {K : Value → World → Prop} {t e : TypeId} {n : Nat} (hu : P.underlying t = some (.slice e)) (hi : (P.info? e).map (·.size) = some n)
    (hk : ∀ w', w'.heap[w.heap.size]? = some (.cells #[] e (0, 0)) → Mod none_ w w' → w'.heap.size = w.heap.size + 1 → K (.slice (some ⟨w.heap.size, 0, none⟩) 0 0) w') : VK P (Instr.buildSlice t 0 [].toArray) w K := by
  obtain ⟨ie, hie, _⟩ := Option.map_eq_some_iff.1 hi
  have hr : (Instr.buildSlice t 0 [].toArray).run P w = .ok (.slice (some ⟨w.heap.size, 0, none⟩) 0 0) (w.alloc (.cells #[] e)) := by
    simp [Instr.buildSlice, Sem.run_bind, run_underlying hu, sizeOf, typeInfo, hie, Instr.fill, newRow]
    rw [Array.eq_empty_of_size_eq_zero (xs := Array.map _ (Array.range 0)) (by simp)]
  exact VK_of hr (new_k w _ hk)
theorem owns_zero {w : World} {b : Nat} {e : TypeId} {size base : Nat} (h : w.heap[b]? = some (.cells #[] e (0, 0))) (hb : base ≤ b) : w.ownsRow base e size (.slice (some ⟨b, 0, none⟩) 0 0) 0 [] :=
  ⟨by simp, .inr ⟨b, 0, #[], rfl, hb, h, Nat.le_refl _, Nat.zero_le _, by simp, by simp⟩⟩
end Go.X
namespace Go.Proofs.Ytmbgbffgkdcieaa.Tr
open Go Go.X Go.RowKit Go.Proofs.Ytmbgbffgkdcieaa.XF Go.Proofs.Ytmbgbffgkdcieaa.XK
theorem BK_sln {t e : TypeId} (h : Try.prog.underlying t = some (.slice e)) {w : World} {K : Value → World → Prop} {x y : Operand} (a : Option Addr) (n c : Nat) : BK Try.prog .eql t x y (.slice a n c) (.slice none 0 0) w K = K (.bool a.isNone) w :=
  BK_of rfl (Lib.run_eql_slice_nil w t e a n c 0 0 h)
theorem eIs : elemOk Try.prog 26 3 1 8 = true := by kernel_rfl
theorem eNs : elemOk Try.prog 22 2 1 8 = true := by kernel_rfl
theorem eCs : elemOk Try.prog 25 30 2 16 = true := by kernel_rfl
theorem clone_k {t e : TypeId} {size bytes : Nat} (hE : elemOk Try.prog t e size bytes = true) (hu : Try.prog.underlying t = some (.slice e)) (hi : (Try.prog.info? e).map (·.size) = some size) (hb : bytes ≤ 64) {w : World} {v : Value} {n : Nat} {xs : List Value} (h : reads w size v n xs) (h1 : ∀ u ∈ xs, u.oneCell' = true) (hn : n ≤ 1099511627776) (hpos : 0 < size) {R : Value → World → Prop}
    (hk : ∀ v' w', w'.ownsRow w.heap.size e size v' n xs → Mod none_ w w' → R v' w') {x y : Operand} :
    BK Try.prog .eql t x y v (.slice none 0 0) w fun x4 w => CondK x4 (R (.slice none 0 0) w) (VK Try.prog (Instr.buildSlice t 0 [].toArray) w fun x5 w => IK Try.prog .append #[t, t] t [false, false] [x5, v] w fun x7 w => R x7 w) := by
  obtain ⟨A, c, rfl, hnc⟩ := reads_cap h
  rw [BK_sln hu]
  cases A with
  | none =>
    refine condT (hk _ _ ?_ (Mod.refl _ _))
    have h0 : xs = [] := by
      obtain ⟨hl, A', c', q, _, hr⟩ := h
      cases q
      rcases Nat.eq_zero_or_pos xs.length with q | q
      · exact List.length_eq_zero_iff.1 q
      · obtain ⟨a, ha, _⟩ := hr 0 _ (List.getElem?_eq_getElem q)
        cases ha
    have hn0 : n = 0 := by
      have := h.1
      rw [h0] at this
      rcases Nat.eq_zero_or_pos n with q | q
      · exact q
      · have := Nat.mul_pos q hpos; simp at *; omega
    rw [h0, hn0]
    exact ⟨by simp, .inl ⟨rfl, rfl⟩⟩
  | some a =>
    refine condF ?_
    refine bs0_k hu hi fun w1 hb1 hm1 hz1 => ?_
    have hown : w1.ownsRow w.heap.size e size (.slice (some ⟨w.heap.size, 0, none⟩) 0 0) 0 [] := owns_zero hb1 (Nat.le_refl _)
    have hnb : (0 + n) * bytes ≤ 140737488355328 := by
      have : (0 + n) * bytes ≤ 1099511627776 * 64 := Nat.mul_le_mul (by omega) hb
      omega
    refine ap_any hE hown (reads_mod h hm1 (fun _ _ _ => id)) h1 (by unfold maxLen; omega) hnb (by omega) fun v' w' h2 hm2 _ => ?_
    refine hk v' w' (by simpa using h2) (hm1.then hm2 fun i hi q => ?_)
    have : i = w.heap.size := by simpa [Value.ownBlock] using q
    omega
theorem ins_one (l : List Ins) : ∀ u ∈ l.flatMap Ins.cells, u.oneCell' = true := by
  intro u hu
  obtain ⟨i, _, hi⟩ := List.mem_flatMap.1 hu
  unfold Ins.cells at hi
  rcases List.mem_cons.1 hi with rfl | hi
  · rfl
  · rw [List.mem_singleton.1 hi]; rfl
theorem cloneC_ok {w : World} {v : Value} {l : List Ins} (h : InsRow w v l) (hn : l.length ≤ 1048576) : Rt Try.prog 22 #[v] w fun v' w' => w'.ownsRow w.heap.size 30 2 v' l.length (l.flatMap Ins.cells) ∧ Mod none_ w w' := by
  refine slices_Clone_code_Instr_code_Instr_calls ?_
  unfold slices_Clone_code_Instr_code_Instr_F
  exact clone_k (R := fun v' w' => w'.ownsRow w.heap.size 30 2 v' l.length (l.flatMap Ins.cells) ∧ Mod none_ w w') eCs vCs (by kernel_rfl) (by omega) h.1 (ins_one l) (by omega) (by omega) fun v' w' a b => ⟨a, b⟩
theorem cloneI_ok {w : World} {v : Value} {l : List Int} (h : reads w 1 v l.length (i64s l)) (hn : l.length ≤ 1048576) : Rt Try.prog 23 #[v] w fun v' w' => w'.ownsRow w.heap.size 3 1 v' l.length (i64s l) ∧ Mod none_ w w' := by
  refine slices_Clone_int_int_calls ?_
  unfold slices_Clone_int_int_F
  exact clone_k (R := fun v' w' => w'.ownsRow w.heap.size 3 1 v' l.length (i64s l) ∧ Mod none_ w w') eIs vIs (by kernel_rfl) (by omega) h (i64s_one l) (by omega) (by omega) fun v' w' a b => ⟨a, b⟩
theorem owns_new_ge {w : World} {base : Nat} {e : TypeId} {size : Nat} {v : Value} {n : Nat} {xs : List Value} (h : w.ownsRow base e size v n xs) {g : Nat} (hg : v.ownBlock = some g) : base ≤ g := by
  rcases h.2 with ⟨rfl, _⟩ | ⟨g', cap, cur, rfl, hb, _⟩
  · cases hg
  · cases hg; exact hb
def CpP (P : Pg) (w : World) (v : Value) (w' : World) : Prop := ∃ cv av, v = .agg #[cv, .int .i64 P.vars, av] ∧ InsRow w' cv P.code ∧ reads w' 1 av P.arrs.length (i64s P.arrs) ∧ (∀ k, cv.ownBlock = some k → w.heap.size ≤ k ∧ k < w'.heap.size) ∧ (∀ k, av.ownBlock = some k → w.heap.size ≤ k ∧ k < w'.heap.size) ∧ cv.oneCell' = true ∧ av.oneCell' = true ∧ Mod none_ w w'
theorem owns_oc {w : World} {base : Nat} {e : TypeId} {size : Nat} {v : Value} {n : Nat} {xs : List Value} (h : w.ownsRow base e size v n xs) : v.oneCell' = true := by
  rcases h.2 with ⟨rfl, _⟩ | ⟨g, cap, cur, rfl, _⟩ <;> rfl
def zPg : Value := .agg #[.slice none 0 0, .int .i64 0, .slice none 0 0]
theorem zPg_z : (Try.prog.info? 28).bind (·.zero) = some zPg := by kernel_rfl
theorem iPg : (Try.prog.info? 28).map (·.size) = some 3 := by kernel_rfl
theorem copyP_ok {w : World} {P : Pg} {cs : List Value} (h : PgOk w P cs) (h1 : P.code.length ≤ 1048576) (h2 : P.arrs.length ≤ 1048576) : Rt Try.prog 15 #[.agg cs.toArray] w (CpP P w) := by
  obtain ⟨A, A', c, c', ecs⟩ := h.e
  refine code_Copy_calls ?_
  unfold code_Copy_F
  refine box_k (cs := cs.toArray) rfl fun w1 hb1 hm1 hz1 => ?_
  have hcode1 : InsRow w1 (.slice A P.code.length c) P.code := by
    obtain ⟨s, a, b⟩ := (h.mod hm1).code
    rw [ecs] at a
    cases a
    exact b
  have harr1 : reads w1 1 (.slice A' P.arrs.length c') P.arrs.length (i64s P.arrs) := by
    obtain ⟨s, a, b⟩ := (h.mod hm1).arrs
    rw [ecs] at a
    cases a
    exact b
  refine al_k (cs := #[.slice none 0 0, .int .i64 0, .slice none 0 0]) zPg_z rfl _ fun w2 hb2 hm2 hz2 => ?_
  have hb12 := hm2.blk hb1 id
  rw [ecs] at hb12
  have fin : ∀ (wE : World) (cv av : Value) (ρ' : Sl), ρ' 1 = .pointer (some ⟨w.heap.size, 0, none⟩) → ρ' 2 = .pointer (some ⟨w1.heap.size, 0, none⟩) → wE.heap[w.heap.size]? = some (.cells #[cv, .int .i64 P.vars, av] 28 (0, 0)) → wE.heap[w1.heap.size]? = some (.cells #[.slice none 0 0, .int .i64 0, .slice none 0 0] 28 (0, 0)) →
      InsRow wE cv P.code → reads wE 1 av P.arrs.length (i64s P.arrs) → (∀ k, cv.ownBlock = some k → w2.heap.size ≤ k ∧ k < wE.heap.size) → (∀ k, av.ownBlock = some k → w2.heap.size ≤ k ∧ k < wE.heap.size) → cv.oneCell' = true → av.oneCell' = true → Mod none_ w wE →
      sx fn_ Try.prog 12 code_Copy_R1 (retK Try.prog [ResultVar.cell 2 28] (CpP P w)) ρ' wE := by
    intro wE cv av ρ' q1 q2 e1 e2 r1 r2 n1 n2 o1 o2 hm
    rw [code_Copy_R1_eq]; unfold code_Copy_R1_F
    rw [q1]
    refine ldB Try.underlying28 rfl (by rw [iPg]; rfl) e1 ?_
    refine stS (cs := #[cv, .int .i64 P.vars, av]) (old := #[.slice none 0 0, .int .i64 0, .slice none 0 0]) q2 rfl (by rw [iPg]; rfl) rfl (by simp [o1, o2]; rfl) e2 fun wF hbF hmF hzF => ?_
    have hmF' : ∀ b, b = w1.heap.size → b < w2.heap.size := fun b q => by omega
    refine rtCell (b := w1.heap.size) (show _ = _ by exact q2) Try.underlying28 rfl (by rw [iPg]; rfl) hbF ?_
    refine ⟨cv, av, rfl, ⟨reads_mod r1.1 hmF fun k _ q z => ?_, trivial⟩, reads_mod r2 hmF fun k _ q z => ?_, fun k q => by have := n1 k q; have := hmF.size; omega, fun k q => by have := n2 k q; have := hmF.size; omega, o1, o2, hm.then hmF fun i hi q => by omega⟩
    · have := n1 k q; have := hmF' k z; omega
    · have := n2 k q; have := hmF' k z; omega
  refine code_Copy_R0_held (D := []) (fun _ => True) trivial ?_
  unfold code_Copy_R0_H
  have hfo : ∀ (i off : Nat), fieldOff Try.prog 28 i = some off → ∀ w', (Instr.fieldAt 28 (.pointer (some ⟨w.heap.size, 0, none⟩)) i).run Try.prog w' = .ok (.pointer (some (Addr.add ⟨w.heap.size, 0, none⟩ off))) w' := fun i off q w' => run_fo q _ w'
  generalize hq : ({ w2 with drawn := w2.drawn + 1 } : World) = wd
  have hbd1 : wd.heap[w.heap.size]? = some (.cells (pgC P A A' c c').toArray 28 (0, 0)) := by rw [← hq]; exact hb12
  have hbd2 : wd.heap[w1.heap.size]? = some (.cells #[.slice none 0 0, .int .i64 0, .slice none 0 0] 28 (0, 0)) := by rw [← hq]; exact hb2
  have hmd : Mod none_ w1 wd := by rw [← hq]; exact hm2.drawn _
  have hzd : wd.heap.size = w2.heap.size := by rw [← hq]
  have l4 : ∀ (w' : World) (K : Value → World → Prop), Mod none_ wd w' → K (.slice A P.code.length c) w' → VK Try.prog (Instr.loadAt 25 (.pointer (some (Addr.add ⟨w.heap.size, 0, none⟩ 0)))) w' K := fun w' K hm hk => ld1 vCs rfl (by rw [add_pl, cell_blk (hm.blk hbd1 id)]; rfl) hk
  have l7 : ∀ (w' : World) (K : Value → World → Prop), Mod none_ wd w' → K (.slice A' P.arrs.length c') w' → VK Try.prog (Instr.loadAt 26 (.pointer (some (Addr.add ⟨w.heap.size, 0, none⟩ 2)))) w' K := fun w' K hm hk => ld1 vIs rfl (by rw [add_pl, cell_blk (hm.blk hbd1 id)]; rfl) hk
  have tail : ∀ (w3 w4 : World) (cv av : Value) (K M : World → Prop), w3.ownsRow wd.heap.size 30 2 cv P.code.length (P.code.flatMap Ins.cells) → Mod none_ wd w3 → w4.ownsRow w3.heap.size 3 1 av P.arrs.length (i64s P.arrs) → Mod none_ w3 w4 →
      (∀ wE, wE.heap[w.heap.size]? = some (.cells #[cv, .int .i64 P.vars, av] 28 (0, 0)) → wE.heap[w1.heap.size]? = some (.cells #[.slice none 0 0, .int .i64 0, .slice none 0 0] 28 (0, 0)) →
        InsRow wE cv P.code → reads wE 1 av P.arrs.length (i64s P.arrs) → (∀ k, cv.ownBlock = some k → w2.heap.size ≤ k ∧ k < wE.heap.size) → (∀ k, av.ownBlock = some k → w2.heap.size ≤ k ∧ k < wE.heap.size) → cv.oneCell' = true → av.oneCell' = true → Mod none_ w wE → K wE) → (∀ w5, (UK Try.prog (Instr.storeAt 26 (.pointer (some (Addr.add ⟨w.heap.size, 0, none⟩ 2))) av) w5 fun _ w6 => True ∧ K w6) → M w5) →
      UK Try.prog (Instr.storeAt 25 (.pointer (some (Addr.add ⟨w.heap.size, 0, none⟩ 0))) cv) w4 fun _ w5 => True ∧ M w5 := by
    intro w3 w4 cv av K M r3 m3 r4 m4 hk hM
    have hd4 := m3.trans m4
    rw [add_pl]
    refine stC rfl (by kernel_rfl) (owns_oc r3) (hd4.blk hbd1 id) (by show 0 < 3; omega) fun w5 hb5 hm5 hz5 => ⟨trivial, hM w5 ?_⟩
    rw [add_pl]
    refine stC rfl (by kernel_rfl) (owns_oc r4) hb5 (by show 0 + 2 < 3; omega) fun w6 hb6 hm6 hz6 => ⟨trivial, ?_⟩
    have n3 : ∀ k, cv.ownBlock = some k → w2.heap.size ≤ k ∧ k < w6.heap.size := fun k q => by
      have := owns_new_ge r3 q
      obtain ⟨x, hx⟩ := owns_blk r3 q
      have := X.blk_lt hx
      have := m4.size
      omega
    have n4 : ∀ k, av.ownBlock = some k → w2.heap.size ≤ k ∧ k < w6.heap.size := fun k q => by
      have := owns_new_ge r4 q
      obtain ⟨x, hx⟩ := owns_blk r4 q
      have := X.blk_lt hx
      have := m3.size
      omega
    have hm46 := hm5.trans hm6
    refine hk w6 hb6 ?_ ⟨reads_mod (reads_mod (reads_of_owns r3) m4 fun _ _ _ q => q) hm46 fun k _ q z => ?_, trivial⟩ (reads_mod (reads_of_owns r4) hm46 fun k _ q z => ?_) n3 n4 (owns_oc r3) (owns_oc r4) ?_
    · exact hm46.blk (hd4.blk hbd2 id) (by omega)
    · have := n3 k q; omega
    · have := n4 k q; omega
    · exact (((hm1.trans hmd).trans hd4)).then hm46 fun i hi q => by omega
  have c22 : ∀ (w' : World) (K : Value → World → Prop), Mod none_ wd w' → (∀ cv w3, w3.ownsRow w'.heap.size 30 2 cv P.code.length (P.code.flatMap Ins.cells) → Mod none_ w' w3 → K cv w3) → CK Try.prog (.func (.func 22) #[] #[]) [.slice A P.code.length c] w' K := fun w' K hm hk =>
    CK_st Try.func22 rfl rfl (cloneC_ok ((hcode1.mod hmd).mod hm) h1) fun v w3 q => hk v w3 q.1 q.2
  have c23 : ∀ (w' : World) (K : Value → World → Prop), Mod none_ wd w' → (∀ av w3, w3.ownsRow w'.heap.size 3 1 av P.arrs.length (i64s P.arrs) → Mod none_ w' w3 → K av w3) → CK Try.prog (.func (.func 23) #[] #[]) [.slice A' P.arrs.length c'] w' K := fun w' K hm hk =>
    CK_st Try.func23 rfl rfl (cloneI_ok (reads_mod (reads_mod harr1 hmd fun _ _ _ q => q) hm fun _ _ _ q => q) h2) fun v w3 q => hk v w3 q.1 q.2
  have e1 : ∀ (f : Sl → Sl), True := fun _ => trivial
  refine HV_of (fun w' _ => hfo 0 0 (by kernel_rfl) w') ?_
  refine HV_of (fun w' _ => hfo 2 2 (by kernel_rfl) w') ?_
  refine ⟨l4 _ _ (Mod.refl _ _) ⟨trivial, ?_, ?_⟩, l7 _ _ (Mod.refl _ _) ⟨trivial, l4 _ _ (Mod.refl _ _) ⟨trivial, ?_⟩⟩⟩
  · refine c22 _ _ (Mod.refl _ _) fun cv w3 r3 m3 => ⟨trivial, l7 _ _ m3 ⟨trivial, ?_⟩⟩
    refine HV_of (fun w' _ => hfo 0 0 (by kernel_rfl) w') ?_
    refine c23 _ _ m3 fun av w4 r4 m4 => ⟨trivial, tail w3 w4 cv av _ _ r3 m3 r4 m4 (fun wE a b d e f g i j k => fin wE cv av _ rfl rfl a b d e f g i j k) fun w5 h => HV_of (fun w' _ => hfo 2 2 (by kernel_rfl) w') h⟩
  · refine l7 _ _ (Mod.refl _ _) ⟨trivial, c22 _ _ (Mod.refl _ _) fun cv w3 r3 m3 => ⟨trivial, ?_⟩⟩
    refine HV_of (fun w' _ => hfo 0 0 (by kernel_rfl) w') ?_
    refine c23 _ _ m3 fun av w4 r4 m4 => ⟨trivial, tail w3 w4 cv av _ _ r3 m3 r4 m4 (fun wE a b d e f g i j k => fin wE cv av _ rfl rfl a b d e f g i j k) fun w5 h => HV_of (fun w' _ => hfo 2 2 (by kernel_rfl) w') h⟩
  · refine c22 _ _ (Mod.refl _ _) fun cv w3 r3 m3 => ⟨trivial, ?_⟩
    refine HV_of (fun w' _ => hfo 0 0 (by kernel_rfl) w') ?_
    refine c23 _ _ m3 fun av w4 r4 m4 => ⟨trivial, tail w3 w4 cv av _ _ r3 m3 r4 m4 (fun wE a b d e f g i j k => fin wE cv av _ rfl rfl a b d e f g i j k) fun w5 h => HV_of (fun w' _ => hfo 2 2 (by kernel_rfl) w') h⟩
end Go.Proofs.Ytmbgbffgkdcieaa.Tr
set_option linter.unusedVariables false
set_option linter.unusedSimpArgs false
namespace Go.X
open Go Go.RowKit
def basesV : Int → List Int → List Int
  | _, [] => []
  | c, n :: r => c :: basesV (c + n) r
theorem basesV_len : ∀ (c : Int) (l : List Int), (basesV c l).length = l.length
  | _, [] => rfl
  | c, n :: r => by simp [basesV, basesV_len (c + n) r]
theorem basesV_snoc : ∀ (c s : Int) (l : List Int) (x : Int), cellsV c l = some s → basesV c (l ++ [x]) = basesV c l ++ [s]
  | c, s, [], x, h => by
    simp only [cellsV, Option.some.injEq] at h
    subst h; rfl
  | c, s, n :: r, x, h => by
    unfold cellsV at h
    split at h
    · cases h
    · simp only [List.cons_append, basesV, basesV_snoc (c + n) s r x h]
theorem basesV_in : ∀ (c r : Int) (l : List Int), cellsV c l = some r → c ≤ r ∧ ∀ a : Nat, a < l.length → c ≤ (basesV c l).getD a 0 ∧ (basesV c l).getD a 0 + l.getD a 0 ≤ r
  | c, r, [], h => by
    simp only [cellsV, Option.some.injEq] at h
    subst h
    exact ⟨Int.le_refl _, fun a ha => absurd ha (Nat.not_lt_zero _)⟩
  | c, r, n :: l, h => by
    unfold cellsV at h
    split at h
    · cases h
    · have ih := basesV_in (c + n) r l h
      refine ⟨by omega, fun a ha => ?_⟩
      cases a with
      | zero => simp [basesV]; omega
      | succ a =>
        have := ih.2 a (by simpa using ha)
        simp only [basesV, List.getD_cons_succ]
        omega
theorem cellsV_top : ∀ (c r : Int) (l : List Int), c ≤ 1000 → cellsV c l = some r → r ≤ 1000
  | c, r, [], hc, h => by
    simp only [cellsV, Option.some.injEq] at h
    omega
  | c, r, n :: l, hc, h => by
    unfold cellsV at h
    split at h
    · cases h
    · exact cellsV_top (c + n) r l (by omega) h
def Pg.total (P : Pg) : Int := (cellsV 0 P.arrs).getD 0
theorem whole_cells {P : Pg} (h : P.whole = true) : cellsV 0 P.arrs = some P.total ∧ 0 ≤ P.total ∧ P.total ≤ 1000 := by
  unfold Pg.whole at h
  simp only [Bool.and_eq_true] at h
  have h1 := h.1.1.1.1.1.1
  unfold Pg.total
  cases hq : cellsV 0 P.arrs with
  | none => rw [hq] at h1; cases h1
  | some r => exact ⟨rfl, (basesV_in 0 r _ hq).1, cellsV_top 0 r _ (by omega) hq⟩
def new0 (P : Pg) (rank size : Int) : Rk := ⟨P, rank, size, 0, [], List.replicate P.vars.toNat 0, List.replicate P.total.toNat 0, basesV 0 P.arrs, zRs, 0, zCl, 0⟩
theorem inv_new {P : Pg} {H : List Int} (h : P.heights = some H) (rank size : Int) : (new0 P rank size).Inv H := by
  obtain ⟨hw, ht⟩ := heights_hts h
  have hl := whole_len hw
  have hc := whole_cells hw
  refine ⟨h, fun _ => ⟨Int.le_refl _, by show (0 : Int) < P.code.length; omega, ?_⟩, Nat.zero_le _, ?_, basesV_len _ _, fun a ha => ?_, ?_, Nat.zero_le _, Nat.zero_le _⟩
  · show H.getD 0 0 = 0
    exact ht.zero
  · show ((List.replicate P.vars.toNat (0 : Int)).length : Int) = P.vars
    rw [List.length_replicate]; omega
  · have := (basesV_in 0 P.total P.arrs hc.1).2 a ha
    refine ⟨this.1, ?_⟩
    show (basesV 0 P.arrs).getD a 0 + P.arrs.getD a 0 ≤ ((List.replicate P.total.toNat (0 : Int)).length : Int)
    rw [List.length_replicate]; omega
  · show (List.replicate P.total.toNat (0 : Int)).length ≤ 1000
    rw [List.length_replicate]; omega
end Go.X
set_option linter.unusedVariables false
set_option linter.unusedSimpArgs false
set_option maxRecDepth 4000
namespace Go.Proofs.Ytmbgbffgkdcieaa.Tr
open Go Go.X Go.RowKit Go.Proofs.Ytmbgbffgkdcieaa.XF Go.Proofs.Ytmbgbffgkdcieaa.XK
def V0 (cv av vs : Value) : RkV := ⟨cv, av, .slice none 0 0, vs, .slice none 0 0, .slice none 0 0, .slice none 0 0, .slice none 0 0⟩
theorem built_rk (P : Pg) (rank size : Int) (cv av : Value) (a : Option Addr) (n c : Nat) : Try.prog.built tR [(0, .agg #[cv, .int .i64 P.vars, av]), (1, .int .i64 rank), (2, .int .i64 size), (5, .slice a n c)] = some (rkC (new0 P rank size) (V0 cv av (.slice a n c))).toArray := by kernel_rfl
def NewP (P : Pg) (rank size : Int) (w : World) (v : Value) (w' : World) : Prop :=
  (P.may = false ∧ v = .tuple #[.pointer none, .int .i64 50] ∨ P.may = true ∧ (size < 1 ∨ 64 < size ∨ rank < 0 ∨ size ≤ rank) ∧ v = .tuple #[.pointer none, .int .i64 2] ∨
    P.may = true ∧ (1 ≤ size ∧ size ≤ 64 ∧ 0 ≤ rank ∧ rank < size) ∧ ∃ p V, v = .tuple #[.pointer (some ⟨p, 0, none⟩), .int .i64 0] ∧ RkAt w' p (new0 P rank size) V ∧ ∀ b, V.G p b → w.heap.size ≤ b) ∧ Mod none_ w w'
theorem nums_zero (n : Nat) : (Array.replicate n (Value.int .i64 0)) = (i64s (List.replicate n 0)).toArray := by unfold i64s; simp
theorem new_ok {w : World} {P : Pg} {cs : List Value} (h : PgOk w P cs) (h1 : P.code.length ≤ 1048576) (h2 : P.arrs.length ≤ 1048576) (rank size : Int) : Rt Try.prog 6 #[.agg cs.toArray, .int .i64 rank, .int .i64 size] w (NewP P rank size w) := by
  obtain ⟨A, A', c, c', ecs⟩ := h.e
  refine vm_New_calls ?_
  unfold vm_New_F
  refine box_k (cs := cs.toArray) rfl fun w1 hb1 hm1 hz1 => ?_
  have ihP : (Try.prog.info? 28).map (·.size) = some cs.toArray.size := by rw [ecs]; kernel_rfl
  refine ldB Try.underlying28 rfl ihP hb1 ?_
  refine CK_st Try.func14 rfl rfl (may_ok (h.mod hm1) h1 h2) ?_
  rintro _ w2 ⟨rfl, hm2⟩
  have hm02 := hm1.trans hm2
  rw [not_ok]
  cases hmay : P.may with
  | false => refine condT ?_; exact ⟨.inl ⟨hmay, rfl⟩, hm02⟩
  | true =>
    refine condF ?_
    have bad : (size < 1 ∨ 64 < size ∨ rank < 0 ∨ size ≤ rank) → NewP P rank size w (.tuple #[.pointer none, .int .i64 2]) w2 := fun q => ⟨.inr (.inl ⟨hmay, q, rfl⟩), hm02⟩
    rw [BK_lss]
    by_cases c1 : size < 1
    · simp only [c1, decide_true, ↓VG_u, ↓UG_u, ↓MG_u, ↓NG_u, ↓PG_u, ↓BG_u, ↓CG_u, ↓IG_u, ↓VGtt, ↓VGtf, ↓VGft, ↓VGff, ↓UGtt, ↓UGtf, ↓UGft, ↓UGff, ↓MGtt, ↓MGtf, ↓MGft, ↓MGff, ↓NGtt, ↓NGtf, ↓NGft, ↓NGff, ↓PGtt, ↓PGtf, ↓PGft, ↓PGff, ↓BGtt, ↓BGtf, ↓BGft, ↓BGff, ↓CGtt, ↓CGtf, ↓CGft, ↓CGff, ↓IGtt, ↓IGtf, ↓IGft, ↓IGff, ↓PKt, ↓PKf, ↓CDt, ↓CDf, ↓NOTt, ↓NOTf, ↓NK_ptr]
      exact bad (.inl c1)
    simp only [c1, decide_false, ↓VG_u, ↓UG_u, ↓MG_u, ↓NG_u, ↓PG_u, ↓BG_u, ↓CG_u, ↓IG_u, ↓VGtt, ↓VGtf, ↓VGft, ↓VGff, ↓UGtt, ↓UGtf, ↓UGft, ↓UGff, ↓MGtt, ↓MGtf, ↓MGft, ↓MGff, ↓NGtt, ↓NGtf, ↓NGft, ↓NGff, ↓PGtt, ↓PGtf, ↓PGft, ↓PGff, ↓BGtt, ↓BGtf, ↓BGft, ↓BGff, ↓CGtt, ↓CGtf, ↓CGft, ↓CGff, ↓IGtt, ↓IGtf, ↓IGft, ↓IGff, ↓PKt, ↓PKf, ↓CDt, ↓CDf, ↓NOTt, ↓NOTf, ↓NK_ptr, ↓BK_gtr]
    by_cases c2 : 64 < size
    · simp only [c2, decide_true, ↓VG_u, ↓UG_u, ↓MG_u, ↓NG_u, ↓PG_u, ↓BG_u, ↓CG_u, ↓IG_u, ↓VGtt, ↓VGtf, ↓VGft, ↓VGff, ↓UGtt, ↓UGtf, ↓UGft, ↓UGff, ↓MGtt, ↓MGtf, ↓MGft, ↓MGff, ↓NGtt, ↓NGtf, ↓NGft, ↓NGff, ↓PGtt, ↓PGtf, ↓PGft, ↓PGff, ↓BGtt, ↓BGtf, ↓BGft, ↓BGff, ↓CGtt, ↓CGtf, ↓CGft, ↓CGff, ↓IGtt, ↓IGtf, ↓IGft, ↓IGff, ↓PKt, ↓PKf, ↓CDt, ↓CDf, ↓NOTt, ↓NOTf, ↓NK_ptr]
      exact bad (.inr (.inl c2))
    simp only [c2, decide_false, ↓VG_u, ↓UG_u, ↓MG_u, ↓NG_u, ↓PG_u, ↓BG_u, ↓CG_u, ↓IG_u, ↓VGtt, ↓VGtf, ↓VGft, ↓VGff, ↓UGtt, ↓UGtf, ↓UGft, ↓UGff, ↓MGtt, ↓MGtf, ↓MGft, ↓MGff, ↓NGtt, ↓NGtf, ↓NGft, ↓NGff, ↓PGtt, ↓PGtf, ↓PGft, ↓PGff, ↓BGtt, ↓BGtf, ↓BGft, ↓BGff, ↓CGtt, ↓CGtf, ↓CGft, ↓CGff, ↓IGtt, ↓IGtf, ↓IGft, ↓IGff, ↓PKt, ↓PKf, ↓CDt, ↓CDf, ↓NOTt, ↓NOTf, ↓NK_ptr, ↓BK_lss]
    by_cases c3 : rank < 0
    · simp only [c3, decide_true, ↓VG_u, ↓UG_u, ↓MG_u, ↓NG_u, ↓PG_u, ↓BG_u, ↓CG_u, ↓IG_u, ↓VGtt, ↓VGtf, ↓VGft, ↓VGff, ↓UGtt, ↓UGtf, ↓UGft, ↓UGff, ↓MGtt, ↓MGtf, ↓MGft, ↓MGff, ↓NGtt, ↓NGtf, ↓NGft, ↓NGff, ↓PGtt, ↓PGtf, ↓PGft, ↓PGff, ↓BGtt, ↓BGtf, ↓BGft, ↓BGff, ↓CGtt, ↓CGtf, ↓CGft, ↓CGff, ↓IGtt, ↓IGtf, ↓IGft, ↓IGff, ↓PKt, ↓PKf, ↓CDt, ↓CDf, ↓NOTt, ↓NOTf, ↓NK_ptr]
      exact bad (.inr (.inr (.inl c3)))
    simp only [c3, decide_false, ↓VG_u, ↓UG_u, ↓MG_u, ↓NG_u, ↓PG_u, ↓BG_u, ↓CG_u, ↓IG_u, ↓VGtt, ↓VGtf, ↓VGft, ↓VGff, ↓UGtt, ↓UGtf, ↓UGft, ↓UGff, ↓MGtt, ↓MGtf, ↓MGft, ↓MGff, ↓NGtt, ↓NGtf, ↓NGft, ↓NGff, ↓PGtt, ↓PGtf, ↓PGft, ↓PGff, ↓BGtt, ↓BGtf, ↓BGft, ↓BGff, ↓CGtt, ↓CGtf, ↓CGft, ↓CGff, ↓IGtt, ↓IGtf, ↓IGft, ↓IGff, ↓PKt, ↓PKf, ↓CDt, ↓CDf, ↓NOTt, ↓NOTf, ↓NK_ptr, ↓BK_geq]
    by_cases c4 : size ≤ rank
    · simp only [c4, decide_true, ↓VG_u, ↓UG_u, ↓MG_u, ↓NG_u, ↓PG_u, ↓BG_u, ↓CG_u, ↓IG_u, ↓VGtt, ↓VGtf, ↓VGft, ↓VGff, ↓UGtt, ↓UGtf, ↓UGft, ↓UGff, ↓MGtt, ↓MGtf, ↓MGft, ↓MGff, ↓NGtt, ↓NGtf, ↓NGft, ↓NGff, ↓PGtt, ↓PGtf, ↓PGft, ↓PGff, ↓BGtt, ↓BGtf, ↓BGft, ↓BGff, ↓CGtt, ↓CGtf, ↓CGft, ↓CGff, ↓IGtt, ↓IGtf, ↓IGft, ↓IGff, ↓PKt, ↓PKf, ↓CDt, ↓CDf, ↓NOTt, ↓NOTf, ↓NK_ptr]
      exact bad (.inr (.inr (.inr c4)))
    simp only [c4, decide_false, ↓VG_u, ↓UG_u, ↓MG_u, ↓NG_u, ↓PG_u, ↓BG_u, ↓CG_u, ↓IG_u, ↓VGtt, ↓VGtf, ↓VGft, ↓VGff, ↓UGtt, ↓UGtf, ↓UGft, ↓UGff, ↓MGtt, ↓MGtf, ↓MGft, ↓MGff, ↓NGtt, ↓NGtf, ↓NGft, ↓NGff, ↓PGtt, ↓PGtf, ↓PGft, ↓PGff, ↓BGtt, ↓BGtf, ↓BGft, ↓BGff, ↓CGtt, ↓CGtf, ↓CGft, ↓CGff, ↓IGtt, ↓IGtf, ↓IGft, ↓IGff, ↓PKt, ↓PKf, ↓CDt, ↓CDf, ↓NOTt, ↓NOTf, ↓NK_ptr]
    have hh : ∃ H, P.heights = some H := Option.isSome_iff_exists.1 hmay
    obtain ⟨H, hH⟩ := hh
    obtain ⟨hw, hts⟩ := heights_hts hH
    have hl := whole_len hw
    have hcl := whole_cells hw
    obtain ⟨nv, hnv⟩ : ∃ nv : Nat, P.vars = nv := ⟨P.vars.toNat, by omega⟩
    have hb2 := hm2.blk hb1 id
    have hP2 : PgOk w2 P cs := h.mod hm02
    -- the loop, and the cells
    have rest : ∀ (ρ : Sl) (wp : World) (p : Nat) (cv av : Value) (vb : Nat), ρ 8 = .pointer (some ⟨p, 0, none⟩) → ρ 3 = .pointer (some ⟨w.heap.size, 0, none⟩) → wp.heap[p]? = some (.cells (rkC (new0 P rank size) (V0 cv av (.slice (some ⟨vb, 0, none⟩) nv nv))).toArray tR (0, 0)) → InsRow wp cv P.code → reads wp 1 av P.arrs.length (i64s P.arrs) →
        wp.heap[vb]? = some (.cells (i64s (List.replicate nv 0)).toArray tN (0, 0)) → (∀ k, cv.ownBlock = some k → w.heap.size < k ∧ k < wp.heap.size ∧ k ≠ p ∧ k ≠ vb) → (∀ k, av.ownBlock = some k → w.heap.size < k ∧ k < wp.heap.size ∧ k ≠ p ∧ k ≠ vb) → w.heap.size < p → w.heap.size < vb → p ≠ vb → Mod none_ w1 wp →
        sx fn_ Try.prog 68 vm_New_R1 (retK Try.prog [ResultVar.tmp 6, ResultVar.tmp 7] (NewP P rank size w)) ρ wp := by
      intro ρ wp p cv av vb g8 g3 hbp rc ra hbv nc na lp lv npv hmp
      have hplt := X.blk_lt hbp
      have hvlt := X.blk_lt hbv
      rw [vm_New_R1_eq]; unfold vm_New_R1_F
      have f2 : FO Try.prog wp 28 2 2 ⟨w.heap.size, 0, none⟩ 26 (.slice A' P.arrs.length c') := FO.blk (hmp.blk hb1 id) (by kernel_rfl) vIs rfl (by rw [ecs]; rfl)
      have harr0 : reads w 1 (.slice A' P.arrs.length c') P.arrs.length (i64s P.arrs) := by
        obtain ⟨s, a, b⟩ := h.arrs
        rw [ecs] at a
        cases a
        exact b
      have hm0p : Mod none_ w wp := hm1.trans hmp
      have hwp := hm0p.size
      rw [g3, f2.e, len_sl vIs]
      refine W_loop vm_New_L2_ok (fun ρ' wL => ∃ (n : Nat) (s : Int) (bv : Value), n ≤ P.arrs.length ∧ cellsV 0 (P.arrs.take n) = some s ∧ ρ' 44 = .int .i64 n ∧ ρ' 43 = .int .i64 P.arrs.length ∧ ρ' 42 = .slice A' P.arrs.length c' ∧ ρ' 8 = .pointer (some ⟨p, 0, none⟩) ∧ ρ' 9 = .int .i64 s ∧
          wL.heap[p]? = some (.cells (rkC (new0 P rank size) { V0 cv av (.slice (some ⟨vb, 0, none⟩) nv nv) with b := bv }).toArray tR (0, 0)) ∧ wL.ownsRow wp.heap.size tI 1 bv n (i64s (basesV 0 (P.arrs.take n))) ∧ Mod (fun b => b = p) wp wL) (fun ρ _ => P.arrs.length - (intOf (ρ 44)).toNat)
        ⟨0, 0, .slice none 0 0, Nat.zero_le _, rfl, rfl, rfl, rfl, g8, rfl, hbp, ⟨rfl, .inl ⟨rfl, rfl⟩⟩, Mod.refl _ _⟩ ?_
      rintro ρ1 wL ⟨n, s, bv, hn, hs, e44, e43, e42, e8, e9, hbL, hown, hmL⟩
      rw [vm_New_L2_eq]; unfold vm_New_L2_F
      rw [e44, e43, e42, e8, e9, BK_lss]
      have hsr := cellsV_le _ _ _ (by omega) (by omega) hs
      have hm0L : Mod (fun b => b = p) w wL := (hm0p.mono fun _ _ q => q.elim).trans hmL
      by_cases hlt : n < P.arrs.length
      · rw [decide_eq_true (by omega)]
        refine condT ?_
        obtain ⟨x, hx⟩ : ∃ x, P.arrs[n]? = some x := ⟨_, List.getElem?_eq_getElem hlt⟩
        obtain ⟨v1, v2⟩ := cellsV_at P.arrs 0 n x hx hs
        have hnb : ¬ (x < 1 ∨ 1000 - s < x) := fun q => by
          rw [if_pos q, hcl.1] at v1
          cases v1
        rw [if_neg hnb] at v2
        refine ixld vIs cI vI rfl (reads_mod harr0 hm0L fun k hk _ q => by omega) (by omega) (by simpa using i64s_get hx) fun y => ?_
        rw [NK_ptr]
        have fb : FO Try.prog wL tR 7 9 ⟨p, 0, none⟩ 26 bv := FO.blk hbL (by kernel_rfl) vIs rfl rfl
        rw [fb.e]
        refine bs_k (cs := #[.int .i64 s]) (by kernel_rfl) fun w3 hb3 hm3 hz3 => ?_
        have hown3 := owns_mod hown hm3 fun _ _ q => q
        have hszL := hmL.size
        refine ap_any eIs hown3 (reads_blk (size := 1) (n := 1) hb3 rfl) (by intro u hu; rw [List.mem_singleton.1 hu]; rfl) (by unfold maxLen; omega) (by omega) (by omega) fun v' w4 hown4 hm4 hv4 => ?_
        rw [NK_ptr, fo (show fieldOff Try.prog tR 7 = some 9 by kernel_rfl)]
        have hbvp : ∀ k, some k = bv.ownBlock → wp.heap.size ≤ k := fun k q => owns_new_ge hown q.symm
        have hb4 := hm4.blk (hm3.blk hbL id) (fun q => by have := hbvp _ q; omega)
        refine stC (o := 9) (by rw [add_pl]) (by kernel_rfl) (owns_oc hown4) hb4 (by show 9 < 31; omega) fun w5 hb5 hm5 hz5 => ?_
        rw [BK_add, wrap_i (n := s + x) (by omega) (by omega), BK_add, wrap_i (n := (n : Int) + 1) (by omega) (by omega)]
        rw [sq_n]
        have hv'p : ∀ k, v'.ownBlock = some k → k ≠ p := fun k q => by have := owns_new_ge hown4 q; omega
        refine ⟨⟨n + 1, s + x, v', hlt, v2, rfl, e43, e42, e8, rfl, hb5, ?_, ((hmL.then hm3 fun i hi q => q.elim).then hm4 fun i hi q => by have := hbvp _ q; omega).then hm5 fun i hi q => q⟩, ?_⟩
        · have e := owns_mod hown4 hm5 hv'p
          have et : P.arrs.take (n + 1) = P.arrs.take n ++ [x] := by rw [List.take_add_one, hx]; rfl
          rw [et, basesV_snoc 0 s _ x hs]
          have : i64s (basesV 0 (P.arrs.take n) ++ [s]) = i64s (basesV 0 (P.arrs.take n)) ++ [Value.int .i64 s] := by unfold i64s; simp
          rw [this]
          exact e
        · simp only [sq_n, sq_x, sq_r, bk_n, bk_r, bk_x, rt_r, rt_n, rs_0, rs_t, pk_1, pk_2, up_at, reduceIte, Nat.reduceEqDiff, intOf]; omega
      · obtain rfl : n = P.arrs.length := by omega
        rw [decide_eq_false (by omega)]
        refine condF ?_
        rw [List.take_length] at hs hown
        have hst : s = P.total := by rw [hcl.1] at hs; injection hs with hs; exact hs.symm
        rw [sq_x, bk_x, sq_n, vm_New_R3_eq]; unfold vm_New_R3_F
        simp only [sq_n, sq_x, sq_r, bk_n, bk_r, bk_x, rt_r, rt_n, rs_0, rs_t, pk_1, pk_2, up_at, reduceIte, Nat.reduceEqDiff, e8, e9]
        obtain ⟨ns, hns⟩ : ∃ ns : Nat, s = ns := ⟨s.toNat, by omega⟩
        rw [hns]
        refine mk_k (e := 2) (q := .i64) vNs (by kernel_rfl) (by omega) fun w3 hb3 hm3 hz3 => ?_
        rw [NK_ptr, fo (show fieldOff Try.prog tR 6 = some 8 by kernel_rfl)]
        have hszL := hmL.size
        refine stC (o := 8) (by rw [add_pl]) (by kernel_rfl) rfl (hm3.blk hbL id) (by show 8 < 31; omega) fun w5 hb5 hm5 hz5 => ?_
        have hm0p5 : Mod (fun b => b = p) wp w5 := (hmL.then hm3 fun i hi q => q.elim).then hm5 fun i hi q => q
        have hw5 : w5.heap.size = wL.heap.size + 1 := by omega
        refine ⟨.inr (.inr ⟨hmay, by omega, p, { V0 cv av (.slice (some ⟨vb, 0, none⟩) nv nv) with b := bv, l := .slice (some ⟨wL.heap.size, 0, none⟩) ns ns }, rfl, ?_, ?_⟩), (hm0p.then hm0p5 fun i hi q => by omega)⟩
        · have nb : ∀ k, bv.ownBlock = some k → wp.heap.size ≤ k ∧ k < wL.heap.size := fun k q => by
            have := owns_new_ge hown q
            obtain ⟨x, hx⟩ := owns_blk hown q
            exact ⟨this, X.blk_lt hx⟩
          have ev : P.vars.toNat = nv := by omega
          have et : P.total.toNat = ns := by omega
          have n5 : ∀ k, k = wL.heap.size → k ≠ p := fun k q => by omega
          refine ⟨hb5, reads_mod rc.1 hm0p5 fun k _ q => (nc k q).2.2.1, reads_mod ra hm0p5 fun k _ q => (na k q).2.2.1, ⟨rfl, .inl ⟨rfl, rfl⟩⟩, ?_, ?_, ?_, reads_nil _ _, reads_nil _ _, ⟨fun q => (by cases q), fun q => ?_, fun q => ?_, fun b q => (by cases q), fun b q => (by cases q), fun b q z => ?_, fun b q z => ?_⟩, fun b q => ?_⟩
          · show w5.ownsRow 0 tN 1 (.slice (some ⟨vb, 0, none⟩) nv nv) (List.replicate P.vars.toNat (0 : Int)).length (i64s (List.replicate P.vars.toNat 0))
            rw [ev, List.length_replicate]
            exact owns_new (hm0p5.blk hbv npv.symm) (by rw [i64s_len, List.length_replicate]) (by omega)
          · show w5.ownsRow 0 tN 1 (.slice (some ⟨wL.heap.size, 0, none⟩) ns ns) (List.replicate P.total.toNat (0 : Int)).length (i64s (List.replicate P.total.toNat 0))
            rw [et, List.length_replicate]
            rw [nums_zero] at hb3
            exact owns_new (hm5.blk hb3 (n5 _ rfl)) (by rw [i64s_len, List.length_replicate]) (by omega)
          · show reads w5 1 bv (basesV 0 P.arrs).length (i64s (basesV 0 P.arrs))
            rw [basesV_len]
            exact reads_mod (reads_mod (reads_of_owns hown) hm3 fun _ _ _ q => q) hm5 fun k _ q z => by have := nb k q; omega
          · have q : some vb = some p := q
            injection q with q; exact npv q.symm
          · have q : some wL.heap.size = some p := q
            injection q with q; exact n5 _ q.symm rfl
          · have q : some vb = some b := q
            have z : some wL.heap.size = some b := z
            injection q with q; injection z with z; omega
          · have hr : b ≠ p ∧ b ≠ vb ∧ b ≠ wL.heap.size := by
              rcases q with q | q | q | q | q
              · have := nc b q; exact ⟨this.2.2.1, this.2.2.2, by omega⟩
              · have := na b q; exact ⟨this.2.2.1, this.2.2.2, by omega⟩
              · have := nb b q; exact ⟨by omega, by omega, by omega⟩
              · cases q
              · cases q
            rcases z with z | z | z | z
            · exact hr.1 z
            · cases z
            · have z : some vb = some b := z
              injection z with z; exact hr.2.1 z.symm
            · have z : some wL.heap.size = some b := z
              injection z with z; exact hr.2.2 z.symm
          · rcases q with (q | q | q | q) | q | q | q | q | q
            · omega
            · cases q
            · have q : some vb = some b := q
              injection q with q; omega
            · have q : some wL.heap.size = some b := q
              injection q with q; omega
            · have := nc b q; omega
            · have := na b q; omega
            · have := nb b q; omega
            · cases q
            · cases q
        · intro b q
          rcases q with (q | q | q | q) | q | q | q | q | q
          · omega
          · cases q
          · have q : some vb = some b := q
            injection q with q; omega
          · have q : some wL.heap.size = some b := q
            injection q with q; omega
          · have := nc b q; omega
          · have := na b q; omega
          · have := owns_new_ge hown q; omega
          · cases q
          · cases q
    generalize hq : ({ w2 with drawn := w2.drawn + 1 } : World) = wd at *
    have hmd : Mod none_ w2 wd := by rw [← hq]; exact (Mod.refl _ w2).drawn _
    have hm1d := hm2.trans hmd
    have hP : PgOk wd P cs := hP2.mod hmd
    have hz1 : w.heap.size < wd.heap.size := by have := hm1d.size; omega
    have build : ∀ (cv av : Value) (vb : Nat) (w' : World), (Instr.build tR [(0, .agg #[cv, .int .i64 P.vars, av]), (1, .int .i64 rank), (2, .int .i64 size), (5, .slice (some ⟨vb, 0, none⟩) nv nv)].toArray).run Try.prog w' = .ok (.agg (rkC (new0 P rank size) (V0 cv av (.slice (some ⟨vb, 0, none⟩) nv nv))).toArray) w' := fun cv av vb w' => run_build w' tR _ _ (by simpa using built_rk P rank size cv av (some ⟨vb, 0, none⟩) nv nv)
    refine vm_New_R0_held (D := []) (fun w' => Mod none_ w2 w') ((Mod.refl _ w2).drawn _) ?_
    rw [hq]
    unfold vm_New_R0_H
    refine HV_of (v := .agg cs.toArray) (fun w' hw' => run_ldB Try.underlying28 rfl ihP (hw'.blk hb2 id)) ?_
    refine HV_of (v := .pointer (some (Addr.add ⟨w.heap.size, 0, none⟩ 1))) (fun w' hw' => run_fo (by kernel_rfl) _ w') ?_
    refine HV_of (v := .int .i64 (nv : Int)) (fun w' hw' => run_ld1 vI rfl (by rw [add_pl, cell_blk (hw'.blk hb2 id), ecs, ← hnv]; rfl)) ?_
    constructor
    · refine CK_st Try.func15 rfl rfl (copyP_ok hP h1 h2) ?_
      rintro _ w3 ⟨cv, av, rfl, rc, ra, nc, na, oc, oa, m3⟩
      refine ⟨hmd.trans m3, ?_⟩
      refine mk_k (e := 2) (q := .i64) vNs (by kernel_rfl) (by omega) fun w4 hb4 m4 z4 => ⟨(hmd.trans m3).trans m4, ?_⟩
      refine HV_of (fun w' _ => build cv av w3.heap.size w') ?_
      refine box_k (cs := (rkC (new0 P rank size) (V0 cv av (.slice (some ⟨w3.heap.size, 0, none⟩) nv nv))).toArray) rfl fun w5 hb5 m5 z5 => ⟨((hmd.trans m3).trans m4).trans m5, ?_⟩
      have s3 := m3.size
      have m35 := m4.trans m5
      rw [nums_zero] at hb4
      exact rest _ w5 w4.heap.size cv av w3.heap.size rfl rfl hb5 (rc.mod m35) (reads_mod ra m35 fun _ _ _ q => q) (m5.blk hb4 id) (fun k q => by have := nc k q; omega) (fun k q => by have := na k q; omega) (by omega) (by omega) (by omega) ((hm1d.trans m3).trans m35)
    · refine mk_k (e := 2) (q := .i64) vNs (by kernel_rfl) (by omega) fun w3 hb3 m3 z3 => ⟨hmd.trans m3, ?_⟩
      refine CK_st Try.func15 rfl rfl (copyP_ok (hP.mod m3) h1 h2) ?_
      rintro _ w4 ⟨cv, av, rfl, rc, ra, nc, na, oc, oa, m4⟩
      refine ⟨(hmd.trans m3).trans m4, ?_⟩
      refine HV_of (fun w' _ => build cv av wd.heap.size w') ?_
      refine box_k (cs := (rkC (new0 P rank size) (V0 cv av (.slice (some ⟨wd.heap.size, 0, none⟩) nv nv))).toArray) rfl fun w5 hb5 m5 z5 => ⟨((hmd.trans m3).trans m4).trans m5, ?_⟩
      have s4 := m4.size
      rw [nums_zero] at hb3
      exact rest _ w5 w4.heap.size cv av wd.heap.size rfl rfl hb5 (rc.mod m5) (reads_mod ra m5 fun _ _ _ q => q) ((m4.trans m5).blk hb3 id) (fun k q => by have := nc k q; omega) (fun k q => by have := na k q; omega) (by omega) (by omega) (by omega) ((hm1d.trans m3).trans (m4.trans m5))
end Go.Proofs.Ytmbgbffgkdcieaa.Tr
set_option linter.unusedVariables false
set_option linter.unusedSimpArgs false
set_option maxRecDepth 4000
namespace Go.Proofs.Ytmbgbffgkdcieaa.Tr
open Go Go.X Go.RowKit Go.Proofs.Ytmbgbffgkdcieaa.XF Go.Proofs.Ytmbgbffgkdcieaa.XK
theorem stO {P : Program} {w : World} {K : Value → World → Prop} {t ty : TypeId} {b o : Nat} {old : Array Value} {cs : List Value} (hi : (P.info? t).map (·.size) = some cs.length) (hfit : o + cs.length ≤ old.size) (h1 : ∀ v ∈ cs, v.oneCell' = true) (hb : w.heap[b]? = some (.cells old ty (0, 0)))
    (hk : ∀ w', w'.heap[b]? = some (.cells (old.toList.take o ++ cs ++ old.toList.drop (o + cs.length)).toArray ty (0, 0)) → Mod (fun k => k = b) w w' → w'.heap.size = w.heap.size → K undef w') : UK P (Instr.storeAt t (.pointer (some ⟨b, o, none⟩)) (.agg cs.toArray)) w K := by
  have hst := run_storeCells_at P b o ty cs 0 old w hb (by simpa using hfit) h1
  have hrun : (Instr.storeAt t (.pointer (some ⟨b, o, none⟩)) (.agg cs.toArray)).run P w = .ok () (w.setRow b (old.toList.take o ++ cs ++ old.toList.drop (o + cs.length)).toArray) := by
    cases hq : P.info? t with
    | none => rw [hq] at hi; cases hi
    | some i =>
      rw [hq] at hi
      have hs : i.size = cs.length := by injection hi
      simp only [Nat.add_zero] at hst
      simp [Instr.storeAt, Instr.sureAddr, storeVar, sizeOf, typeInfo, hq, hs, Value.cells, hst]
  refine UK_of hrun (hk _ (setRow_heap w b old _ ty _ hb) ⟨rfl, rfl, rfl, Nat.le_of_eq (size_setRow w b _).symm, fun k _ hkb => setRow_other w b k _ hkb⟩ (size_setRow w b _))
theorem uRp : Try.prog.underlying 31 = some (.pointer tR) := by kernel_rfl
section
variable {w : World} {p : Nat} {s : Rk} {V : RkV}
theorem f_c (h : RkAt w p s V) : FO Try.prog w 28 0 0 ⟨p, 0, none⟩ 25 V.c := FO.blk h.blk (by kernel_rfl) vCs rfl rfl
theorem f_at (h : RkAt w p s V) : FO Try.prog w tR 3 5 ⟨p, 0, none⟩ 3 (.int .i64 s.at_) := FO.blk h.blk (by kernel_rfl) vI rfl rfl
theorem f_st (h : RkAt w p s V) : FO Try.prog w tR 4 6 ⟨p, 0, none⟩ 22 V.s := FO.blk h.blk (by kernel_rfl) vNs rfl rfl
theorem f_vs (h : RkAt w p s V) : FO Try.prog w tR 5 7 ⟨p, 0, none⟩ 22 V.v := FO.blk h.blk (by kernel_rfl) vNs rfl rfl
theorem code_row (h : RkAt w p s V) : InsRow w V.c s.pg.code := ⟨h.code, trivial⟩
theorem none_ok (h : RkAt w p s V) (hl : 0 < s.pg.code.length) : Rt Try.prog 16 #[.pointer (some ⟨p, 0, none⟩)] w fun v w' => v = .bool false ∧ w' = w := by
  obtain ⟨A, c, e, _⟩ := reads_cap h.code
  refine vm_Rank_none_calls ?_
  unfold vm_Rank_none_F
  rw [BK_eqlP uRp]
  simp only [Option.isNone_some, ↓VG_u, ↓UG_u, ↓MG_u, ↓NG_u, ↓PG_u, ↓BG_u, ↓CG_u, ↓IG_u, ↓VGtt, ↓VGtf, ↓VGft, ↓VGff, ↓UGtt, ↓UGtf, ↓UGft, ↓UGff, ↓MGtt, ↓MGtf, ↓MGft, ↓MGff, ↓NGtt, ↓NGtf, ↓NGft, ↓NGff, ↓PGtt, ↓PGtf, ↓PGft, ↓PGff, ↓BGtt, ↓BGtf, ↓BGft, ↓BGff, ↓CGtt, ↓CGtf, ↓CGft, ↓CGff, ↓IGtt, ↓IGtf, ↓IGft, ↓IGff, ↓PKt, ↓PKf, ↓CDt, ↓CDf, ↓NOTt, ↓NOTf, ↓NK_ptr]
  rw [fo (show fieldOff Try.prog tR 0 = some 0 by kernel_rfl)]
  have ea : (⟨p, 0, none⟩ : Addr).add 0 = ⟨p, 0, none⟩ := by rw [add_pl]
  simp only [↓VG_u, ↓UG_u, ↓MG_u, ↓NG_u, ↓PG_u, ↓BG_u, ↓CG_u, ↓IG_u, ↓VGtt, ↓VGtf, ↓VGft, ↓VGff, ↓UGtt, ↓UGtf, ↓UGft, ↓UGff, ↓MGtt, ↓MGtf, ↓MGft, ↓MGff, ↓NGtt, ↓NGtf, ↓NGft, ↓NGff, ↓PGtt, ↓PGtf, ↓PGft, ↓PGff, ↓BGtt, ↓BGtf, ↓BGft, ↓BGff, ↓CGtt, ↓CGtf, ↓CGft, ↓CGff, ↓IGtt, ↓IGtf, ↓IGft, ↓IGff, ↓PKt, ↓PKf, ↓CDt, ↓CDf, ↓NOTt, ↓NOTf, ↓NK_ptr, ea]
  rw [(f_c h).e, e]
  try simp only [↓VG_u, ↓UG_u, ↓MG_u, ↓NG_u, ↓PG_u, ↓BG_u, ↓CG_u, ↓IG_u, ↓VGtt, ↓VGtf, ↓VGft, ↓VGff, ↓UGtt, ↓UGtf, ↓UGft, ↓UGff, ↓MGtt, ↓MGtf, ↓MGft, ↓MGff, ↓NGtt, ↓NGtf, ↓NGft, ↓NGff, ↓PGtt, ↓PGtf, ↓PGft, ↓PGff, ↓BGtt, ↓BGtf, ↓BGft, ↓BGff, ↓CGtt, ↓CGtf, ↓CGft, ↓CGff, ↓IGtt, ↓IGtf, ↓IGft, ↓IGff, ↓PKt, ↓PKf, ↓CDt, ↓CDf, ↓NOTt, ↓NOTf, ↓NK_ptr]
  rw [len_sl vCs]
  simp only [↓VG_u, ↓UG_u, ↓MG_u, ↓NG_u, ↓PG_u, ↓BG_u, ↓CG_u, ↓IG_u, ↓VGtt, ↓VGtf, ↓VGft, ↓VGff, ↓UGtt, ↓UGtf, ↓UGft, ↓UGff, ↓MGtt, ↓MGtf, ↓MGft, ↓MGff, ↓NGtt, ↓NGtf, ↓NGft, ↓NGff, ↓PGtt, ↓PGtf, ↓PGft, ↓PGff, ↓BGtt, ↓BGtf, ↓BGft, ↓BGff, ↓CGtt, ↓CGtf, ↓CGft, ↓CGff, ↓IGtt, ↓IGtf, ↓IGft, ↓IGff, ↓PKt, ↓PKf, ↓CDt, ↓CDf, ↓NOTt, ↓NOTf, ↓NK_ptr, ↓BK_eql]
  refine ⟨?_, by trivial⟩
  rw [beq_eq_false_iff_ne.2 (by omega)]
theorem push_ok (h : RkAt w p s V) (hl : s.stack.length ≤ 1000) (n : Int) : Rt Try.prog 24 #[.pointer (some ⟨p, 0, none⟩), .int .i64 n] w fun _ w' => ∃ V', RkAt w' p (s.push n) V' ∧ Fr p w V w' V' := by
  refine vm_Rank_push_calls ?_
  unfold vm_Rank_push_F
  rw [NK_ptr, (f_st h).e]
  refine bs_k (cs := #[.int .i64 n]) (by kernel_rfl) fun w1 hb1 hm1 hz1 => ?_
  have h1 := h.calm hm1
  refine ap_any eNs h1.stack (reads_blk (size := 1) (n := 1) hb1 rfl) (by intro u hu; rw [List.mem_singleton.1 hu]; rfl) (by unfold maxLen; omega) (by omega) (Nat.zero_le _) fun v' w2 ho hm2 hv => ?_
  rw [NK_ptr, fo (show fieldOff Try.prog tR 4 = some 6 by kernel_rfl)]
  have hb2 := hm2.blk h1.blk (fun q => h.dj.sp q.symm)
  refine stC (o := 6) (by rw [add_pl]) (by kernel_rfl) (owns_oc ho) hb2 (by show 6 < 31; omega) fun w3 hb3 hm3 hz3 => ?_
  have e1 : i64s s.stack ++ [Value.int .i64 n] = i64s (s.push n).stack := by unfold Rk.push i64s; simp
  have e2 : s.stack.length + 1 = (s.push n).stack.length := by unfold Rk.push; simp
  rw [show (#[Value.int .i64 n].toList) = [Value.int .i64 n] from rfl, e1, e2] at ho
  have hmm : Mod (sb V.s) w w2 := (hm1.mono fun _ _ q => q.elim).trans (hm2.mono fun k _ q => q.symm)
  obtain ⟨r1, r2⟩ := RkAt.stk (s' := s.push n) (v' := v') h hmm ho (hv.imp id fun q k z => by rw [q] at z; injection z with z; omega) hm3 hb3 rfl rfl rfl rfl rfl rfl
  exact ⟨_, r1, r2⟩
theorem owns_pop {w : World} {e : TypeId} {v : Value} {n : Nat} {xs : List Value} (h : w.ownsRow 0 e 1 v (n + 1) xs) : ∃ g cap, v = .slice (some ⟨g, 0, none⟩) (n + 1) cap ∧ n + 1 ≤ cap ∧ w.ownsRow 0 e 1 (.slice (some ⟨g, 0, none⟩) n cap) n (xs.take n) := by
  obtain ⟨hl, q | ⟨g, cap, cur, rfl, hb, hg, hn, hm, hs, ht⟩⟩ := h
  · omega
  · refine ⟨g, cap, rfl, hn, by rw [List.length_take]; omega, .inr ⟨g, cap, cur, rfl, hb, hg, by omega, hm, hs, ?_⟩⟩
    rw [← ht, List.take_take]
    congr 1
    omega
theorem pop_ok (h : RkAt w p s V) (h0 : 0 < s.stack.length) (hl : s.stack.length ≤ 1000) : Rt Try.prog 25 #[.pointer (some ⟨p, 0, none⟩)] w fun v w' => v = .int .i64 s.top ∧ ∃ sl, RkAt w' p s.drop1 { V with s := sl } ∧ Fr p w V w' { V with s := sl } := by
  obtain ⟨n, hn⟩ : ∃ n, s.stack.length = n + 1 := ⟨s.stack.length - 1, by omega⟩
  have hst := h.stack
  rw [hn] at hst
  obtain ⟨g, cap, eV, hcap, hpop⟩ := owns_pop hst
  refine vm_Rank_pop_calls ?_
  unfold vm_Rank_pop_F
  rw [NK_ptr, (f_st h).e, eV, len_sl vNs, BK_sub, show IntKind.i64.wrap (((n + 1 : Nat) : Int) - 1) = (n : Int) by rw [wrap_i (by omega) (by omega)]; omega]
  rw [NK_ptr, (f_st h).e, eV]
  have htop : s.stack[n]? = some s.top := by
    unfold Rk.top
    rw [List.getLast?_eq_getElem?, hn, Nat.add_sub_cancel, List.getElem?_eq_getElem (by omega)]
    rfl
  have hr := reads_of_owns hst
  rw [eV] at hr
  refine ixld vNs cN vN rfl hr (by omega) (by simpa using i64s_get htop) fun y => ?_
  rw [NK_ptr, (f_st h).e, eV]
  refine VK_of (run_cut (sz := 0) vNs cN (by omega) (by omega) (by omega) w) ?_
  rw [NK_ptr, fo (show fieldOff Try.prog tR 4 = some 6 by kernel_rfl)]
  have esl : sliced (some ⟨g, 0, none⟩) 0 ((n : Int)).toNat cap (0 + 1) = .slice (some ⟨g, 0, none⟩) n cap := by
    unfold sliced
    rw [Int.toNat_natCast, if_neg (by omega)]
    simp [add_pl]
  rw [esl]
  refine stC (o := 6) (by rw [add_pl]) (by kernel_rfl) rfl h.blk (by show 6 < 31; omega) fun w3 hb3 hm3 hz3 => ?_
  have e1 : (i64s s.stack).take n = i64s s.drop1.stack := by unfold Rk.drop1 i64s; rw [← List.map_take, List.dropLast_eq_take, hn]; rfl
  have e2 : n = s.drop1.stack.length := by unfold Rk.drop1; rw [List.length_dropLast]; omega
  rw [e1] at hpop
  obtain ⟨r1, r2⟩ := RkAt.stk (s' := s.drop1) (v' := .slice (some ⟨g, 0, none⟩) n cap) h (Mod.refl _ _) (by rw [← e2]; exact hpop) (.inl (by rw [eV]; rfl)) hm3 hb3 rfl rfl rfl rfl rfl rfl
  rw [vm_Rank_pop_R0_eq]; unfold vm_Rank_pop_R0_F
  exact ⟨rfl, _, r1, r2⟩
theorem outC_one (kind fault : Int) (c : Cl) (A : Option Addr) (n m : Nat) : ∀ v ∈ [Value.int .u8 kind] ++ clC c (.slice A n m) ++ [Value.int .u8 fault], v.oneCell' = true := by
  simp [clC, Value.oneCell']
theorem built_out (kind fault : Int) : Try.prog.built 38 [(0, .int .u8 kind), (2, .int .u8 fault)] = some ([Value.int .u8 kind] ++ clC zCl (.slice none 0 0) ++ [Value.int .u8 fault]).toArray := by kernel_rfl
theorem ends_ok (h : RkAt w p s V) (kind fault : Int) : Rt Try.prog 27 #[.pointer (some ⟨p, 0, none⟩), .int .u8 kind, .int .u8 fault] w fun _ w' => ∃ V', RkAt w' p (s.ends kind fault) V' ∧ Fr p w V w' V' := by
  refine vm_Rank_ends_calls ?_
  unfold vm_Rank_ends_F
  rw [build_ok (built_out kind fault), NK_ptr, fo (show fieldOff Try.prog tR 9 = some 18 by kernel_rfl), add_pl]
  refine stO (o := 18) (by kernel_rfl) (by show 18 + 13 ≤ 31; omega) (outC_one kind fault zCl none 0 0) h.blk fun w3 hb3 hm3 hz3 => ?_
  obtain ⟨r1, r2⟩ := RkAt.out (s' := s.ends kind fault) (r' := V.r) (q' := .slice none 0 0) h (Mod.refl _ _) h.row (reads_nil _ _) (fun k q => .inl q) (fun k q => by cases q) hm3 hb3 rfl rfl rfl rfl rfl
  exact ⟨_, r1, r2⟩
end
end Go.Proofs.Ytmbgbffgkdcieaa.Tr
set_option linter.unusedVariables false
set_option linter.unusedSimpArgs false
set_option maxRecDepth 4000
namespace Go.Proofs.Ytmbgbffgkdcieaa.Tr
open Go Go.X Go.RowKit Go.Proofs.Ytmbgbffgkdcieaa.XF Go.Proofs.Ytmbgbffgkdcieaa.XK
theorem hagg_of {P : Program} {t : TypeId} {d : TypeDesc} (hu : P.underlying t = some d) (hd : (match d with | .struct _ | .array _ _ => true | _ => false) = false) (w : World) : (isAgg t).run P w = .ok false w := by
  unfold isAgg
  simp only [Sem.run_bind, run_underlying hu, Result.andThen_ok]
  cases d <;> first | rfl | cases hd
theorem run_idx {P : Program} {t e : TypeId} {n : Nat} {cs : Array Value} {k : IntKind} {i : Int} {v : Value} {d : TypeDesc} (hu : P.underlying t = some (.array n e)) (he : P.underlying e = some d) (hd : (match d with | .struct _ | .array _ _ => true | _ => false) = false) (hs : (P.info? e).map (·.size) = some 1) (h0 : 0 ≤ i) (h1 : i < n) (hv : cs[i.toNat]? = some v) (w : World) :
    (Instr.index t (.agg cs) (.int k i)).run P w = .ok v w := by
  cases hq : P.info? e with
  | none => rw [hq] at hs; cases hs
  | some x =>
    rw [hq] at hs
    have hs : x.size = 1 := by injection hs
    have hagg := hagg_of (P := P) he hd w
    simp [Instr.index, run_underlying hu, asIntOf, h0, h1, sizeOf, typeInfo, hq, hs, part, hagg, hv]
section
variable {w : World} {p : Nat} {s : Rk} {V : RkV}
theorem f_as (h : RkAt w p s V) : FO Try.prog w 28 2 2 ⟨p, 0, none⟩ 26 V.a := FO.blk h.blk (by kernel_rfl) vIs rfl rfl
def CellP (w : World) (s : Rk) (V : RkV) (a place : Int) (v : Value) (w' : World) : Prop :=
  (match s.cellAt a place with
    | none => v = .pointer none
    | some c => c < s.cells.length ∧ ∃ g cap, V.l = .slice (some ⟨g, 0, none⟩) s.cells.length cap ∧ v = .pointer (some ⟨g, c, none⟩)) ∧ Mod none_ w w'
theorem cell_ok (h : RkAt w p s V) (hI : s.Wk) {a place : Int} (h0 : 0 ≤ a) (h1 : a < s.pg.arrs.length) : Rt Try.prog 26 #[.pointer (some ⟨p, 0, none⟩), .int .i64 a, .int .i64 place] w (CellP w s V a place) := by
  obtain ⟨an, rfl⟩ : ∃ n : Nat, a = n := ⟨a.toNat, by omega⟩
  have han : an < s.pg.arrs.length := by omega
  obtain ⟨x, hx⟩ : ∃ x, s.pg.arrs[an]? = some x := ⟨_, List.getElem?_eq_getElem han⟩
  have hxd : s.pg.arrs.getD an 0 = x := by rw [List.getD_eq_getElem?_getD, hx]; rfl
  have hb := hI.base an han
  rw [hxd] at hb
  refine vm_Rank_cell_calls ?_
  unfold vm_Rank_cell_F
  rw [BK_lss]
  have ea : (⟨p, 0, none⟩ : Addr).add 0 = ⟨p, 0, none⟩ := by rw [add_pl]
  by_cases c1 : place < 0
  · simp only [c1, decide_true, ↓VG_u, ↓UG_u, ↓MG_u, ↓NG_u, ↓PG_u, ↓BG_u, ↓CG_u, ↓IG_u, ↓VGtt, ↓VGtf, ↓VGft, ↓VGff, ↓UGtt, ↓UGtf, ↓UGft, ↓UGff, ↓MGtt, ↓MGtf, ↓MGft, ↓MGff, ↓NGtt, ↓NGtf, ↓NGft, ↓NGff, ↓PGtt, ↓PGtf, ↓PGft, ↓PGff, ↓BGtt, ↓BGtf, ↓BGft, ↓BGff, ↓CGtt, ↓CGtf, ↓CGft, ↓CGff, ↓IGtt, ↓IGtf, ↓IGft, ↓IGff, ↓PKt, ↓PKf, ↓CDt, ↓CDf, ↓NOTt, ↓NOTf, ↓NK_ptr]
    refine ⟨?_, Mod.refl _ _⟩
    have : s.cellAt an place = none := by unfold Rk.cellAt; rw [if_pos (.inl c1)]
    rw [this]
  simp only [c1, decide_false, ↓VG_u, ↓UG_u, ↓MG_u, ↓NG_u, ↓PG_u, ↓BG_u, ↓CG_u, ↓IG_u, ↓VGtt, ↓VGtf, ↓VGft, ↓VGff, ↓UGtt, ↓UGtf, ↓UGft, ↓UGff, ↓MGtt, ↓MGtf, ↓MGft, ↓MGff, ↓NGtt, ↓NGtf, ↓NGft, ↓NGff, ↓PGtt, ↓PGtf, ↓PGft, ↓PGff, ↓BGtt, ↓BGtf, ↓BGft, ↓BGff, ↓CGtt, ↓CGtf, ↓CGft, ↓CGff, ↓IGtt, ↓IGtf, ↓IGft, ↓IGff, ↓PKt, ↓PKf, ↓CDt, ↓CDf, ↓NOTt, ↓NOTf, ↓NK_ptr]
  rw [fo (show fieldOff Try.prog tR 0 = some 0 by kernel_rfl), ea]
  try simp only [↓VG_u, ↓UG_u, ↓MG_u, ↓NG_u, ↓PG_u, ↓BG_u, ↓CG_u, ↓IG_u, ↓VGtt, ↓VGtf, ↓VGft, ↓VGff, ↓UGtt, ↓UGtf, ↓UGft, ↓UGff, ↓MGtt, ↓MGtf, ↓MGft, ↓MGff, ↓NGtt, ↓NGtf, ↓NGft, ↓NGff, ↓PGtt, ↓PGtf, ↓PGft, ↓PGff, ↓BGtt, ↓BGtf, ↓BGft, ↓BGff, ↓CGtt, ↓CGtf, ↓CGft, ↓CGff, ↓IGtt, ↓IGtf, ↓IGft, ↓IGff, ↓PKt, ↓PKf, ↓CDt, ↓CDf, ↓NOTt, ↓NOTf, ↓NK_ptr]
  rw [(f_as h).e]
  try simp only [↓VG_u, ↓UG_u, ↓MG_u, ↓NG_u, ↓PG_u, ↓BG_u, ↓CG_u, ↓IG_u, ↓VGtt, ↓VGtf, ↓VGft, ↓VGff, ↓UGtt, ↓UGtf, ↓UGft, ↓UGff, ↓MGtt, ↓MGtf, ↓MGft, ↓MGff, ↓NGtt, ↓NGtf, ↓NGft, ↓NGff, ↓PGtt, ↓PGtf, ↓PGft, ↓PGff, ↓BGtt, ↓BGtf, ↓BGft, ↓BGff, ↓CGtt, ↓CGtf, ↓CGft, ↓CGff, ↓IGtt, ↓IGtf, ↓IGft, ↓IGff, ↓PKt, ↓PKf, ↓CDt, ↓CDf, ↓NOTt, ↓NOTf, ↓NK_ptr]
  refine ixld vIs cI vI rfl h.arrs (by omega) (by simpa using i64s_get hx) fun y => ?_
  simp only [↓VG_u, ↓UG_u, ↓MG_u, ↓NG_u, ↓PG_u, ↓BG_u, ↓CG_u, ↓IG_u, ↓VGtt, ↓VGtf, ↓VGft, ↓VGff, ↓UGtt, ↓UGtf, ↓UGft, ↓UGff, ↓MGtt, ↓MGtf, ↓MGft, ↓MGff, ↓NGtt, ↓NGtf, ↓NGft, ↓NGff, ↓PGtt, ↓PGtf, ↓PGft, ↓PGff, ↓BGtt, ↓BGtf, ↓BGft, ↓BGff, ↓CGtt, ↓CGtf, ↓CGft, ↓CGff, ↓IGtt, ↓IGtf, ↓IGft, ↓IGff, ↓PKt, ↓PKf, ↓CDt, ↓CDf, ↓NOTt, ↓NOTf, ↓NK_ptr, ↓BK_geq]
  by_cases c2 : x ≤ place
  · simp only [c2, decide_true, ↓VG_u, ↓UG_u, ↓MG_u, ↓NG_u, ↓PG_u, ↓BG_u, ↓CG_u, ↓IG_u, ↓VGtt, ↓VGtf, ↓VGft, ↓VGff, ↓UGtt, ↓UGtf, ↓UGft, ↓UGff, ↓MGtt, ↓MGtf, ↓MGft, ↓MGff, ↓NGtt, ↓NGtf, ↓NGft, ↓NGff, ↓PGtt, ↓PGtf, ↓PGft, ↓PGff, ↓BGtt, ↓BGtf, ↓BGft, ↓BGff, ↓CGtt, ↓CGtf, ↓CGft, ↓CGff, ↓IGtt, ↓IGtf, ↓IGft, ↓IGff, ↓PKt, ↓PKf, ↓CDt, ↓CDf, ↓NOTt, ↓NOTf, ↓NK_ptr]
    refine ⟨?_, Mod.refl _ _⟩
    have : s.cellAt an place = none := by unfold Rk.cellAt; rw [if_pos (.inr (by rw [Int.toNat_natCast, hxd]; exact c2))]
    rw [this]
  simp only [c2, decide_false, ↓VG_u, ↓UG_u, ↓MG_u, ↓NG_u, ↓PG_u, ↓BG_u, ↓CG_u, ↓IG_u, ↓VGtt, ↓VGtf, ↓VGft, ↓VGff, ↓UGtt, ↓UGtf, ↓UGft, ↓UGff, ↓MGtt, ↓MGtf, ↓MGft, ↓MGff, ↓NGtt, ↓NGtf, ↓NGft, ↓NGff, ↓PGtt, ↓PGtf, ↓PGft, ↓PGff, ↓BGtt, ↓BGtf, ↓BGft, ↓BGff, ↓CGtt, ↓CGtf, ↓CGft, ↓CGff, ↓IGtt, ↓IGtf, ↓IGft, ↓IGff, ↓PKt, ↓PKf, ↓CDt, ↓CDf, ↓NOTt, ↓NOTf, ↓NK_ptr]
  have hb2 : 0 ≤ s.bases.getD an 0 ∧ s.bases.getD an 0 + place < s.cells.length := by omega
  have hcell : s.cellAt an place = some (s.bases.getD an 0 + place).toNat := by
    unfold Rk.cellAt
    rw [if_neg (by rw [Int.toNat_natCast, hxd]; omega), Int.toNat_natCast]
  have hbn : an < s.bases.length := by rw [hI.bases]; exact han
  have hbx : s.bases[an]? = some (s.bases.getD an 0) := by rw [List.getD_eq_getElem?_getD, List.getElem?_eq_getElem hbn]; rfl
  have hcs := hI.cells
  obtain ⟨g, cap, eV, cur, hcur⟩ : ∃ g cap, V.l = .slice (some ⟨g, 0, none⟩) s.cells.length cap ∧ ∃ cur, w.heap[g]? = some (.cells cur tN (0, 0)) := by
    rcases h.cells.2 with ⟨_, q⟩ | ⟨g, cap, cur, e, _, hg, _⟩
    · omega
    · exact ⟨g, cap, e, cur, hg⟩
  refine vm_Rank_cell_R0_quiet (D := []) (fun w' => Mod none_ w w') ((Mod.refl _ w).drawn _) ?_
  unfold vm_Rank_cell_R0_Q
  simp only [sq_n, sq_x, sq_r, bk_n, bk_r, bk_x, rt_r, rt_n, rs_0, rs_t, pk_1, pk_2, up_at, reduceIte, Nat.reduceEqDiff]
  have e0 : ∀ {i : Nat} {l : List Value}, rho0 l i = l.getD i undef := rfl
  simp only [e0, List.getD_cons_zero, List.getD_cons_succ]
  refine QN_ptr ?_
  refine Qfo (off := 8) (a := ⟨p, 0, none⟩) (by kernel_rfl) (Qld vNs rfl (v := V.l) (fun w' hw => by rw [add_pl, cell_blk (h.calm hw).blk]; rfl) ?_)
  refine QN_ptr ?_
  refine Qfo (off := 9) (a := ⟨p, 0, none⟩) (by kernel_rfl) (Qld vIs rfl (v := V.b) (fun w' hw => by rw [add_pl, cell_blk (h.calm hw).blk]; rfl) ?_)
  refine q_ixld vIs cI vI rfl (w := w) (Mod.refl _ _) (fun w' hw => (h.calm hw).bases) (by omega) (u := .int .i64 (s.bases.getD an 0)) (by rw [Int.toNat_natCast]; exact i64s_get hbx) fun y2 => ?_
  refine Qadd ?_
  rw [wrap_i (n := s.bases.getD an 0 + place) (by omega) (by omega), eV]
  refine QV_of (fun w' _ => run_ixa vNs cN (by omega) (by omega) w') ?_
  intro w2 hm2
  rw [vm_Rank_cell_R1_eq]; unfold vm_Rank_cell_R1_F
  refine ⟨?_, hm2⟩
  rw [hcell]
  refine ⟨by omega, g, cap, eV, ?_⟩
  show Value.pointer (some (Addr.add ⟨g, 0, none⟩ ((s.bases.getD an 0 + place).toNat * (0 + 1)))) = _
  rw [add_pl]
  simp
theorem word_ok (h : RkAt w p s V) {n : Int} (h0 : 0 ≤ n) (h1 : n < 10) : Rt Try.prog 28 #[.pointer (some ⟨p, 0, none⟩), .int .i64 n] w fun v w' => v = .int .i64 (wordV n s.rank s.size s.last) ∧ Mod none_ w w' := by
  refine vm_Rank_word_calls ?_
  unfold vm_Rank_word_F
  rw [NK_ptr, fo (show fieldOff Try.prog tR 8 = some 10 by kernel_rfl), add_pl]
  refine ldA (cs := rsC s.last V.r) Try.underlying54 rfl (by kernel_rfl) (fun j v hj => ?_) ?_
  · rw [add_pl, cell_blk h.blk, List.getElem?_toArray]
    have hlt : j < 8 := (List.getElem?_eq_some_iff.1 hj).1
    rcases j with _ | _ | _ | _ | _ | _ | _ | _ | j
    all_goals first | exact hj | omega
  refine al_k (cs := (rsC zRs (.slice none 0 0)).toArray) (z := .agg (rsC zRs (.slice none 0 0)).toArray) (by kernel_rfl) rfl _ fun w1 hb1 hm1 hz1 => ?_
  obtain ⟨A, c, eR, _⟩ := reads_cap h.row
  refine stS (cs := (rsC s.last V.r).toArray) (old := (rsC zRs (.slice none 0 0)).toArray) rfl rfl (by kernel_rfl) rfl (by rw [eR]; simp [rsC, Value.oneCell']) hb1 fun w2 hb2 hm2 hz2 => ?_
  have hm02 : Mod none_ w w2 := hm1.then hm2 fun i hi q => by omega
  have h2 := h.calm hm02
  refine vm_Rank_word_R0_quiet (D := []) (fun w' => Mod none_ w2 w') ((Mod.refl _ w2).drawn _) ?_
  unfold vm_Rank_word_R0_Q
  simp only [sq_n, sq_x, sq_r, bk_n, bk_r, bk_x, rt_r, rt_n, rs_0, rs_t, pk_1, pk_2, up_at, reduceIte, Nat.reduceEqDiff]
  have e0 : ∀ {i : Nat} {l : List Value}, rho0 l i = l.getD i undef := rfl
  simp only [e0, List.getD_cons_zero, List.getD_cons_succ]
  have hx : ∀ w', Mod none_ w2 w' → w'.heap[w.heap.size]? = some (.cells (rsC s.last V.r).toArray 54 (0, 0)) := fun w' hw => hw.blk hb2 id
  refine QN_ptr ?_
  refine Qfo (off := 3) (a := ⟨p, 0, none⟩) (by kernel_rfl) (Qld vI rfl (v := .int .i64 s.rank) (fun w' hw => by rw [add_pl, cell_blk (h2.calm hw).blk]; rfl) ?_)
  refine QN_ptr ?_
  refine Qfo (off := 4) (a := ⟨p, 0, none⟩) (by kernel_rfl) (Qld vI rfl (v := .int .i64 s.size) (fun w' hw => by rw [add_pl, cell_blk (h2.calm hw).blk]; rfl) ?_)
  refine Qfo (off := 1) (a := ⟨w.heap.size, 0, none⟩) (by kernel_rfl) (Qld vN rfl (v := .int .i64 s.last.value) (fun w' hw => by rw [add_pl, cell_blk (hx w' hw)]; rfl) ?_)
  refine Qfo (off := 2) (a := ⟨w.heap.size, 0, none⟩) (by kernel_rfl) (Qld vI rfl (v := .int .i64 s.last.peer) (fun w' hw => by rw [add_pl, cell_blk (hx w' hw)]; rfl) ?_)
  refine Qfo (off := 3) (a := ⟨w.heap.size, 0, none⟩) (by kernel_rfl) (Qld vI rfl (v := .int .i64 s.last.tag) (fun w' hw => by rw [add_pl, cell_blk (hx w' hw)]; rfl) ?_)
  refine Qfo (off := 0) (a := ⟨w.heap.size, 0, none⟩) (by kernel_rfl) (Qld vB rfl (v := .bool s.last.flag) (fun w' hw => by rw [add_pl, cell_blk (hx w' hw)]; rfl) ?_)
  refine QC_rt (R := fun w' v w'' => v = .int .i64 (truV s.last.flag) ∧ w'' = w') Try.func29 rfl rfl (v := .int .i64 (truV s.last.flag)) (fun w' _ => truth_ok _ w') (fun w' u w'' hw hu => ⟨hu.1, by rw [hu.2]; exact hw⟩) ?_
  refine Qfo (off := 5) (a := ⟨w.heap.size, 0, none⟩) (by kernel_rfl) (Qld vI rfl (v := .int .i64 s.last.index) (fun w' hw => by rw [add_pl, cell_blk (hx w' hw)]; rfl) ?_)
  refine Qfo (off := 4) (a := ⟨w.heap.size, 0, none⟩) (by kernel_rfl) (Qld vI rfl (v := .int .i64 s.last.req) (fun w' hw => by rw [add_pl, cell_blk (hx w' hw)]; rfl) ?_)
  refine Qfo (off := 6) (a := ⟨w.heap.size, 0, none⟩) (by kernel_rfl) (Qld vI rfl (v := .int .i64 s.last.comm) (fun w' hw => by rw [add_pl, cell_blk (hx w' hw)]; rfl) ?_)
  refine QV_of (v := .agg (i64s [s.rank, s.size, -1, s.last.value, s.last.peer, s.last.tag, truV s.last.flag, s.last.index, s.last.req, s.last.comm]).toArray) (fun w' _ => run_build w' _ _ _ (by kernel_rfl)) ?_
  obtain ⟨x, hx10⟩ : ∃ x, ([s.rank, s.size, -1, s.last.value, s.last.peer, s.last.tag, truV s.last.flag, s.last.index, s.last.req, s.last.comm] : List Int)[n.toNat]? = some x := ⟨_, List.getElem?_eq_getElem (by show n.toNat < 10; omega)⟩
  refine QV_of (v := .int .i64 x) (fun w' _ => run_idx (n := 10) (e := 2) (by kernel_rfl) vN rfl (by kernel_rfl) h0 h1 (by rw [List.getElem?_toArray]; exact i64s_get hx10) w') ?_
  intro w3 hm3
  rw [vm_Rank_word_R1_eq]; unfold vm_Rank_word_R1_F
  refine ⟨?_, hm02.trans hm3⟩
  unfold wordV
  rw [List.getD_eq_getElem?_getD, hx10]
  rfl
end
end Go.Proofs.Ytmbgbffgkdcieaa.Tr
set_option linter.unusedVariables false
set_option linter.unusedSimpArgs false
set_option maxRecDepth 4000
namespace Go.Proofs.Ytmbgbffgkdcieaa.Tr
open Go Go.X Go.RowKit Go.Proofs.Ytmbgbffgkdcieaa.XF Go.Proofs.Ytmbgbffgkdcieaa.XK
abbrev TwR (op a b : Int) (w : World) : Value → World → Prop := fun v w' => v = .int .i64 (twoV op a b) ∧ w' = w
theorem two1_ok (a b : Int) (w : World) : Rt Try.prog 37 #[.int .i64 a, .int .i64 b] w (TwR 10 a b w) := by
  refine vm_two_1_calls ?_
  unfold vm_two_1_F
  rw [BK_mul]
  exact ⟨by simp [twoV], by trivial⟩
theorem two2_ok (a b : Int) (hb : b ≠ 0) (w : World) : Rt Try.prog 38 #[.int .i64 a, .int .i64 b] w (TwR 11 a b w) := by
  refine vm_two_2_calls ?_
  unfold vm_two_2_F
  by_cases c1 : a = -9223372036854775808
  · simp only [↓VG_u, ↓UG_u, ↓MG_u, ↓NG_u, ↓PG_u, ↓BG_u, ↓CG_u, ↓IG_u, ↓VGtt, ↓VGtf, ↓VGft, ↓VGff, ↓UGtt, ↓UGtf, ↓UGft, ↓UGff, ↓MGtt, ↓MGtf, ↓MGft, ↓MGff, ↓NGtt, ↓NGtf, ↓NGft, ↓NGff, ↓PGtt, ↓PGtf, ↓PGft, ↓PGff, ↓BGtt, ↓BGtf, ↓BGft, ↓BGff, ↓CGtt, ↓CGtf, ↓CGft, ↓CGff, ↓IGtt, ↓IGtf, ↓IGft, ↓IGff, ↓PKt, ↓PKf, ↓CDt, ↓CDf, ↓NOTt, ↓NOTf, ↓NK_ptr, ↓EQt c1]
    by_cases c2 : b = -1
    · simp only [↓VG_u, ↓UG_u, ↓MG_u, ↓NG_u, ↓PG_u, ↓BG_u, ↓CG_u, ↓IG_u, ↓VGtt, ↓VGtf, ↓VGft, ↓VGff, ↓UGtt, ↓UGtf, ↓UGft, ↓UGff, ↓MGtt, ↓MGtf, ↓MGft, ↓MGff, ↓NGtt, ↓NGtf, ↓NGft, ↓NGff, ↓PGtt, ↓PGtf, ↓PGft, ↓PGff, ↓BGtt, ↓BGtf, ↓BGft, ↓BGff, ↓CGtt, ↓CGtf, ↓CGft, ↓CGff, ↓IGtt, ↓IGtf, ↓IGft, ↓IGff, ↓PKt, ↓PKf, ↓CDt, ↓CDf, ↓NOTt, ↓NOTf, ↓NK_ptr, ↓EQt c2]
      exact ⟨by simp [twoV, c1, c2], by trivial⟩
    · simp only [↓VG_u, ↓UG_u, ↓MG_u, ↓NG_u, ↓PG_u, ↓BG_u, ↓CG_u, ↓IG_u, ↓VGtt, ↓VGtf, ↓VGft, ↓VGff, ↓UGtt, ↓UGtf, ↓UGft, ↓UGff, ↓MGtt, ↓MGtf, ↓MGft, ↓MGff, ↓NGtt, ↓NGtf, ↓NGft, ↓NGff, ↓PGtt, ↓PGtf, ↓PGft, ↓PGff, ↓BGtt, ↓BGtf, ↓BGft, ↓BGff, ↓CGtt, ↓CGtf, ↓CGft, ↓CGff, ↓IGtt, ↓IGtf, ↓IGft, ↓IGff, ↓PKt, ↓PKf, ↓CDt, ↓CDf, ↓NOTt, ↓NOTf, ↓NK_ptr, ↓EQf c2]
      rw [BK_quo hb]
      exact ⟨by simp [twoV, c1, c2], by trivial⟩
  · simp only [↓VG_u, ↓UG_u, ↓MG_u, ↓NG_u, ↓PG_u, ↓BG_u, ↓CG_u, ↓IG_u, ↓VGtt, ↓VGtf, ↓VGft, ↓VGff, ↓UGtt, ↓UGtf, ↓UGft, ↓UGff, ↓MGtt, ↓MGtf, ↓MGft, ↓MGff, ↓NGtt, ↓NGtf, ↓NGft, ↓NGff, ↓PGtt, ↓PGtf, ↓PGft, ↓PGff, ↓BGtt, ↓BGtf, ↓BGft, ↓BGff, ↓CGtt, ↓CGtf, ↓CGft, ↓CGff, ↓IGtt, ↓IGtf, ↓IGft, ↓IGff, ↓PKt, ↓PKf, ↓CDt, ↓CDf, ↓NOTt, ↓NOTf, ↓NK_ptr, ↓EQf c1]
    rw [BK_quo hb]
    exact ⟨by simp [twoV, c1], by trivial⟩
theorem two3_ok (a b : Int) (hb : b ≠ 0) (w : World) : Rt Try.prog 39 #[.int .i64 a, .int .i64 b] w (TwR 12 a b w) := by
  refine vm_two_3_calls ?_
  unfold vm_two_3_F
  by_cases c2 : b = -1
  · simp only [↓VG_u, ↓UG_u, ↓MG_u, ↓NG_u, ↓PG_u, ↓BG_u, ↓CG_u, ↓IG_u, ↓VGtt, ↓VGtf, ↓VGft, ↓VGff, ↓UGtt, ↓UGtf, ↓UGft, ↓UGff, ↓MGtt, ↓MGtf, ↓MGft, ↓MGff, ↓NGtt, ↓NGtf, ↓NGft, ↓NGff, ↓PGtt, ↓PGtf, ↓PGft, ↓PGff, ↓BGtt, ↓BGtf, ↓BGft, ↓BGff, ↓CGtt, ↓CGtf, ↓CGft, ↓CGff, ↓IGtt, ↓IGtf, ↓IGft, ↓IGff, ↓PKt, ↓PKf, ↓CDt, ↓CDf, ↓NOTt, ↓NOTf, ↓NK_ptr, ↓EQt c2]
    exact ⟨by simp [twoV, c2], by trivial⟩
  · simp only [↓VG_u, ↓UG_u, ↓MG_u, ↓NG_u, ↓PG_u, ↓BG_u, ↓CG_u, ↓IG_u, ↓VGtt, ↓VGtf, ↓VGft, ↓VGff, ↓UGtt, ↓UGtf, ↓UGft, ↓UGff, ↓MGtt, ↓MGtf, ↓MGft, ↓MGff, ↓NGtt, ↓NGtf, ↓NGft, ↓NGff, ↓PGtt, ↓PGtf, ↓PGft, ↓PGff, ↓BGtt, ↓BGtf, ↓BGft, ↓BGff, ↓CGtt, ↓CGtf, ↓CGft, ↓CGff, ↓IGtt, ↓IGtf, ↓IGft, ↓IGff, ↓PKt, ↓PKf, ↓CDt, ↓CDf, ↓NOTt, ↓NOTf, ↓NK_ptr, ↓EQf c2]
    rw [BK_rem hb]
    exact ⟨by simp [twoV, c2], by trivial⟩
theorem two4_ok (a b : Int) (w : World) : Rt Try.prog 40 #[.int .i64 a, .int .i64 b] w (TwR 13 a b w) := by
  refine vm_two_4_calls ?_
  unfold vm_two_4_F
  rw [BK_add]
  exact ⟨by simp [twoV], by trivial⟩
theorem two5_ok (a b : Int) (w : World) : Rt Try.prog 41 #[.int .i64 a, .int .i64 b] w (TwR 14 a b w) := by
  refine vm_two_5_calls ?_
  unfold vm_two_5_F
  rw [BK_sub]
  exact ⟨by simp [twoV], by trivial⟩
theorem two6_ok (a b : Int) (w : World) : Rt Try.prog 42 #[.int .i64 a, .int .i64 b] w (TwR 15 a b w) := by
  refine vm_two_6_calls ?_
  unfold vm_two_6_F
  rw [BK_lss]
  refine CK_st Try.func29 rfl rfl (truth_ok _ w) ?_
  rintro _ w' ⟨rfl, rfl⟩
  exact ⟨by simp [twoV], by trivial⟩
theorem two7_ok (a b : Int) (w : World) : Rt Try.prog 43 #[.int .i64 a, .int .i64 b] w (TwR 16 a b w) := by
  refine vm_two_7_calls ?_
  unfold vm_two_7_F
  rw [BK_leq]
  refine CK_st Try.func29 rfl rfl (truth_ok _ w) ?_
  rintro _ w' ⟨rfl, rfl⟩
  exact ⟨by simp [twoV], by trivial⟩
theorem two8_ok (a b : Int) (w : World) : Rt Try.prog 44 #[.int .i64 a, .int .i64 b] w (TwR 17 a b w) := by
  refine vm_two_8_calls ?_
  unfold vm_two_8_F
  rw [BK_gtr]
  refine CK_st Try.func29 rfl rfl (truth_ok _ w) ?_
  rintro _ w' ⟨rfl, rfl⟩
  exact ⟨by simp [twoV], by trivial⟩
theorem two9_ok (a b : Int) (w : World) : Rt Try.prog 45 #[.int .i64 a, .int .i64 b] w (TwR 18 a b w) := by
  refine vm_two_9_calls ?_
  unfold vm_two_9_F
  rw [BK_geq]
  refine CK_st Try.func29 rfl rfl (truth_ok _ w) ?_
  rintro _ w' ⟨rfl, rfl⟩
  exact ⟨by simp [twoV], by trivial⟩
theorem two10_ok (a b : Int) (w : World) : Rt Try.prog 46 #[.int .i64 a, .int .i64 b] w (TwR 19 a b w) := by
  refine vm_two_10_calls ?_
  unfold vm_two_10_F
  rw [BK_eql]
  refine CK_st Try.func29 rfl rfl (truth_ok _ w) ?_
  rintro _ w' ⟨rfl, rfl⟩
  exact ⟨by simp [twoV]; rfl, by trivial⟩
theorem two11_ok (a b : Int) (w : World) : Rt Try.prog 47 #[.int .i64 a, .int .i64 b] w (TwR 20 a b w) := by
  refine vm_two_11_calls ?_
  unfold vm_two_11_F
  rw [BK_neq]
  refine CK_st Try.func29 rfl rfl (truth_ok _ w) ?_
  rintro _ w' ⟨rfl, rfl⟩
  exact ⟨by simp [twoV]; rfl, by trivial⟩
def fns : List Value := [Value.func (.func 37) #[] #[], Value.func (.func 38) #[] #[], Value.func (.func 39) #[] #[], Value.func (.func 40) #[] #[], Value.func (.func 41) #[] #[], Value.func (.func 42) #[] #[], Value.func (.func 43) #[] #[], Value.func (.func 44) #[] #[], Value.func (.func 45) #[] #[], Value.func (.func 46) #[] #[], Value.func (.func 47) #[] #[]]
theorem two_ok (w : World) : Rt Try.prog 31 #[] w fun v w' => v = .agg fns.toArray ∧ Mod none_ w w' := by
  refine vm_two_calls ?_
  unfold vm_two_F
  refine al_k (z := .agg (List.replicate 11 (Value.nilFunc)).toArray) (cs := (List.replicate 11 (Value.nilFunc)).toArray) (by kernel_rfl) rfl _ fun w1 hb1 hm1 hz1 => ?_
  rw [build_ok (cs := fns.toArray) (by kernel_rfl)]
  refine stS (cs := fns.toArray) (old := (List.replicate 11 Value.nilFunc).toArray) rfl rfl (by kernel_rfl) rfl (by kernel_rfl) hb1 fun w2 hb2 hm2 hz2 => ?_
  refine rsCell (R := fun v w' => v = .agg fns.toArray ∧ Mod none_ w w') rfl Try.underlying73 rfl (by kernel_rfl) hb2 ?_
  exact ⟨rfl, hm1.then hm2 fun i hi q => by omega⟩
end Go.Proofs.Ytmbgbffgkdcieaa.Tr
set_option linter.unusedVariables false
set_option linter.unusedSimpArgs false
set_option maxRecDepth 4000
namespace Go.Proofs.Ytmbgbffgkdcieaa.Tr
open Go Go.X Go.RowKit Go.Proofs.Ytmbgbffgkdcieaa.XF Go.Proofs.Ytmbgbffgkdcieaa.XK
abbrev DoP (p : Nat) (w : World) (V : RkV) (s' : Rk) : World → Prop := fun w' => ∃ V', RkAt w' p s' V' ∧ Fr p w V w' V'
abbrev DK (p : Nat) (w : World) (V : RkV) (s' : Rk) : Exit → Sl → World → Prop := retK Try.prog [] fun _ w' => DoP p w V s' w'
structure DC (i : Ins) (p b : Nat) (s : Rk) (V : RkV) (w0 w : World) (V0 : RkV) (ρ : Sl) : Prop where
  r0 : ρ 0 = .pointer (some ⟨p, 0, none⟩)
  r3 : ρ 3 = .pointer (some ⟨b, 0, none⟩)
  r11 : ρ 11 = .int .u8 i.op
  blk : w.heap[b]? = some (.cells i.cells.toArray 30 (0, 0))
  at_ : RkAt w p s V
  fr : Fr p w0 V0 w V
  nb : w0.heap.size ≤ b
  out : ¬ V.G p b
section
variable {i : Ins} {p b : Nat} {s s' : Rk} {V V0 : RkV} {w0 w w' : World} {ρ : Sl}
theorem push_do (h : RkAt w p s V) (f : Fr p w0 V0 w V) (hl : s.stack.length ≤ 1000) (n : Int) {K : World → Prop} (hk : ∀ w', DoP p w0 V0 (s.push n) w' → K w') : CK Try.prog (.func (.func 24) #[] #[]) [.pointer (some ⟨p, 0, none⟩), .int .i64 n] w fun _ w' => K w' :=
  CK_st Try.func24 rfl rfl (push_ok h hl n) fun _ w' ⟨V', r, g⟩ => hk w' ⟨V', r, f.trans g⟩
theorem ends_do (h : RkAt w p s V) (f : Fr p w0 V0 w V) (kind fault : Int) {K : World → Prop} (hk : ∀ w', DoP p w0 V0 (s.ends kind fault) w' → K w') : CK Try.prog (.func (.func 27) #[] #[]) [.pointer (some ⟨p, 0, none⟩), .int .u8 kind, .int .u8 fault] w fun _ w' => K w' :=
  CK_st Try.func27 rfl rfl (ends_ok h kind fault) fun _ w' ⟨V', r, g⟩ => hk w' ⟨V', r, f.trans g⟩
theorem pop_do (h : RkAt w p s V) (h0 : 0 < s.stack.length) (hl : s.stack.length ≤ 1000) {K : Value → World → Prop} (hk : ∀ w' sl, RkAt w' p s.drop1 { V with s := sl } → Fr p w V w' { V with s := sl } → K (.int .i64 s.top) w') : CK Try.prog (.func (.func 25) #[] #[]) [.pointer (some ⟨p, 0, none⟩)] w K :=
  CK_st Try.func25 rfl rfl (pop_ok h h0 hl) fun _ w' ⟨e, V', r, g⟩ => by rw [e]; exact hk w' V' r g
theorem DC.next {V' : RkV} (h : DC i p b s V w0 w V0 ρ) (r : RkAt w' p s' V') (g : Fr p w V w' V') {ρ' : Sl} (e0 : ρ' 0 = ρ 0) (e3 : ρ' 3 = ρ 3) (e11 : ρ' 11 = ρ 11) : DC i p b s' V' w0 w' V0 ρ' := by
  have hb := X.blk_lt h.blk
  exact ⟨e0.trans h.r0, e3.trans h.r3, e11.trans h.r11, g.mod.blk h.blk fun q => h.out (.inl q), r, h.fr.trans g, h.nb, fun q => (g.g b q).elim h.out fun z => by omega⟩
theorem DC.drawn (h : DC i p b s V w0 w V0 ρ) (n : Nat) : DC i p b s V w0 { w with drawn := n } V0 ρ := by
  have hm : Mod none_ w { w with drawn := n } := (Mod.refl _ w).drawn n
  exact h.next (h.at_.calm hm) (Fr.calm hm) rfl rfl rfl
theorem DC.n (h : DC i p b s V w0 w V0 ρ) : FO Try.prog w 30 1 1 ⟨b, 0, none⟩ 2 (.int .i64 i.n) := FO.blk h.blk (by kernel_rfl) vN rfl rfl
theorem DC.op (h : DC i p b s V w0 w V0 ρ) : FO Try.prog w 30 0 0 ⟨b, 0, none⟩ 5 (.int .u8 i.op) := FO.blk h.blk (by kernel_rfl) vU8 rfl rfl
theorem do_R0 (h : DC i p b s V w0 w V0 ρ) (hk : s.Wk) (h0 : 0 ≤ i.n) (h1 : i.n < s.vars.length) : W fn_ Try.prog 221 vm_Rank_do_R0 (blkK 0 (DK p w0 V0 (s.push (s.vars.getD i.n.toNat 0)))) ρ w := by
  refine vm_Rank_do_R0_tail (D := []) ?_
  have hd := h.drawn (w.drawn + 1)
  generalize ({ w with drawn := w.drawn + 1 } : World) = wd at *
  unfold vm_Rank_do_R0_T
  rw [h.r0, h.r3]
  refine QN_ptr ?_
  refine Qfo (off := 7) (a := ⟨p, 0, none⟩) (by kernel_rfl) (Qld vNs rfl (v := V.v) (fun w' hw => by rw [hw, add_pl, cell_blk hd.at_.blk]; rfl) ?_)
  refine Qfo (off := 1) (a := ⟨b, 0, none⟩) (by kernel_rfl) (Qld vN rfl (v := .int .i64 i.n) (fun w' hw => by rw [hw, add_pl, cell_blk hd.blk]; rfl) ?_)
  have hx := getD_some (l := s.vars) (i := i.n.toNat) (by omega)
  refine q_ixld (C := fun w' => w' = wd) vNs cN vN rfl (w := wd) rfl (v := V.v) (n := s.vars.length) (xs := i64s s.vars) (fun w' hw => by rw [hw]; exact reads_of_owns hd.at_.vars) h0 (i64s_get hx) fun y => ?_
  exact push_do hd.at_ hd.fr (by have := hk.st; omega) _ fun w' q => q
theorem do_R1 (h : DC i p b s V w0 w V0 ρ) (hk : s.Wk) (h0 : 0 ≤ i.n) (h1 : i.n < s.vars.length) (hs : 0 < s.stack.length) : W fn_ Try.prog 221 vm_Rank_do_R1 (blkK 0 (DK p w0 V0 { s.drop1 with vars := s.vars.set i.n.toNat s.top })) ρ w := by
  have hd := h.drawn (w.drawn + 1)
  refine vm_Rank_do_R1_held (D := []) (fun w' => w'.cell? ⟨p, 7, none⟩ = some V.v ∧ w'.heap[b]? = some (.cells i.cells.toArray 30 (0, 0))) ⟨by rw [cell_blk hd.at_.blk]; rfl, hd.blk⟩ ?_
  generalize ({ w with drawn := w.drawn + 1 } : World) = wd at *
  unfold vm_Rank_do_R1_H
  rw [h.r0, h.r3]
  refine HN_ptr ?_
  refine HV_of (v := .pointer (some (Addr.add ⟨p, 0, none⟩ 7))) (fun w' _ => run_fo (by kernel_rfl) _ w') ?_
  refine HV_of (v := V.v) (fun w' hw => run_ld1 vNs rfl (by rw [add_pl]; exact hw.1)) ?_
  refine HV_of (v := .pointer (some (Addr.add ⟨b, 0, none⟩ 1))) (fun w' _ => run_fo (by kernel_rfl) _ w') ?_
  refine HV_of (v := .int .i64 i.n) (fun w' hw => run_ld1 vN rfl (by rw [add_pl, cell_blk hw.2]; rfl)) ?_
  refine CK_st Try.func25 rfl rfl (pop_ok hd.at_ hs (by have := hk.st; omega)) ?_
  rintro _ w3 ⟨rfl, sl, r, g⟩
  have h3 := hd.next (ρ' := ρ) r g rfl rfl rfl
  refine ⟨⟨by rw [cell_blk r.blk]; rfl, h3.blk⟩, ?_⟩
  have hl3 : s.drop1.vars.length = s.vars.length := rfl
  obtain ⟨gb, cap, eV⟩ : ∃ gb cap, V.v = .slice (some ⟨gb, 0, none⟩) s.vars.length cap := by
    rcases h.at_.vars.2 with ⟨_, q⟩ | ⟨g, cap, cur, e, _⟩
    · omega
    · exact ⟨g, cap, e⟩
  rw [eV]
  refine HV_of (fun w' _ => run_ixa vNs cN h0 (by omega) w') ?_
  have hov : w3.ownsRow 0 tN 1 (.slice (some ⟨gb, 0, none⟩) s.vars.length cap) s.vars.length (i64s s.vars) := by rw [← eV]; exact r.vars
  rw [add_pl, Nat.zero_add]
  refine st_row cN rfl hov (k := i.n.toNat * (0 + 1)) (by omega) fun w4 ho4 hm4 => ?_
  have hm4' : Mod (sb V.v) w3 w4 := hm4.mono fun k _ q => by rw [q, eV]; rfl
  have ho4' : w4.ownsRow 0 tN 1 V.v (s.vars.set i.n.toNat s.top).length (i64s (s.vars.set i.n.toNat s.top)) := by
    rw [eV, List.length_set]
    have : (i64s s.vars).set (i.n.toNat * (0 + 1)) (Value.int .i64 s.top) = i64s (s.vars.set i.n.toNat s.top) := by unfold i64s; rw [List.map_set]; congr 1; omega
    rw [← this]
    exact ho4
  obtain ⟨r4, g4⟩ := RkAt.var (s' := { s.drop1 with vars := s.vars.set i.n.toNat s.top }) r hm4' ho4' rfl rfl rfl rfl rfl rfl rfl
  have h4 := h3.next (ρ' := ρ) r4 g4 rfl rfl rfl
  refine ⟨⟨by rw [cell_blk r4.blk, ← eV]; rfl, h4.blk⟩, ?_⟩
  exact ⟨_, r4, h4.fr⟩
theorem do_R2 (h : DC i p b s V w0 w V0 ρ) (hk : s.Wk) (h0 : 0 ≤ i.n) (h1 : i.n < s.pg.arrs.length) (hs : 0 < s.stack.length) {K1 K2 : Exit → Sl → World → Prop}
    (hK : ∀ ρ' w' sl (v : Value), DC i p b s.drop1 { V with s := sl } w0 w' V0 ρ' → CellP w' s.drop1 { V with s := sl } i.n s.top v w' → ρ' 4 = v → K1 .normal ρ' w') : W fn_ Try.prog 221 vm_Rank_do_R2 K1 ρ w := by
  have hd := h.drawn (w.drawn + 1)
  refine vm_Rank_do_R2_held (D := []) (fun w' => w'.heap[b]? = some (.cells i.cells.toArray 30 (0, 0))) hd.blk ?_
  generalize ({ w with drawn := w.drawn + 1 } : World) = wd at *
  unfold vm_Rank_do_R2_H
  rw [h.r0, h.r3]
  refine HV_of (v := .pointer (some (Addr.add ⟨b, 0, none⟩ 1))) (fun w' _ => run_fo (by kernel_rfl) _ w') ?_
  refine HV_of (v := .int .i64 i.n) (fun w' hw => run_ld1 vN rfl (by rw [add_pl, cell_blk hw]; rfl)) ?_
  refine CK_st Try.func25 rfl rfl (pop_ok hd.at_ hs (by have := hk.st; omega)) ?_
  rintro _ w3 ⟨rfl, sl, r, g⟩
  have h3 := hd.next (ρ' := ρ) r g rfl rfl rfl
  refine ⟨h3.blk, ?_⟩
  refine CK_st Try.func26 rfl rfl (cell_ok r hk.drop1 h0 h1) ?_
  rintro v w4 ⟨hv, hm4⟩
  have h4 := h3.next (ρ' := ρ) (r.calm hm4) (Fr.calm hm4) rfl rfl rfl
  refine ⟨h4.blk, ?_⟩
  exact hK _ w4 sl v (h4.next (h4.at_) (Fr.refl _ _ _) rfl rfl rfl) ⟨hv, Mod.refl _ _⟩ rfl
theorem cells_at (h : RkAt w p s V) {g cap c : Nat} (eV : V.l = .slice (some ⟨g, 0, none⟩) s.cells.length cap) (hc : c < s.cells.length) : w.cell? ⟨g, c, none⟩ = some (.int .i64 (s.cells.getD c 0)) := by
  obtain ⟨hl, A, c', e, _, hr⟩ := reads_of_owns h.cells
  rw [eV] at e
  cases e
  obtain ⟨a, ha, hcell⟩ := hr c _ (i64s_get (getD_some hc))
  cases ha
  rw [add_pl, Nat.zero_add] at hcell
  exact hcell
abbrev BD (p : Nat) (w0 : World) (V0 : RkV) (s' : Rk) : Exit → Sl → World → Prop := blkK 0 (DK p w0 V0 s')
theorem do_at (h : DC i p b s V w0 w V0 ρ) (hk : s.Wk) (h0 : 0 ≤ i.n) (h1 : i.n < s.pg.arrs.length) (hs : 0 < s.stack.length) (he : s' = match s.cellAt i.n s.top with | some c => s.drop1.push (s.cells.getD c 0) | none => s.drop1.ends 4 2) :
    W fn_ Try.prog 221 vm_Rank_do_R2 (seqK (sx fn_ Try.prog 221 vm_Rank_do_R3 (seqK (sx fn_ Try.prog 221 vm_Rank_do_R4 (BD p w0 V0 s')) (BD p w0 V0 s'))) (seqK (sx fn_ Try.prog 221 vm_Rank_do_R4 (BD p w0 V0 s')) (BD p w0 V0 s'))) ρ w := by
  refine do_R2 (K2 := BD p w0 V0 s') h hk h0 h1 hs fun ρ' w3 sl v h3 hv e4 => ?_
  rw [sq_n, vm_Rank_do_R3_eq]; unfold vm_Rank_do_R3_F
  have hcc : s.drop1.cellAt i.n s.top = s.cellAt i.n s.top := rfl
  unfold CellP at hv
  rw [hcc] at hv
  cases hq : s.cellAt i.n s.top with
  | none =>
    rw [hq] at hv he
    rw [e4, hv.1, BK_neqP (by kernel_rfl : Try.prog.underlying 68 = some (.pointer 2))]
    refine condF ?_
    rw [sq_n, vm_Rank_do_R4_eq]; unfold vm_Rank_do_R4_F
    rw [show (up (up ρ' 77 (Value.pointer none)) 78 (.bool (!(none : Option Addr).isNone))) 0 = .pointer (some ⟨p, 0, none⟩) from h3.r0]
    exact ends_do h3.at_ h3.fr 4 2 fun w' q => by rw [he]; exact q
  | some c =>
    rw [hq] at hv he
    obtain ⟨⟨hc, g, cap, eV, ev⟩, _⟩ := hv
    rw [e4, ev, BK_neqP (by kernel_rfl : Try.prog.underlying 68 = some (.pointer 2))]
    refine condT ?_
    rw [NK_ptr]
    refine ld1 vN rfl (cells_at h3.at_ eV hc) ?_
    rw [h3.r0]
    refine push_do h3.at_ h3.fr (by have := hk.drop1.st; omega) _ fun w' q => ?_
    show DoP p w0 V0 s' w'
    rw [he]; exact q
theorem do_put (h : DC i p b s V w0 w V0 ρ) (hk : s.Wk) (h0 : 0 ≤ i.n) (h1 : i.n < s.pg.arrs.length) (hs : 0 < s.stack.length) {x : Int} (h5 : ρ 5 = .int .i64 x) (he : s' = match s.cellAt i.n s.top with | some c => { s.drop1 with cells := s.cells.set c x } | none => s.drop1.ends 4 2) :
    W fn_ Try.prog 221 vm_Rank_do_R5 (seqK (sx fn_ Try.prog 221 vm_Rank_do_R6 (seqK (sx fn_ Try.prog 221 vm_Rank_do_R7 (BD p w0 V0 s')) (BD p w0 V0 s'))) (seqK (sx fn_ Try.prog 221 vm_Rank_do_R7 (BD p w0 V0 s')) (BD p w0 V0 s'))) ρ w := by
  have hd := h.drawn (w.drawn + 1)
  refine vm_Rank_do_R5_held (D := []) (fun w' => w'.heap[b]? = some (.cells i.cells.toArray 30 (0, 0))) hd.blk ?_
  generalize ({ w with drawn := w.drawn + 1 } : World) = wd at *
  unfold vm_Rank_do_R5_H
  rw [h.r0, h.r3]
  refine HV_of (v := .pointer (some (Addr.add ⟨b, 0, none⟩ 1))) (fun w' _ => run_fo (by kernel_rfl) _ w') ?_
  refine HV_of (v := .int .i64 i.n) (fun w' hw => run_ld1 vN rfl (by rw [add_pl, cell_blk hw]; rfl)) ?_
  refine CK_st Try.func25 rfl rfl (pop_ok hd.at_ hs (by have := hk.st; omega)) ?_
  rintro _ w3 ⟨rfl, sl, r, g⟩
  have h3 := hd.next (ρ' := ρ) r g rfl rfl rfl
  refine ⟨h3.blk, ?_⟩
  refine CK_st Try.func26 rfl rfl (cell_ok r hk.drop1 h0 h1) ?_
  rintro v w4 ⟨hv, hm4⟩
  have h4 := h3.next (ρ' := ρ) (r.calm hm4) (Fr.calm hm4) rfl rfl rfl
  refine ⟨h4.blk, ?_⟩
  rw [sq_n, vm_Rank_do_R6_eq]; unfold vm_Rank_do_R6_F
  have hcc : s.drop1.cellAt i.n s.top = s.cellAt i.n s.top := rfl
  rw [hcc] at hv
  have e6 : ∀ {f : Sl} {x : Value}, up f 6 x 6 = x := rfl
  rw [e6]
  cases hq : s.cellAt i.n s.top with
  | none =>
    rw [hq] at hv he
    rw [hv, BK_neqP (by kernel_rfl : Try.prog.underlying 68 = some (.pointer 2))]
    refine condF ?_
    rw [sq_n, vm_Rank_do_R7_eq]; unfold vm_Rank_do_R7_F
    refine CK_eq rfl (bs := [.pointer (some ⟨p, 0, none⟩), .int .u8 4, .int .u8 2]) (by rw [← h.r0]; rfl) ?_
    exact ends_do h4.at_ h4.fr 4 2 fun w' q => by rw [he]; exact q
  | some c =>
    rw [hq] at hv he
    obtain ⟨hc, g2, cap, eV, ev⟩ := hv
    rw [ev, BK_neqP (by kernel_rfl : Try.prog.underlying 68 = some (.pointer 2))]
    refine condT ?_
    rw [NK_ptr]
    have hov : w4.ownsRow 0 tN 1 (.slice (some ⟨g2, 0, none⟩) s.cells.length cap) s.cells.length (i64s s.cells) := by
      have := h4.at_.cells
      rw [eV] at this
      exact this
    simp only [sq_n, sq_x, sq_r, bk_n, bk_r, bk_x, rt_r, rt_n, rs_0, rs_t, pk_1, pk_2, up_at, reduceIte, Nat.reduceEqDiff, h5]
    refine st_row cN rfl hov (k := c) (by have : c < s.cells.length := hc; omega) fun w5 ho5 hm5 => ?_
    have hm5' : Mod (sb ({ V with s := sl } : RkV).l) w4 w5 := hm5.mono fun k _ q => by rw [q, eV]; rfl
    obtain ⟨r5, g5⟩ := RkAt.cell (s' := { s.drop1 with cells := s.cells.set c x }) h4.at_ hm5' (by
      rw [eV]
      show w5.ownsRow 0 tN 1 _ (s.cells.set c x).length (i64s (s.cells.set c x))
      rw [List.length_set]
      have : (i64s s.cells).set c (Value.int .i64 x) = i64s (s.cells.set c x) := by unfold i64s; rw [List.map_set]
      rw [← this]
      exact ho5) rfl rfl rfl rfl rfl rfl rfl
    show DoP p w0 V0 s' w5
    rw [he]
    exact ⟨_, r5, h4.fr.trans g5⟩
theorem jump_do (h : RkAt w p s V) (f : Fr p w0 V0 w V) (n : Int) {K : World → Prop} (hk : ∀ w', DoP p w0 V0 (s.jump n) w' → K w') : VK Try.prog (Instr.fieldAt tR (.pointer (some ⟨p, 0, none⟩)) 3) w fun y w => UK Try.prog (Instr.storeAt 3 y (.int .i64 n)) w fun _ w => K w := by
  rw [fo (show fieldOff Try.prog tR 3 = some 5 by kernel_rfl)]
  refine stC (o := 5) (by rw [add_pl]) (by kernel_rfl) rfl h.blk (by show 5 < 31; omega) fun w3 hb3 hm3 hz3 => ?_
  obtain ⟨r, g⟩ := RkAt.put (s' := s.jump n) h hm3 hb3 rfl rfl rfl rfl rfl rfl rfl
  exact hk _ ⟨_, r, f.trans g⟩
end
end Go.Proofs.Ytmbgbffgkdcieaa.Tr
set_option linter.unusedVariables false
set_option linter.unusedSimpArgs false
set_option maxRecDepth 4000
namespace Go.Proofs.Ytmbgbffgkdcieaa.Tr
open Go Go.X Go.RowKit Go.Proofs.Ytmbgbffgkdcieaa.XF Go.Proofs.Ytmbgbffgkdcieaa.XK
theorem twoF {op a b : Int} (h0 : 10 ≤ op) (h1 : op ≤ 20) (hb : b = 0 → op ≠ 11 ∧ op ≠ 12) : ∃ f fn, fns[(op - 10).toNat]? = some (.func (.func f) #[] #[]) ∧ Try.prog.funcs[f]? = some fn ∧ fn.body.isNone = false ∧ (fn.name == "runtime.NumGoroutine") = false ∧ ∀ w, Rt Try.prog f #[.int .i64 a, .int .i64 b] w (TwR op a b w) := by
  have h : op = 10 ∨ op = 11 ∨ op = 12 ∨ op = 13 ∨ op = 14 ∨ op = 15 ∨ op = 16 ∨ op = 17 ∨ op = 18 ∨ op = 19 ∨ op = 20 := by omega
  rcases h with rfl | rfl | rfl | rfl | rfl | rfl | rfl | rfl | rfl | rfl | rfl
  · exact ⟨37, Try.f37, rfl, Try.func37, rfl, rfl, fun w => two1_ok a b w⟩
  · exact ⟨38, Try.f38, rfl, Try.func38, rfl, rfl, fun w => two2_ok a b (fun q => by have := hb q; omega) w⟩
  · exact ⟨39, Try.f39, rfl, Try.func39, rfl, rfl, fun w => two3_ok a b (fun q => by have := hb q; omega) w⟩
  · exact ⟨40, Try.f40, rfl, Try.func40, rfl, rfl, fun w => two4_ok a b w⟩
  · exact ⟨41, Try.f41, rfl, Try.func41, rfl, rfl, fun w => two5_ok a b w⟩
  · exact ⟨42, Try.f42, rfl, Try.func42, rfl, rfl, fun w => two6_ok a b w⟩
  · exact ⟨43, Try.f43, rfl, Try.func43, rfl, rfl, fun w => two7_ok a b w⟩
  · exact ⟨44, Try.f44, rfl, Try.func44, rfl, rfl, fun w => two8_ok a b w⟩
  · exact ⟨45, Try.f45, rfl, Try.func45, rfl, rfl, fun w => two9_ok a b w⟩
  · exact ⟨46, Try.f46, rfl, Try.func46, rfl, rfl, fun w => two10_ok a b w⟩
  · exact ⟨47, Try.f47, rfl, Try.func47, rfl, rfl, fun w => two11_ok a b w⟩
section
variable {i : Ins} {p b : Nat} {s s' : Rk} {V V0 : RkV} {w0 w w' : World} {ρ : Sl}
theorem do_row (h : DC i p b s V w0 w V0 ρ) (hk : s.Wk) {x : Int} (h7 : ρ 7 = .int .i64 x) {t : Bool} (h118 : ρ 118 = .bool t) (ht : t = decide (0 ≤ x ∧ x < s.last.row.length)) (he : s' = if 0 ≤ x ∧ x < s.last.row.length then s.push (s.last.row.getD x.toNat 0) else s.ends 4 2) :
    sx fn_ Try.prog 221 vm_Rank_do_R8 (seqK (sx fn_ Try.prog 221 vm_Rank_do_R9 (BD p w0 V0 s')) (BD p w0 V0 s')) ρ w := by
  rw [vm_Rank_do_R8_eq]; unfold vm_Rank_do_R8_F
  rw [h118, ht]
  by_cases c : 0 ≤ x ∧ x < s.last.row.length
  · rw [decide_eq_true c]
    rw [if_pos c] at he
    refine condT ?_
    rw [h.r0, h7, NK_ptr, fo (show fieldOff Try.prog tR 8 = some 10 by kernel_rfl), add_pl]
    have f7 : FO Try.prog w 54 7 7 ⟨p, 0 + 10, none⟩ 22 V.r := FO.mk' (by kernel_rfl) vNs rfl (by rw [add_pl, cell_blk h.at_.blk]; rfl)
    rw [f7.e]
    refine ixld vNs cN vN rfl h.at_.row c.1 (i64s_get (getD_some (by omega))) fun y => ?_
    refine push_do h.at_ h.fr (by have := hk.st; omega) _ fun w' q => ?_
    show DoP p w0 V0 s' w'
    rw [he]; exact q
  · rw [decide_eq_false c]
    rw [if_neg c] at he
    refine condF ?_
    rw [sq_n, vm_Rank_do_R9_eq]; unfold vm_Rank_do_R9_F
    rw [h.r0]
    exact ends_do h.at_ h.fr 4 2 fun w' q => by rw [he]; exact q
theorem do_jz (h : DC i p b s V w0 w V0 ρ) (hk : s.Wk) (hs : 0 < s.stack.length) (he : s' = if (decide (s.top = 0) == decide (i.op = 23)) then s.drop1.jump i.n else s.drop1) :
    W fn_ Try.prog 221 vm_Rank_do_R12 (seqK (sx fn_ Try.prog 221 vm_Rank_do_R13 (BD p w0 V0 s')) (BD p w0 V0 s')) ρ w := by
  have hd := h.drawn (w.drawn + 1)
  refine vm_Rank_do_R12_held (D := []) (fun w' => w'.heap[b]? = some (.cells i.cells.toArray 30 (0, 0))) hd.blk ?_
  generalize ({ w with drawn := w.drawn + 1 } : World) = wd at *
  unfold vm_Rank_do_R12_H
  rw [h.r0, h.r3]
  refine HV_of (v := .pointer (some (Addr.add ⟨b, 0, none⟩ 0))) (fun w' _ => run_fo (by kernel_rfl) _ w') ?_
  refine HV_of (v := .int .u8 i.op) (fun w' hw => run_ld1 vU8 rfl (by rw [add_pl, cell_blk hw]; rfl)) ?_
  refine HB_of (v := .bool (decide (i.op = 23))) (fun _ => rfl) (fun _ => rfl) ?_
  refine CK_st Try.func25 rfl rfl (pop_ok hd.at_ hs (by have := hk.st; omega)) ?_
  rintro _ w3 ⟨rfl, sl, r, g⟩
  have h3 := hd.next (ρ' := ρ) r g rfl rfl rfl
  refine ⟨h3.blk, ?_⟩
  refine HB_of (v := .bool (decide (s.top = 0))) (fun _ => rfl) (fun _ => rfl) ?_
  generalize hu : decide (s.top = 0) = u at *
  generalize hv : decide (i.op = 23) = v at *
  refine HB_of (v := .bool (u == v)) (fun w => by cases u <;> cases v <;> rfl) (fun w => by cases u <;> cases v <;> rfl) ?_
  rw [sq_n, vm_Rank_do_R13_eq]; unfold vm_Rank_do_R13_F
  have e178 : ∀ {f : Sl} {x : Value}, up f 178 x 178 = x := rfl
  rw [e178]
  cases hc : (u == v) with
  | true =>
    rw [hc] at he
    refine condT ?_
    simp only [sq_n, sq_x, sq_r, bk_n, bk_r, bk_x, rt_r, rt_n, rs_0, rs_t, pk_1, pk_2, up_at, reduceIte, Nat.reduceEqDiff, h.r0, h.r3]
    rw [h3.n.e, NK_ptr]
    exact jump_do h3.at_ h3.fr i.n fun w' q => by rw [he]; exact q
  | false =>
    rw [hc] at he
    refine condF ?_
    show DoP p w0 V0 s' w3
    rw [he]
    exact ⟨_, r, h3.fr⟩
theorem do_dup (h : DC i p b s V w0 w V0 ρ) (hk : s.Wk) (hs : 0 < s.stack.length) : W fn_ Try.prog 221 vm_Rank_do_R14 (BD p w0 V0 (s.push s.top)) ρ w := by
  refine vm_Rank_do_R14_tail (D := []) ?_
  have hd := h.drawn (w.drawn + 1)
  generalize ({ w with drawn := w.drawn + 1 } : World) = wd at *
  unfold vm_Rank_do_R14_T
  rw [h.r0]
  obtain ⟨A, c, eS, hcS⟩ := reads_cap (reads_of_owns hd.at_.stack)
  have hld : ∀ w', w' = wd → w'.cell? (Addr.add ⟨p, 0, none⟩ 6) = some V.s := fun w' hw => by rw [hw, add_pl, cell_blk hd.at_.blk]; rfl
  refine QN_ptr ?_
  refine Qfo (off := 6) (a := ⟨p, 0, none⟩) (by kernel_rfl) (Qld vNs rfl (v := V.s) hld ?_)
  refine QN_ptr ?_
  refine Qfo (off := 6) (a := ⟨p, 0, none⟩) (by kernel_rfl) (Qld vNs rfl (v := V.s) hld ?_)
  have hst := hk.st
  rw [eS]
  refine QI_len vNs _ A s.stack.length c ?_
  refine QB_of (v := .int .i64 ((s.stack.length - 1 : Nat) : Int)) (fun _ => rfl) (fun w' => ?_) ?_
  · have : IntKind.i64.wrap ((s.stack.length : Int) - 1) = ((s.stack.length - 1 : Nat) : Int) := by rw [wrap_i (by omega) (by omega)]; omega
    rw [← this]; rfl
  have htop : s.stack[s.stack.length - 1]? = some s.top := by
    unfold Rk.top
    rw [List.getLast?_eq_getElem?, List.getElem?_eq_getElem (by omega)]
    rfl
  refine q_ixld (C := fun w' => w' = wd) vNs cN vN rfl (w := wd) rfl (n := s.stack.length) (xs := i64s s.stack) (fun w' hw => by rw [hw, ← eS]; exact reads_of_owns hd.at_.stack) (by omega) (by rw [Int.toNat_natCast]; exact i64s_get htop) fun y => ?_
  exact push_do hd.at_ hd.fr (by omega) _ fun w' q => q
theorem sx_R16 {K : Exit → Sl → World → Prop} : sx fn_ Try.prog 221 vm_Rank_do_R16 K ρ w = W fn_ Try.prog 221 vm_Rank_do_R16 K ρ w := by
  have e : vm_Rank_do_R16 = .region (idOf vm_Rank_do_R16) vm_Rank_do_R16_ops true := by kernel_rfl
  rw [e]; rfl
theorem do_two (h : DC i p b s V w0 w V0 ρ) (hk : s.Wk) {x y : Int} (h8 : ρ 8 = .int .i64 y) (h9 : ρ 9 = .int .i64 x) {t : Bool} (h27 : ρ 27 = .bool t) (ht : t = decide (y = 0 ∧ (i.op = 11 ∨ i.op = 12))) (o0 : 10 ≤ i.op) (o1 : i.op ≤ 20) (he : s' = if y = 0 ∧ (i.op = 11 ∨ i.op = 12) then s.ends 4 1 else s.push (twoV i.op x y)) :
    sx fn_ Try.prog 221 vm_Rank_do_R15 (seqK (sx fn_ Try.prog 221 vm_Rank_do_R16 (BD p w0 V0 s')) (BD p w0 V0 s')) ρ w := by
  rw [vm_Rank_do_R15_eq]; unfold vm_Rank_do_R15_F
  rw [h27, ht]
  by_cases c : y = 0 ∧ (i.op = 11 ∨ i.op = 12)
  · rw [decide_eq_true c]
    rw [if_pos c] at he
    refine condT ?_
    rw [h.r0]
    exact ends_do h.at_ h.fr 4 1 fun w' q => by show DoP p w0 V0 s' w'; rw [he]; exact q
  · rw [decide_eq_false c]
    rw [if_neg c] at he
    refine condF ?_
    rw [sq_n, sx_R16]
    obtain ⟨f, fn, hf, e1, e2, e3, hc⟩ := twoF (op := i.op) (a := x) (b := y) o0 o1 (fun q => ⟨fun z => c ⟨q, .inl z⟩, fun z => c ⟨q, .inr z⟩⟩)
    have hd := h.drawn (w.drawn + 1)
    refine vm_Rank_do_R16_held (D := []) (fun w' => w'.heap[b]? = some (.cells i.cells.toArray 30 (0, 0))) hd.blk ?_
    generalize ({ w with drawn := w.drawn + 1 } : World) = wd at *
    unfold vm_Rank_do_R16_H
    rw [h.r0, h.r3, h8, h9]
    refine HV_of (v := .pointer (some (Addr.add ⟨b, 0, none⟩ 0))) (fun w' _ => run_fo (by kernel_rfl) _ w') ?_
    refine HV_of (v := .int .u8 i.op) (fun w' hw => run_ld1 vU8 rfl (by rw [add_pl, cell_blk hw]; rfl)) ?_
    refine HB_of (v := .int .u8 (i.op - 10)) (fun _ => rfl) (fun w' => ?_) ?_
    · have : IntKind.u8.wrap (i.op - 10) = i.op - 10 := by rw [IntKind.wrap_u8]; omega
      rw [← this]; rfl
    refine CK_st Try.func31 rfl rfl (two_ok wd) ?_
    rintro _ w3 ⟨rfl, hm3⟩
    have h3 := hd.next (ρ' := ρ) (hd.at_.calm hm3) (Fr.calm hm3) rfl rfl rfl
    refine ⟨h3.blk, ?_⟩
    refine HV_of (v := .func (.func f) #[] #[]) (fun w' _ => run_idx (n := 11) (e := 72) (by kernel_rfl) Try.underlying72 rfl (by kernel_rfl) (by omega) (by omega) (by rw [List.getElem?_toArray]; exact hf) w') ?_
    refine ⟨⟨f, fn, #[], #[], rfl, e1, e2, e3⟩, ?_⟩
    refine CK_st e1 e2 e3 (hc w3) ?_
    rintro _ w4 ⟨rfl, rfl⟩
    refine ⟨h3.blk, ?_⟩
    refine CK_st Try.func24 rfl rfl (push_ok h3.at_ (by have := hk.st; omega) _) ?_
    rintro _ w5 ⟨V', r, g⟩
    have h5 := h3.next (ρ' := ρ) r g rfl rfl rfl
    refine ⟨h5.blk, ?_⟩
    show DoP p w0 V0 s' w5
    rw [he]; exact ⟨V', r, h5.fr⟩
end
end Go.Proofs.Ytmbgbffgkdcieaa.Tr
set_option linter.unusedVariables false
set_option linter.unusedSimpArgs false
set_option maxRecDepth 4000
namespace Go.Proofs.Ytmbgbffgkdcieaa.Tr
open Go Go.X Go.RowKit Go.Proofs.Ytmbgbffgkdcieaa.XF Go.Proofs.Ytmbgbffgkdcieaa.XK
def CallC : Prop := ∀ (w : World) (p : Nat) (s : Rk) (V : RkV) (n : Int), RkAt w p s V → s.Wk → 0 ≤ argsV n → argsV n ≤ s.stack.length → Rt Try.prog 30 #[.pointer (some ⟨p, 0, none⟩), .int .i64 n] w fun _ w' => ∃ V', RkAt w' p (s.doV ⟨28, n⟩) V' ∧ Fr p w V w' V'
section
variable {i : Ins} {p b : Nat} {s s' : Rk} {V V0 : RkV} {w0 w w' : World} {ρ : Sl}
theorem do_R11 (h : DC i p b s V w0 w V0 ρ) (hk : s.Wk) (hop : (s.pg.tk i).2.2 = true) (hle : (s.pg.tk i).1 ≤ s.stack.length) (hC : i.op = 28 → CallC) {t : Bool} (h169 : ρ 169 = .bool t) (ht : t = true → i.op = 23 ∨ i.op = 24) (hf : t = false → i.op ≠ 23 ∧ i.op ≠ 24) (hn : i.op ≠ 1 ∧ i.op ≠ 2 ∧ i.op ≠ 3 ∧ i.op ≠ 4 ∧ i.op ≠ 5 ∧ i.op ≠ 6 ∧ i.op ≠ 7 ∧ i.op ≠ 8 ∧ i.op ≠ 9 ∧ i.op ≠ 21 ∧ i.op ≠ 22) (he : s' = s.doV i) :
    sx fn_ Try.prog 221 vm_Rank_do_R11 (BD p w0 V0 s') ρ w := by
  obtain ⟨n1, n2, n3, n4, n5, n6, n7, n8, n9, n21, n22⟩ := hn
  have hst := hk.st
  rw [vm_Rank_do_R11_eq]; unfold vm_Rank_do_R11_F
  rw [h169]
  cases t with
  | true =>
    refine condT ?_
    have hz := ht rfl
    refine do_jz h hk ?_ ?_
    · rcases hz with q | q
      · rw [(Rk.tk23 q).1] at hle; omega
      · rw [(Rk.tk24 q).1] at hle; omega
    · rw [he]
      rcases hz with q | q
      · unfold Rk.doV; simp [q]
      · unfold Rk.doV
        by_cases c : s.top = 0 <;> simp [q, c]
  | false =>
    refine condF ?_
    obtain ⟨n23, n24⟩ := hf rfl
    rw [h.r11]
    refine caseI (fun q => ?_) (fun n25 => ?_)
    · refine condT ?_
      rw [(Rk.tk25 q).1] at hle
      rw [h.r0]
      refine pop_do h.at_ (by omega) (by omega) fun w' sl r g => ?_
      show DoP p w0 V0 s' w'
      rw [he, show s.doV i = s.drop1 by unfold Rk.doV; simp [q]]
      exact ⟨_, r, h.fr.trans g⟩
    refine condF ?_
    refine caseI (fun q => ?_) (fun n26 => ?_)
    · refine condT ?_
      rw [(Rk.tk26 q).1] at hle
      rw [he, show s.doV i = s.push s.top by unfold Rk.doV; simp [q]]
      exact do_dup (h.next h.at_ (Fr.refl _ _ _) rfl rfl rfl) hk (by omega)
    refine condF ?_
    refine caseI (fun q => ?_) (fun n27 => ?_)
    · refine condT ?_
      rw [(Rk.tk27 q).1] at hle
      rw [h.r0]
      refine pop_do h.at_ (by omega) (by omega) fun w' sl r g => ?_
      refine caseI (fun z => ?_) (fun z => ?_)
      · refine condT ?_
        refine ends_do (w0 := w0) (V0 := V0) r (h.fr.trans g) 3 0 fun w' q2 => ?_
        show DoP p w0 V0 s' w'
        rw [he, show s.doV i = s.drop1.ends 3 0 by unfold Rk.doV; simp [q, z]]
        exact q2
      · refine condF ?_
        show DoP p w0 V0 s' w'
        rw [he, show s.doV i = s.drop1 by unfold Rk.doV; simp [q, z]]
        exact ⟨_, r, h.fr.trans g⟩
    refine condF ?_
    refine caseI (fun q => ?_) (fun n28 => ?_)
    · refine condT ?_
      have t28 := Rk.tk28 (P := s.pg) q
      rw [t28.1] at hle
      rw [t28.2.2] at hop
      rw [h.r3, h.n.e, h.r0]
      refine CK_st Try.func30 rfl rfl (hC q w p s V i.n h.at_ hk (of_decide_eq_true hop) hle) ?_
      rintro _ w3 ⟨V', r, g⟩
      show DoP p w0 V0 s' w3
      rw [he, show i = ⟨28, i.n⟩ by rw [← q]]
      exact ⟨V', r, h.fr.trans g⟩
    refine condF ?_
    refine caseI (fun q => ?_) (fun n29 => ?_)
    · refine condT ?_
      rw [h.r0]
      refine ends_do h.at_ h.fr 2 0 fun w' q2 => ?_
      show DoP p w0 V0 s' w'
      rw [he, show s.doV i = s.ends 2 0 by unfold Rk.doV; simp [q]]
      exact q2
    refine condF ?_
    obtain ⟨e1, e2, e3, e4, e5⟩ := Rk.tkE hop ⟨n1, n2, n3, n4, n5, n6, n7, n8, n9, n21, n22, n23, n24, n25, n26, n27, n29, n28⟩
    rw [e1] at hle
    rw [h.r0]
    refine CK_st Try.func25 rfl rfl (pop_ok h.at_ (by omega) (by omega)) ?_
    rintro _ w3 ⟨rfl, sl, r3, g3⟩
    have h3 := h.next (ρ' := ρ) r3 g3 rfl rfl rfl
    have hl3 : s.drop1.stack.length = s.stack.length - 1 := by unfold Rk.drop1; rw [List.length_dropLast]
    refine CK_st Try.func25 rfl rfl (pop_ok r3 (by omega) (by omega)) ?_
    rintro _ w4 ⟨rfl, sl4, r4, g4⟩
    have h4 := h3.next (ρ' := ρ) r4 g4 rfl rfl rfl
    rw [h.r3, BK_eql]
    have hs' : s' = if s.top = 0 ∧ (i.op = 11 ∨ i.op = 12) then s.drop1.drop1.ends 4 1 else s.drop1.drop1.push (twoV i.op s.drop1.top s.top) := by
      rw [he]; unfold Rk.doV; simp [n1, n2, n3, n4, n5, n6, n7, n8, n9, n21, n22, n23, n24, n25, n26, n27, n28, n29]
    by_cases c1 : s.top = 0
    case neg =>
      simp only [beq_eq_false_iff_ne.2 c1, ↓VG_u, ↓UG_u, ↓MG_u, ↓NG_u, ↓PG_u, ↓BG_u, ↓CG_u, ↓IG_u, ↓VGtt, ↓VGtf, ↓VGft, ↓VGff, ↓UGtt, ↓UGtf, ↓UGft, ↓UGff, ↓MGtt, ↓MGtf, ↓MGft, ↓MGff, ↓NGtt, ↓NGtf, ↓NGft, ↓NGff, ↓PGtt, ↓PGtf, ↓PGft, ↓PGff, ↓BGtt, ↓BGtf, ↓BGft, ↓BGff, ↓CGtt, ↓CGtf, ↓CGft, ↓CGff, ↓IGtt, ↓IGtf, ↓IGft, ↓IGff, ↓PKt, ↓PKf, ↓CDt, ↓CDf, ↓NOTt, ↓NOTf, ↓NK_ptr]
      exact do_two (t := false) (h4.next h4.at_ (Fr.refl _ _ _) rfl rfl rfl) hk.drop1.drop1 rfl rfl rfl (decide_eq_false (fun z => c1 z.1)).symm e3 e4 hs'
    simp only [beq_iff_eq.2 c1, ↓VG_u, ↓UG_u, ↓MG_u, ↓NG_u, ↓PG_u, ↓BG_u, ↓CG_u, ↓IG_u, ↓VGtt, ↓VGtf, ↓VGft, ↓VGff, ↓UGtt, ↓UGtf, ↓UGft, ↓UGff, ↓MGtt, ↓MGtf, ↓MGft, ↓MGff, ↓NGtt, ↓NGtf, ↓NGft, ↓NGff, ↓PGtt, ↓PGtf, ↓PGft, ↓PGff, ↓BGtt, ↓BGtf, ↓BGft, ↓BGff, ↓CGtt, ↓CGtf, ↓CGft, ↓CGff, ↓IGtt, ↓IGtf, ↓IGft, ↓IGff, ↓PKt, ↓PKf, ↓CDt, ↓CDf, ↓NOTt, ↓NOTf, ↓NK_ptr]
    rw [h4.op.e]
    simp only [↓VG_u, ↓UG_u, ↓MG_u, ↓NG_u, ↓PG_u, ↓BG_u, ↓CG_u, ↓IG_u, ↓VGtt, ↓VGtf, ↓VGft, ↓VGff, ↓UGtt, ↓UGtf, ↓UGft, ↓UGff, ↓MGtt, ↓MGtf, ↓MGft, ↓MGff, ↓NGtt, ↓NGtf, ↓NGft, ↓NGff, ↓PGtt, ↓PGtf, ↓PGft, ↓PGff, ↓BGtt, ↓BGtf, ↓BGft, ↓BGff, ↓CGtt, ↓CGtf, ↓CGft, ↓CGff, ↓IGtt, ↓IGtf, ↓IGft, ↓IGff, ↓PKt, ↓PKf, ↓CDt, ↓CDf, ↓NOTt, ↓NOTf, ↓NK_ptr, ↓BK_eql]
    by_cases c2 : i.op = 11
    · simp only [beq_iff_eq.2 c2, ↓VG_u, ↓UG_u, ↓MG_u, ↓NG_u, ↓PG_u, ↓BG_u, ↓CG_u, ↓IG_u, ↓VGtt, ↓VGtf, ↓VGft, ↓VGff, ↓UGtt, ↓UGtf, ↓UGft, ↓UGff, ↓MGtt, ↓MGtf, ↓MGft, ↓MGff, ↓NGtt, ↓NGtf, ↓NGft, ↓NGff, ↓PGtt, ↓PGtf, ↓PGft, ↓PGff, ↓BGtt, ↓BGtf, ↓BGft, ↓BGff, ↓CGtt, ↓CGtf, ↓CGft, ↓CGff, ↓IGtt, ↓IGtf, ↓IGft, ↓IGff, ↓PKt, ↓PKf, ↓CDt, ↓CDf, ↓NOTt, ↓NOTf, ↓NK_ptr]
      exact do_two (t := true) (h4.next h4.at_ (Fr.refl _ _ _) rfl rfl rfl) hk.drop1.drop1 rfl rfl rfl (decide_eq_true ⟨c1, .inl c2⟩).symm e3 e4 hs'
    simp only [beq_eq_false_iff_ne.2 c2, ↓VG_u, ↓UG_u, ↓MG_u, ↓NG_u, ↓PG_u, ↓BG_u, ↓CG_u, ↓IG_u, ↓VGtt, ↓VGtf, ↓VGft, ↓VGff, ↓UGtt, ↓UGtf, ↓UGft, ↓UGff, ↓MGtt, ↓MGtf, ↓MGft, ↓MGff, ↓NGtt, ↓NGtf, ↓NGft, ↓NGff, ↓PGtt, ↓PGtf, ↓PGft, ↓PGff, ↓BGtt, ↓BGtf, ↓BGft, ↓BGff, ↓CGtt, ↓CGtf, ↓CGft, ↓CGff, ↓IGtt, ↓IGtf, ↓IGft, ↓IGff, ↓PKt, ↓PKf, ↓CDt, ↓CDf, ↓NOTt, ↓NOTf, ↓NK_ptr]
    rw [h4.op.e]
    simp only [↓VG_u, ↓UG_u, ↓MG_u, ↓NG_u, ↓PG_u, ↓BG_u, ↓CG_u, ↓IG_u, ↓VGtt, ↓VGtf, ↓VGft, ↓VGff, ↓UGtt, ↓UGtf, ↓UGft, ↓UGff, ↓MGtt, ↓MGtf, ↓MGft, ↓MGff, ↓NGtt, ↓NGtf, ↓NGft, ↓NGff, ↓PGtt, ↓PGtf, ↓PGft, ↓PGff, ↓BGtt, ↓BGtf, ↓BGft, ↓BGff, ↓CGtt, ↓CGtf, ↓CGft, ↓CGff, ↓IGtt, ↓IGtf, ↓IGft, ↓IGff, ↓PKt, ↓PKf, ↓CDt, ↓CDf, ↓NOTt, ↓NOTf, ↓NK_ptr, ↓BK_eql]
    by_cases c3 : i.op = 12
    · simp only [beq_iff_eq.2 c3, ↓VG_u, ↓UG_u, ↓MG_u, ↓NG_u, ↓PG_u, ↓BG_u, ↓CG_u, ↓IG_u, ↓VGtt, ↓VGtf, ↓VGft, ↓VGff, ↓UGtt, ↓UGtf, ↓UGft, ↓UGff, ↓MGtt, ↓MGtf, ↓MGft, ↓MGff, ↓NGtt, ↓NGtf, ↓NGft, ↓NGff, ↓PGtt, ↓PGtf, ↓PGft, ↓PGff, ↓BGtt, ↓BGtf, ↓BGft, ↓BGff, ↓CGtt, ↓CGtf, ↓CGft, ↓CGff, ↓IGtt, ↓IGtf, ↓IGft, ↓IGff, ↓PKt, ↓PKf, ↓CDt, ↓CDf, ↓NOTt, ↓NOTf, ↓NK_ptr]
      exact do_two (t := true) (h4.next h4.at_ (Fr.refl _ _ _) rfl rfl rfl) hk.drop1.drop1 rfl rfl rfl (decide_eq_true ⟨c1, .inr c3⟩).symm e3 e4 hs'
    simp only [beq_eq_false_iff_ne.2 c3, ↓VG_u, ↓UG_u, ↓MG_u, ↓NG_u, ↓PG_u, ↓BG_u, ↓CG_u, ↓IG_u, ↓VGtt, ↓VGtf, ↓VGft, ↓VGff, ↓UGtt, ↓UGtf, ↓UGft, ↓UGff, ↓MGtt, ↓MGtf, ↓MGft, ↓MGff, ↓NGtt, ↓NGtf, ↓NGft, ↓NGff, ↓PGtt, ↓PGtf, ↓PGft, ↓PGff, ↓BGtt, ↓BGtf, ↓BGft, ↓BGff, ↓CGtt, ↓CGtf, ↓CGft, ↓CGff, ↓IGtt, ↓IGtf, ↓IGft, ↓IGff, ↓PKt, ↓PKf, ↓CDt, ↓CDf, ↓NOTt, ↓NOTf, ↓NK_ptr]
    exact do_two (t := false) (h4.next h4.at_ (Fr.refl _ _ _) rfl rfl rfl) hk.drop1.drop1 rfl rfl rfl (decide_eq_false (fun z => z.2.elim c2 c3)).symm e3 e4 hs'
end
end Go.Proofs.Ytmbgbffgkdcieaa.Tr
set_option linter.unusedVariables false
set_option linter.unusedSimpArgs false
set_option maxRecDepth 4000
namespace Go.Proofs.Ytmbgbffgkdcieaa.Tr
open Go Go.X Go.RowKit Go.Proofs.Ytmbgbffgkdcieaa.XF Go.Proofs.Ytmbgbffgkdcieaa.XK
theorem NEG_ok {P : Program} {w : World} {K : Value → World → Prop} {k : IntKind} {n : Int} : VK P (Op.unary .neg (.int k n)) w K = K (.int k (k.wrap (-n))) w := VK_eq_of (by simp [Op.unary, Op.intArith])
section
variable {i : Ins} {p b : Nat} {s s' : Rk} {V V0 : RkV} {w0 w w' : World} {ρ : Sl}
theorem do_ok (h0 : RkAt w p s V) (hk : s.Wk) (hop : (s.pg.tk i).2.2 = true) (hle : (s.pg.tk i).1 ≤ s.stack.length) (hC : i.op = 28 → CallC) : Rt Try.prog 17 #[.pointer (some ⟨p, 0, none⟩), .agg i.cells.toArray] w fun _ w' => DoP p w V (s.doV i) w' := by
  refine vm_Rank_do_calls ?_
  unfold vm_Rank_do_F
  refine box_k (cs := i.cells.toArray) rfl fun w1 hb1 hm1 hz1 => ?_
  have h : ∀ ρ : Sl, ρ 0 = .pointer (some ⟨p, 0, none⟩) → ρ 3 = .pointer (some ⟨w.heap.size, 0, none⟩) → ρ 11 = .int .u8 i.op → DC i p w.heap.size s V w w1 V ρ := fun ρ a b c => ⟨a, b, c, hb1, h0.calm hm1, Fr.calm hm1, Nat.le_refl _, fun q => Nat.lt_irrefl _ (h0.old _ q)⟩
  have hst := hk.st
  have h1 := h (fun k => if k = 0 then .pointer (some ⟨p, 0, none⟩) else if k = 3 then .pointer (some ⟨w.heap.size, 0, none⟩) else .int .u8 i.op) rfl rfl rfl
  have fin : ∀ {s' : Rk} {w' : World}, s.doV i = s' → DoP p w V s' w' → DoP p w V (s.doV i) w' := fun e q => by rw [e]; exact q
  rw [h1.op.e]
  refine caseI (fun q => ?_) (fun n1 => ?_)
  · refine condT ?_
    rw [h1.n.e]
    exact push_do h1.at_ h1.fr (by omega) _ fun w' q2 => fin (by unfold Rk.doV; simp [q]) q2
  refine condF ?_
  have rng : ∀ {m : Int}, inV i.n m = true → 0 ≤ i.n ∧ i.n < m := fun q => by unfold inV at q; simpa using q
  refine caseI (fun q => ?_) (fun n2 => ?_)
  · refine condT ?_
    have hr := rng (m := s.pg.vars) (by unfold Pg.tk at hop; simpa [q] using hop)
    rw [show s.doV i = s.push (s.vars.getD i.n.toNat 0) by unfold Rk.doV; simp [q]]
    exact do_R0 (h _ rfl rfl rfl) hk hr.1 (by rw [hk.vars]; exact hr.2)
  refine condF ?_
  refine caseI (fun q => ?_) (fun n3 => ?_)
  · refine condT ?_
    have hr := rng (m := s.pg.vars) (by unfold Pg.tk at hop; simpa [q] using hop)
    rw [(Rk.tk3 q).1] at hle
    rw [show s.doV i = { s.drop1 with vars := s.vars.set i.n.toNat s.top } by unfold Rk.doV; simp [q]]
    exact do_R1 (h _ rfl rfl rfl) hk hr.1 (by rw [hk.vars]; exact hr.2) (by omega)
  refine condF ?_
  refine caseI (fun q => ?_) (fun n4 => ?_)
  · refine condT ?_
    have hr := rng (m := s.pg.arrs.length) (by unfold Pg.tk at hop; simpa [q] using hop)
    rw [(Rk.tk4 q).1] at hle
    exact do_at (h _ rfl rfl rfl) hk hr.1 hr.2 (by omega) (by unfold Rk.doV; simp [q]; rfl)
  refine condF ?_
  refine caseI (fun q => ?_) (fun n5 => ?_)
  · refine condT ?_
    have hr := rng (m := s.pg.arrs.length) (by unfold Pg.tk at hop; simpa [q] using hop)
    rw [(Rk.tk5 q).1] at hle
    refine CK_st Try.func25 rfl rfl (pop_ok h1.at_ (by omega) (by omega)) ?_
    rintro _ w3 ⟨rfl, sl, r3, g3⟩
    have hl3 : s.drop1.stack.length = s.stack.length - 1 := by unfold Rk.drop1; rw [List.length_dropLast]
    exact do_put ((h _ rfl rfl rfl).next r3 g3 rfl rfl rfl) hk.drop1 hr.1 hr.2 (by omega) rfl (by unfold Rk.doV; simp [q]; rfl)
  refine condF ?_
  refine caseI (fun q => ?_) (fun n6 => ?_)
  · refine condT ?_
    rw [(Rk.tk6 q).1] at hle
    refine CK_st Try.func25 rfl rfl (pop_ok h1.at_ (by omega) (by omega)) ?_
    rintro _ w3 ⟨rfl, sl, r3, g3⟩
    have hs' : s.doV i = if 0 ≤ s.top ∧ s.top < s.drop1.last.row.length then s.drop1.push (s.drop1.last.row.getD s.top.toNat 0) else s.drop1.ends 4 2 := by unfold Rk.doV; simp [q]; rfl
    rw [BK_geq]
    by_cases c : 0 ≤ s.top
    · simp only [c, decide_true, ↓VG_u, ↓UG_u, ↓MG_u, ↓NG_u, ↓PG_u, ↓BG_u, ↓CG_u, ↓IG_u, ↓VGtt, ↓VGtf, ↓VGft, ↓VGff, ↓UGtt, ↓UGtf, ↓UGft, ↓UGff, ↓MGtt, ↓MGtf, ↓MGft, ↓MGff, ↓NGtt, ↓NGtf, ↓NGft, ↓NGff, ↓PGtt, ↓PGtf, ↓PGft, ↓PGff, ↓BGtt, ↓BGtf, ↓BGft, ↓BGff, ↓CGtt, ↓CGtf, ↓CGft, ↓CGff, ↓IGtt, ↓IGtf, ↓IGft, ↓IGff, ↓PKt, ↓PKf, ↓CDt, ↓CDf, ↓NOTt, ↓NOTf, ↓NK_ptr]
      rw [fo (show fieldOff Try.prog tR 8 = some 10 by kernel_rfl), add_pl]
      try simp only [↓VG_u, ↓UG_u, ↓MG_u, ↓NG_u, ↓PG_u, ↓BG_u, ↓CG_u, ↓IG_u, ↓VGtt, ↓VGtf, ↓VGft, ↓VGff, ↓UGtt, ↓UGtf, ↓UGft, ↓UGff, ↓MGtt, ↓MGtf, ↓MGft, ↓MGff, ↓NGtt, ↓NGtf, ↓NGft, ↓NGff, ↓PGtt, ↓PGtf, ↓PGft, ↓PGff, ↓BGtt, ↓BGtf, ↓BGft, ↓BGff, ↓CGtt, ↓CGtf, ↓CGft, ↓CGff, ↓IGtt, ↓IGtf, ↓IGft, ↓IGff, ↓PKt, ↓PKf, ↓CDt, ↓CDf, ↓NOTt, ↓NOTf, ↓NK_ptr]
      have f7 : FO Try.prog w3 54 7 7 ⟨p, 0 + 10, none⟩ 22 V.r := FO.mk' (by kernel_rfl) vNs rfl (by rw [add_pl, cell_blk r3.blk]; rfl)
      rw [f7.e]
      obtain ⟨AR, cR, eR, _⟩ := reads_cap r3.row
      have eR' : V.r = .slice AR s.drop1.last.row.length cR := eR
      try simp only [↓VG_u, ↓UG_u, ↓MG_u, ↓NG_u, ↓PG_u, ↓BG_u, ↓CG_u, ↓IG_u, ↓VGtt, ↓VGtf, ↓VGft, ↓VGff, ↓UGtt, ↓UGtf, ↓UGft, ↓UGff, ↓MGtt, ↓MGtf, ↓MGft, ↓MGff, ↓NGtt, ↓NGtf, ↓NGft, ↓NGff, ↓PGtt, ↓PGtf, ↓PGft, ↓PGff, ↓BGtt, ↓BGtf, ↓BGft, ↓BGff, ↓CGtt, ↓CGtf, ↓CGft, ↓CGff, ↓IGtt, ↓IGtf, ↓IGft, ↓IGff, ↓PKt, ↓PKf, ↓CDt, ↓CDf, ↓NOTt, ↓NOTf, ↓NK_ptr]
      rw [eR', len_sl vNs]
      try simp only [↓VG_u, ↓UG_u, ↓MG_u, ↓NG_u, ↓PG_u, ↓BG_u, ↓CG_u, ↓IG_u, ↓VGtt, ↓VGtf, ↓VGft, ↓VGff, ↓UGtt, ↓UGtf, ↓UGft, ↓UGff, ↓MGtt, ↓MGtf, ↓MGft, ↓MGff, ↓NGtt, ↓NGtf, ↓NGft, ↓NGff, ↓PGtt, ↓PGtf, ↓PGft, ↓PGff, ↓BGtt, ↓BGtf, ↓BGft, ↓BGff, ↓CGtt, ↓CGtf, ↓CGft, ↓CGff, ↓IGtt, ↓IGtf, ↓IGft, ↓IGff, ↓PKt, ↓PKf, ↓CDt, ↓CDf, ↓NOTt, ↓NOTf, ↓NK_ptr, ↓BK_lss]
      exact do_row ((h _ rfl rfl rfl).next r3 g3 rfl rfl rfl) hk.drop1 rfl rfl (by rw [decide_eq_decide]; simp [c]) hs'
    · simp only [c, decide_false, ↓VG_u, ↓UG_u, ↓MG_u, ↓NG_u, ↓PG_u, ↓BG_u, ↓CG_u, ↓IG_u, ↓VGtt, ↓VGtf, ↓VGft, ↓VGff, ↓UGtt, ↓UGtf, ↓UGft, ↓UGff, ↓MGtt, ↓MGtf, ↓MGft, ↓MGff, ↓NGtt, ↓NGtf, ↓NGft, ↓NGff, ↓PGtt, ↓PGtf, ↓PGft, ↓PGff, ↓BGtt, ↓BGtf, ↓BGft, ↓BGff, ↓CGtt, ↓CGtf, ↓CGft, ↓CGff, ↓IGtt, ↓IGtf, ↓IGft, ↓IGff, ↓PKt, ↓PKf, ↓CDt, ↓CDf, ↓NOTt, ↓NOTf, ↓NK_ptr]
      exact do_row ((h _ rfl rfl rfl).next r3 g3 rfl rfl rfl) hk.drop1 rfl rfl (by simp [c]) hs'
  refine condF ?_
  refine caseI (fun q => ?_) (fun n7 => ?_)
  · refine condT ?_
    have hr := rng (m := 10) (by unfold Pg.tk at hop; simpa [q] using hop)
    rw [h1.n.e]
    refine CK_st Try.func28 rfl rfl (word_ok h1.at_ hr.1 hr.2) ?_
    rintro _ w3 ⟨rfl, hm3⟩
    exact push_do (h1.at_.calm hm3) (h1.fr.trans (Fr.calm hm3)) (by omega) _ fun w' q2 => fin (by unfold Rk.doV; simp [q]) q2
  refine condF ?_
  refine caseI (fun q => ?_) (fun n8 => ?_)
  · refine condT ?_
    rw [(Rk.tk8 q).1] at hle
    refine CK_st Try.func25 rfl rfl (pop_ok h1.at_ (by omega) (by omega)) ?_
    rintro _ w3 ⟨rfl, sl, r3, g3⟩
    rw [NEG_ok]
    have := hk.drop1.st
    exact push_do r3 (h1.fr.trans g3) (by omega) _ fun w' q2 => fin (by unfold Rk.doV; simp [q]) q2
  refine condF ?_
  refine caseI (fun q => ?_) (fun n9 => ?_)
  · refine condT ?_
    rw [(Rk.tk9 q).1] at hle
    refine CK_st Try.func25 rfl rfl (pop_ok h1.at_ (by omega) (by omega)) ?_
    rintro _ w3 ⟨rfl, sl, r3, g3⟩
    rw [BK_eql]
    refine CK_st Try.func29 rfl rfl (truth_ok _ w3) ?_
    rintro _ w4 ⟨rfl, rfl⟩
    have := hk.drop1.st
    exact push_do r3 (h1.fr.trans g3) (by omega) _ fun w' q2 => fin (by unfold Rk.doV; simp [q]; rfl) q2
  refine condF ?_
  refine caseI (fun q => ?_) (fun n21 => ?_)
  · refine condT ?_
    rw [(Rk.tk21 q).1] at hle
    refine CK_st Try.func25 rfl rfl (pop_ok h1.at_ (by omega) (by omega)) ?_
    rintro _ w3 ⟨rfl, sl, r3, g3⟩
    rw [BK_neq]
    refine CK_st Try.func29 rfl rfl (truth_ok _ w3) ?_
    rintro _ w4 ⟨rfl, rfl⟩
    have := hk.drop1.st
    exact push_do r3 (h1.fr.trans g3) (by omega) _ fun w' q2 => fin (by unfold Rk.doV; simp [q]; rfl) q2
  refine condF ?_
  refine caseI (fun q => ?_) (fun n22 => ?_)
  · rw [vm_Rank_do_R10_eq]; unfold vm_Rank_do_R10_F
    refine condT ?_
    have e0 : ∀ {i : Nat} {l : List Value}, rho0 l i = l.getD i undef := rfl
    simp only [sq_n, sq_x, sq_r, bk_n, bk_r, bk_x, rt_r, rt_n, rs_0, rs_t, pk_1, pk_2, up_at, reduceIte, Nat.reduceEqDiff, e0, List.getD_cons_zero]
    rw [h1.n.e, NK_ptr]
    exact jump_do h1.at_ h1.fr i.n fun w' q2 => fin (by unfold Rk.doV; simp [q]) q2
  · rw [vm_Rank_do_R10_eq]; unfold vm_Rank_do_R10_F
    refine condF ?_
    refine caseI (fun q => ?_) (fun n23 => ?_)
    · refine condT ?_
      exact do_R11 (t := true) (h _ rfl rfl rfl) hk hop hle hC rfl (fun _ => .inl q) (fun z => by cases z) ⟨n1, n2, n3, n4, n5, n6, n7, n8, n9, n21, n22⟩ rfl
    refine condF ?_
    refine caseI (fun q => ?_) (fun n24 => ?_)
    · exact do_R11 (t := true) (h _ rfl rfl rfl) hk hop hle hC rfl (fun _ => .inr q) (fun z => by cases z) ⟨n1, n2, n3, n4, n5, n6, n7, n8, n9, n21, n22⟩ rfl
    exact do_R11 (t := false) (h _ rfl rfl rfl) hk hop hle hC rfl (fun z => by cases z) (fun _ => ⟨n23, n24⟩) ⟨n1, n2, n3, n4, n5, n6, n7, n8, n9, n21, n22⟩ rfl
end
end Go.Proofs.Ytmbgbffgkdcieaa.Tr
set_option linter.unusedVariables false
set_option linter.unusedSimpArgs false
set_option maxRecDepth 4000
namespace Go.Proofs.Ytmbgbffgkdcieaa.Tr
open Go Go.X Go.RowKit Go.Proofs.Ytmbgbffgkdcieaa.XF Go.Proofs.Ytmbgbffgkdcieaa.XK
def outC (s : Rk) (q : Value) : List Value := [.int .u8 s.kind] ++ clC s.call q ++ [.int .u8 s.fault]
def zOut : List Value := [Value.int .u8 0] ++ clC zCl (.slice none 0 0) ++ [Value.int .u8 0]
def ToldP (s : Rk) (w : World) (v : Value) (w' : World) : Prop := ∃ q', v = .agg (outC s q').toArray ∧ q'.oneCell' = true ∧ reads w' 1 q' s.call.reqs.length (i64s s.call.reqs) ∧ (∀ k, q'.ownBlock = some k → w.heap.size ≤ k) ∧ Mod none_ w w'
theorem zO : (Try.prog.info? 38).bind (·.zero) = some (.agg zOut.toArray) := by kernel_rfl
theorem iO : (Try.prog.info? 38).map (·.size) = some 13 := by kernel_rfl
section
variable {w : World} {p : Nat} {s : Rk} {V : RkV}
theorem told_ok (h : RkAt w p s V) (hq : s.call.reqs.length ≤ 8) : Rt Try.prog 18 #[.pointer (some ⟨p, 0, none⟩)] w (ToldP s w) := by
  refine vm_Rank_told_calls ?_
  unfold vm_Rank_told_F
  refine al_k (cs := zOut.toArray) zO rfl _ fun w1 hb1 hm1 hz1 => ?_
  have h1 := h.calm hm1
  rw [NK_ptr, fo (show fieldOff Try.prog tR 9 = some 18 by kernel_rfl), add_pl]
  refine ldA (cs := outC s V.q) Try.underlying38 rfl (by rw [iO]; rfl) (fun j v hj => ?_) ?_
  · rw [add_pl, cell_blk h1.blk, List.getElem?_toArray]
    have hlt : j < 13 := (List.getElem?_eq_some_iff.1 hj).1
    rcases j with _ | _ | _ | _ | _ | _ | _ | _ | _ | _ | _ | _ | _ | j
    all_goals first | exact hj | omega
  refine al_k (cs := zOut.toArray) zO rfl _ fun w2 hb2 hm2 hz2 => ?_
  obtain ⟨A, c, eq, _⟩ := reads_cap h.reqs
  refine stS (cs := (outC s V.q).toArray) (old := zOut.toArray) rfl rfl (by rw [iO]; rfl) rfl (by rw [eq]; simp [outC, clC, Value.oneCell']) hb2 fun w3 hb3 hm3 hz3 => ?_
  have hm03 : Mod none_ w w3 := (hm1.trans hm2).then hm3 fun i hi q => by have := hm1.size; omega
  rw [fo (show fieldOff Try.prog 38 1 = some 1 by kernel_rfl), add_pl]
  have f8 : FO Try.prog w3 36 8 8 ⟨w1.heap.size, 0 + 1, none⟩ 26 V.q := FO.mk' (by kernel_rfl) vIs rfl (by rw [add_pl, cell_blk hb3]; rfl)
  rw [f8.e]
  refine CK_st Try.func23 rfl rfl (cloneI_ok (h.calm hm03).reqs (by omega)) ?_
  rintro q' w4 ⟨ho4, hm4⟩
  rw [fo (show fieldOff Try.prog 38 1 = some 1 by kernel_rfl), add_pl, fo (show fieldOff Try.prog 36 8 = some 8 by kernel_rfl), add_pl]
  refine stC (o := 9) rfl (by kernel_rfl) (owns_oc ho4) (hm4.blk hb3 id) (by show 9 < 13; omega) fun w5 hb5 hm5 hz5 => ?_
  have e5 : (outC s V.q).toArray.setIfInBounds 9 q' = (outC s q').toArray := rfl
  rw [e5] at hb5
  refine ldB Try.underlying38 rfl (by rw [iO]; rfl) hb5 ?_
  have s1 := hm1.size
  have hb15 : w5.heap[w.heap.size]? = some (.cells zOut.toArray 38 (0, 0)) := hm5.blk (hm4.blk (hm3.blk (hm2.blk hb1 id) (by omega)) id) (by omega)
  have oq := owns_oc ho4
  obtain ⟨A4, c4, eq4, _⟩ := reads_cap (reads_of_owns ho4)
  refine stS (cs := (outC s q').toArray) (old := zOut.toArray) rfl rfl (by rw [iO]; rfl) rfl (by rw [eq4]; simp [outC, clC, Value.oneCell']) hb15 fun w6 hb6 hm6 hz6 => ?_
  have s3 := hm03.size
  have nq : ∀ k, q'.ownBlock = some k → w3.heap.size ≤ k := fun k q => owns_new_ge ho4 q
  refine rsCell (R := ToldP s w) rfl Try.underlying38 rfl (by rw [iO]; rfl) hb6 ⟨q', rfl, oq, reads_mod (reads_mod (reads_of_owns ho4) hm5 fun k _ q z => ?_) hm6 fun k _ q z => ?_, fun k q => ?_, ((hm03.trans hm4).then hm5 fun i hi q => by omega).then hm6 fun i hi q => by omega⟩
  · have := nq k q; omega
  · have := nq k q; omega
  · have := nq k q; omega
end
end Go.Proofs.Ytmbgbffgkdcieaa.Tr
set_option linter.unusedVariables false
set_option linter.unusedSimpArgs false
set_option maxRecDepth 4000
namespace Go.Proofs.Ytmbgbffgkdcieaa.Tr
open Go Go.X Go.RowKit Go.Proofs.Ytmbgbffgkdcieaa.XF Go.Proofs.Ytmbgbffgkdcieaa.XK
theorem HixIns {S : World → Prop} {s : Value} {l : List Ins} {i : Nat} {e : Ins} {K : Value → Prop} {w0 : World} (hw0 : S w0) (h : ∀ w, S w → InsRow w s l) (hi : l[i]? = some e) (hk : ∀ a, (∀ w, S w → ∀ j u, e.cells[j]? = some u → w.cell? (a.add j) = some u) → K (.pointer (some a))) :
    HK Try.prog S (do pure (Next.value (← Instr.indexAt 25 s (.int .i64 (i : Int))))) K := by
  have hlt : i < l.length := (List.getElem?_eq_some_iff.1 hi).1
  obtain ⟨hl, A, c, hs, hc, hr⟩ := (h w0 hw0).1
  obtain ⟨a, ha | q⟩ := rd_cell (size := 2) (hs ▸ (h w0 hw0).1) hlt
  · subst ha
    subst hs
    refine HV_of (fun w _ => run_ixa vCs cC (by omega) (by omega) w) (hk _ fun w hw j u hu => ?_)
    obtain ⟨_, A', c', hs', _, hr'⟩ := (h w hw).1
    cases hs'
    have hj : j < 1 + 1 := (List.getElem?_eq_some_iff.1 hu).1
    obtain ⟨a', ha', hcell⟩ := hr' (i * 2 + j) u (by rw [fl_get (k := 1 + 1) Ins.cells_len hi hj]; exact hu)
    cases ha'
    rw [add_add, show ((i : Int).toNat) = i by omega]
    exact hcell
  · omega
theorem zIns_z : (Try.prog.info? 30).bind (·.zero) = some (.agg zIns.cells.toArray) := by kernel_rfl
def RunP (p : Nat) (w : World) (V : RkV) (r : Rk × Nat) (v : Value) (w' : World) : Prop := ∃ q' V', v = .tuple #[.agg (outC r.1 q').toArray, .int .i64 (r.2 : Int)] ∧ q'.oneCell' = true ∧ reads w' 1 q' r.1.call.reqs.length (i64s r.1.call.reqs) ∧ (∀ k, q'.ownBlock = some k → w.heap.size ≤ k) ∧ RkAt w' p r.1 V' ∧ Fr p w V w' V'
section
variable {w : World} {p : Nat} {s : Rk} {V : RkV}
theorem Run_ok (h : RkAt w p s V) {H : List Int} (hI : s.Inv H) (hC : ∀ i ∈ s.pg.code, i.op = 28 → CallC) {steps : Int} (hst : steps < 9223372036854775807) : Rt Try.prog 7 #[.pointer (some ⟨p, 0, none⟩), .int .i64 steps] w (RunP p w V (Rk.run steps.toNat s)) := by
  refine vm_Rank_Run_calls ?_
  unfold vm_Rank_Run_F
  have hl := whole_len (heights_hts hI.hts).1
  refine al_k (cs := zOut.toArray) zO rfl _ fun w1 hb1 hm1 hz1 => ?_
  have h1 := h.calm hm1
  refine CK_st Try.func16 rfl rfl (none_ok h1 hl.1) ?_
  rintro _ w2 ⟨rfl, rfl⟩
  refine condF ?_
  have hx4F : ¬ V.F p w.heap.size := fun q => Nat.lt_irrefl _ (h.old _ (.inl q))
  have hx4G : ¬ V.G p w.heap.size := fun q => Nat.lt_irrefl _ (h.old _ q)
  refine W_loop vm_Rank_Run_L0_ok (fun ρ wL => ∃ (k : Nat) (V' : RkV), (Rk.run k s).2 = k ∧ (k : Int) ≤ max steps 0 ∧ RkAt wL p (Rk.run k s).1 V' ∧ Fr p w2 V wL V' ∧ ρ 6 = .int .i64 k ∧ ρ 0 = .pointer (some ⟨p, 0, none⟩) ∧ ρ 1 = .int .i64 steps ∧ ρ 4 = .pointer (some ⟨w.heap.size, 0, none⟩)) (fun ρ _ => steps.toNat - (intOf (ρ 6)).toNat)
    ⟨0, V, rfl, by omega, h1, Fr.refl _ _ _, rfl, rfl, rfl, rfl⟩ ?_
  rintro ρ wL ⟨k, V', hk, hks, hL, fL, e6, e0, e1, e4⟩
  rw [vm_Rank_Run_L0_eq]; unfold vm_Rank_Run_L0_F
  have hIk := Rk.Inv.run k hI
  have hpg := Rk.Inv.run_pg k hI
  generalize hsk : (Rk.run k s).1 = sk at *
  rw [e0, e6, e1, NK_ptr, fo (show fieldOff Try.prog tR 9 = some 18 by kernel_rfl), add_pl]
  have fk : FO Try.prog wL 38 0 0 ⟨p, 0 + 18, none⟩ 5 (.int .u8 sk.kind) := FO.mk' (by kernel_rfl) vU8 rfl (by rw [add_pl, cell_blk hL.blk]; rfl)
  rw [fk.e, BK_eql]
  have hkn : k ≤ steps.toNat := by omega
  have hrk : Rk.run k s = (sk, k) := by rw [← hsk]; exact Prod.ext rfl hk
  have stop : (sk.kind ≠ 0 ∨ steps ≤ k) → Rk.run steps.toNat s = (sk, k) := fun q => by
    rcases q with q | q
    · have := Rk.run_end k (steps.toNat - k) s (by rw [hsk]; exact q)
      rw [show k + (steps.toNat - k) = steps.toNat by omega] at this
      rw [this, hrk]
    · rw [show steps.toNat = k by omega, hrk]
  have out : ∀ (ρ' : Sl), ρ' 0 = .pointer (some ⟨p, 0, none⟩) → ρ' 4 = .pointer (some ⟨w.heap.size, 0, none⟩) → ρ' 6 = .int .i64 k → Rk.run steps.toNat s = (sk, k) →
      sx fn_ Try.prog 48 vm_Rank_Run_R1 (retK Try.prog [ResultVar.cell 4 38, ResultVar.tmp 5] (RunP p w V (Rk.run steps.toNat s))) ρ' wL := by
    intro ρ' q0 q4 q6 hr
    rw [vm_Rank_Run_R1_eq]; unfold vm_Rank_Run_R1_F
    rw [q0, q4, q6]
    refine CK_st Try.func18 rfl rfl (told_ok hL hIk.reqs) ?_
    rintro _ w3 ⟨q', rfl, oc, rq, nq, hm3⟩
    obtain ⟨A, c, eq, _⟩ := reads_cap rq
    have hz1' := fL.mod.size
    have hbL : wL.heap[w.heap.size]? = some (.cells zOut.toArray 38 (0, 0)) := fL.mod.blk hb1 hx4F
    refine stS (cs := (outC sk q').toArray) (old := zOut.toArray) rfl rfl (by rw [iO]; rfl) rfl (by rw [eq]; simp [outC, clC, Value.oneCell']) (hm3.blk hbL id) fun w4 hb4 hm4 hz4 => ?_
    show ∃ v, (do loadVar 38 (← asAddr (ρ' 4)) : Sem Value).run Try.prog w4 = .ok v w4 ∧ RunP p w V (Rk.run steps.toNat s) (.tuple #[v, .int .i64 (k : Int)]) w4
    rw [q4, hr]
    refine ⟨_, res_ld (run_ldB Try.underlying38 rfl (by rw [iO]; rfl) hb4), q', V', rfl, oc, reads_mod rq hm4 fun k _ q z => ?_, fun k q => ?_, ?_, ?_⟩
    · have := nq k q; omega
    · have := nq k q; omega
    · have hg : ∀ b, V'.G p b → b ≠ w.heap.size := fun b q z => by
        rcases fL.g b q with y | y
        · exact hx4G (z ▸ y)
        · omega
      exact (hL.calm hm3).mod hm4 fun b q z => hg b q z
    · have fL' : Fr p w V wL V' := (Fr.calm hm1).trans fL
      exact ⟨(fL'.mod.then hm3 fun i hi q => q.elim).then hm4 fun i hi q => by omega, fL'.f, fL'.g⟩
  by_cases c0 : sk.kind = 0
  case neg =>
    simp only [beq_eq_false_iff_ne.2 c0, ↓VG_u, ↓UG_u, ↓MG_u, ↓NG_u, ↓PG_u, ↓BG_u, ↓CG_u, ↓IG_u, ↓VGtt, ↓VGtf, ↓VGft, ↓VGff, ↓UGtt, ↓UGtf, ↓UGft, ↓UGff, ↓MGtt, ↓MGtf, ↓MGft, ↓MGff, ↓NGtt, ↓NGtf, ↓NGft, ↓NGff, ↓PGtt, ↓PGtf, ↓PGft, ↓PGff, ↓BGtt, ↓BGtf, ↓BGft, ↓BGff, ↓CGtt, ↓CGtf, ↓CGft, ↓CGff, ↓IGtt, ↓IGtf, ↓IGft, ↓IGff, ↓PKt, ↓PKf, ↓CDt, ↓CDf, ↓NOTt, ↓NOTf, ↓NK_ptr]
    rw [sq_x, bk_x, sq_n]
    exact out _ e0 e4 e6 (stop (.inl c0))
  simp only [beq_iff_eq.2 c0, ↓VG_u, ↓UG_u, ↓MG_u, ↓NG_u, ↓PG_u, ↓BG_u, ↓CG_u, ↓IG_u, ↓VGtt, ↓VGtf, ↓VGft, ↓VGff, ↓UGtt, ↓UGtf, ↓UGft, ↓UGff, ↓MGtt, ↓MGtf, ↓MGft, ↓MGff, ↓NGtt, ↓NGtf, ↓NGft, ↓NGff, ↓PGtt, ↓PGtf, ↓PGft, ↓PGff, ↓BGtt, ↓BGtf, ↓BGft, ↓BGff, ↓CGtt, ↓CGtf, ↓CGft, ↓CGff, ↓IGtt, ↓IGtf, ↓IGft, ↓IGff, ↓PKt, ↓PKf, ↓CDt, ↓CDf, ↓NOTt, ↓NOTf, ↓NK_ptr, ↓BK_lss]
  by_cases c1 : (k : Int) < steps
  case neg =>
    simp only [c1, decide_false, ↓VG_u, ↓UG_u, ↓MG_u, ↓NG_u, ↓PG_u, ↓BG_u, ↓CG_u, ↓IG_u, ↓VGtt, ↓VGtf, ↓VGft, ↓VGff, ↓UGtt, ↓UGtf, ↓UGft, ↓UGff, ↓MGtt, ↓MGtf, ↓MGft, ↓MGff, ↓NGtt, ↓NGtf, ↓NGft, ↓NGff, ↓PGtt, ↓PGtf, ↓PGft, ↓PGff, ↓BGtt, ↓BGtf, ↓BGft, ↓BGff, ↓CGtt, ↓CGtf, ↓CGft, ↓CGff, ↓IGtt, ↓IGtf, ↓IGft, ↓IGff, ↓PKt, ↓PKf, ↓CDt, ↓CDf, ↓NOTt, ↓NOTf, ↓NK_ptr]
    rw [sq_x, bk_x, sq_n]
    exact out _ e0 e4 e6 (stop (.inr (by omega)))
  simp only [c1, decide_true, ↓VG_u, ↓UG_u, ↓MG_u, ↓NG_u, ↓PG_u, ↓BG_u, ↓CG_u, ↓IG_u, ↓VGtt, ↓VGtf, ↓VGft, ↓VGff, ↓UGtt, ↓UGtf, ↓UGft, ↓UGff, ↓MGtt, ↓MGtf, ↓MGft, ↓MGff, ↓NGtt, ↓NGtf, ↓NGft, ↓NGff, ↓PGtt, ↓PGtf, ↓PGft, ↓PGff, ↓BGtt, ↓BGtf, ↓BGft, ↓BGff, ↓CGtt, ↓CGtf, ↓CGft, ↓CGff, ↓IGtt, ↓IGtf, ↓IGft, ↓IGff, ↓PKt, ↓PKf, ↓CDt, ↓CDf, ↓NOTt, ↓NOTf, ↓NK_ptr]
  obtain ⟨d1, d2, d3, d4, d5⟩ := hIk.done c0
  rw [hpg] at d1 d2 d3
  have hip : s.pg.code[sk.at_.toNat]? = some (s.pg.code.getD sk.at_.toNat zIns) := by rw [List.getD_eq_getElem?_getD, List.getElem?_eq_getElem d3]; rfl
  generalize hie : s.pg.code.getD sk.at_.toNat zIns = i at *
  have hrow : InsRow wL V'.c s.pg.code := by have := code_row hL; rw [hpg] at this; exact this
  refine vm_Rank_Run_R2_held (D := []) (fun w' => Mod none_ wL w') ((Mod.refl _ wL).drawn _) ?_
  have hmd : Mod none_ wL { wL with drawn := wL.drawn + 1 } := (Mod.refl _ wL).drawn _
  generalize ({ wL with drawn := wL.drawn + 1 } : World) = wd at *
  unfold vm_Rank_Run_R2_H
  simp only [sq_n, sq_x, sq_r, bk_n, bk_r, bk_x, rt_r, rt_n, rs_0, rs_t, pk_1, pk_2, up_at, reduceIte, Nat.reduceEqDiff, e0]
  have ea : (⟨p, 0, none⟩ : Addr).add 0 = ⟨p, 0, none⟩ := by rw [add_pl]
  refine HN_ptr ?_
  refine HV_of (v := .pointer (some ⟨p, 0, none⟩)) (fun w' _ => by rw [run_fo (off := 0) (by kernel_rfl), ea]) ?_
  refine HV_of (v := .pointer (some ⟨p, 0, none⟩)) (fun w' _ => by rw [run_fo (off := 0) (by kernel_rfl), ea]) ?_
  refine HV_of (v := V'.c) (fun w' hw => run_ld1 vCs rfl (by rw [cell_blk (hL.calm hw).blk]; rfl)) ?_
  refine HN_ptr ?_
  refine HV_of (v := .pointer (some (Addr.add ⟨p, 0, none⟩ 5))) (fun w' _ => run_fo (by kernel_rfl) _ w') ?_
  refine HV_of (v := .int .i64 sk.at_) (fun w' hw => run_ld1 vI rfl (by rw [add_pl, cell_blk (hL.calm hw).blk]; rfl)) ?_
  rw [show sk.at_ = ((sk.at_.toNat : Nat) : Int) by omega]
  refine HixIns (w0 := wL) (Mod.refl _ _) (fun w' hw => hrow.mod hw) hip fun ad had => ?_
  refine HV_of (v := .agg i.cells.toArray) (fun w' hw => run_ldA (cs := i.cells) Try.underlying30 rfl (by kernel_rfl) (had w' hw)) ?_
  refine al_k (cs := zIns.cells.toArray) zIns_z rfl _ fun w3 hb3 hm3 hz3 => ?_
  refine ⟨hmd.trans hm3, ?_⟩
  refine stS (cs := i.cells.toArray) (old := zIns.cells.toArray) rfl rfl (by kernel_rfl) rfl (by simp [Ins.cells, Value.oneCell']) hb3 fun w4 hb4 hm4 hz4 => ?_
  have hszd := hmd.size
  have hm04 : Mod none_ wL w4 := (hmd.trans hm3).then hm4 fun j hj q => by omega
  refine ⟨hm04, ?_⟩
  have h4 := hL.calm hm04
  rw [vm_Rank_Run_R3_eq]; unfold vm_Rank_Run_R3_F
  simp only [sq_n, sq_x, sq_r, bk_n, bk_r, bk_x, rt_r, rt_n, rs_0, rs_t, pk_1, pk_2, up_at, reduceIte, Nat.reduceEqDiff, e0, e6]
  rw [NK_ptr, (f_at h4).e, BK_add, wrap_i (n := sk.at_ + 1) (by omega) (by omega), NK_ptr, fo (show fieldOff Try.prog tR 3 = some 5 by kernel_rfl)]
  refine stC (o := 5) (by rw [add_pl]) (by kernel_rfl) rfl h4.blk (by show 5 < 31; omega) fun w5 hb5 hm5 hz5 => ?_
  obtain ⟨r5, g5⟩ := RkAt.put (s' := { sk with at_ := sk.at_ + 1 }) h4 hm5 hb5 rfl rfl rfl rfl rfl rfl rfl
  rw [BK_add, wrap_i (n := (k : Int) + 1) (by omega) (by omega)]
  have hplt : p < wL.heap.size := hL.old p (.inl (.inl rfl))
  refine ldB Try.underlying30 rfl (by kernel_rfl) (hm5.blk hb4 (by omega)) ?_
  refine CK_st Try.func17 rfl rfl (do_ok r5 (hIk.wk.at1 _) (by show (sk.pg.tk i).2.2 = true; rw [hpg]; exact d1) (by show (sk.pg.tk i).1 ≤ _; rw [hpg]; exact d2) (hC i (List.mem_of_getElem? hip))) ?_
  rintro _ w6 ⟨V6, r6, g6⟩
  have hstep : Rk.run (k + 1) s = (sk.step, k + 1) := by rw [Rk.run_snoc k s hk (by rw [hsk]; exact c0), hsk]
  have es : sk.step = Rk.doV { sk with at_ := sk.at_ + 1 } i := by unfold Rk.step; rw [hpg, hie]
  refine ⟨⟨k + 1, V6, by rw [hstep], by omega, ?_, ((fL.trans (Fr.calm hm04)).trans g5).trans g6, rfl, by trivial, e1, e4⟩, ?_⟩
  · rw [hstep, es]; exact r6
  · simp only [sq_n, sq_x, sq_r, bk_n, bk_r, bk_x, rt_r, rt_n, rs_0, rs_t, pk_1, pk_2, up_at, reduceIte, Nat.reduceEqDiff, intOf]; omega
end
end Go.Proofs.Ytmbgbffgkdcieaa.Tr
set_option linter.unusedVariables false
set_option linter.unusedSimpArgs false
set_option maxRecDepth 4000
namespace Go.Proofs.Ytmbgbffgkdcieaa.Tr
open Go Go.X Go.RowKit Go.Proofs.Ytmbgbffgkdcieaa.XF Go.Proofs.Ytmbgbffgkdcieaa.XK
section
variable {w : World} {p : Nat} {s : Rk} {V : RkV}
theorem Var_ok (h : RkAt w p s V) (hl : 0 < s.pg.code.length) (slot : Int) : Rt Try.prog 11 #[.pointer (some ⟨p, 0, none⟩), .int .i64 slot] w fun v w' => v = .int .i64 (if 0 ≤ slot ∧ slot < s.vars.length then s.vars.getD slot.toNat 0 else 0) ∧ w' = w := by
  refine vm_Rank_Var_calls ?_
  unfold vm_Rank_Var_F
  refine CK_st Try.func16 rfl rfl (none_ok h hl) ?_
  rintro _ w' ⟨rfl, rfl⟩
  obtain ⟨A, c, eV, _⟩ := reads_cap (reads_of_owns h.vars)
  simp only [↓VG_u, ↓UG_u, ↓MG_u, ↓NG_u, ↓PG_u, ↓BG_u, ↓CG_u, ↓IG_u, ↓VGtt, ↓VGtf, ↓VGft, ↓VGff, ↓UGtt, ↓UGtf, ↓UGft, ↓UGff, ↓MGtt, ↓MGtf, ↓MGft, ↓MGff, ↓NGtt, ↓NGtf, ↓NGft, ↓NGff, ↓PGtt, ↓PGtf, ↓PGft, ↓PGff, ↓BGtt, ↓BGtf, ↓BGft, ↓BGff, ↓CGtt, ↓CGtf, ↓CGft, ↓CGff, ↓IGtt, ↓IGtf, ↓IGft, ↓IGff, ↓PKt, ↓PKf, ↓CDt, ↓CDf, ↓NOTt, ↓NOTf, ↓NK_ptr, ↓BK_lss]
  by_cases c1 : slot < 0
  · simp only [c1, decide_true, ↓VG_u, ↓UG_u, ↓MG_u, ↓NG_u, ↓PG_u, ↓BG_u, ↓CG_u, ↓IG_u, ↓VGtt, ↓VGtf, ↓VGft, ↓VGff, ↓UGtt, ↓UGtf, ↓UGft, ↓UGff, ↓MGtt, ↓MGtf, ↓MGft, ↓MGff, ↓NGtt, ↓NGtf, ↓NGft, ↓NGff, ↓PGtt, ↓PGtf, ↓PGft, ↓PGff, ↓BGtt, ↓BGtf, ↓BGft, ↓BGff, ↓CGtt, ↓CGtf, ↓CGft, ↓CGff, ↓IGtt, ↓IGtf, ↓IGft, ↓IGff, ↓PKt, ↓PKf, ↓CDt, ↓CDf, ↓NOTt, ↓NOTf, ↓NK_ptr]
    exact ⟨by rw [if_neg (by omega)], by trivial⟩
  simp only [c1, decide_false, ↓VG_u, ↓UG_u, ↓MG_u, ↓NG_u, ↓PG_u, ↓BG_u, ↓CG_u, ↓IG_u, ↓VGtt, ↓VGtf, ↓VGft, ↓VGff, ↓UGtt, ↓UGtf, ↓UGft, ↓UGff, ↓MGtt, ↓MGtf, ↓MGft, ↓MGff, ↓NGtt, ↓NGtf, ↓NGft, ↓NGff, ↓PGtt, ↓PGtf, ↓PGft, ↓PGff, ↓BGtt, ↓BGtf, ↓BGft, ↓BGff, ↓CGtt, ↓CGtf, ↓CGft, ↓CGff, ↓IGtt, ↓IGtf, ↓IGft, ↓IGff, ↓PKt, ↓PKf, ↓CDt, ↓CDf, ↓NOTt, ↓NOTf, ↓NK_ptr]
  rw [(f_vs h).e, eV]
  try simp only [↓VG_u, ↓UG_u, ↓MG_u, ↓NG_u, ↓PG_u, ↓BG_u, ↓CG_u, ↓IG_u, ↓VGtt, ↓VGtf, ↓VGft, ↓VGff, ↓UGtt, ↓UGtf, ↓UGft, ↓UGff, ↓MGtt, ↓MGtf, ↓MGft, ↓MGff, ↓NGtt, ↓NGtf, ↓NGft, ↓NGff, ↓PGtt, ↓PGtf, ↓PGft, ↓PGff, ↓BGtt, ↓BGtf, ↓BGft, ↓BGff, ↓CGtt, ↓CGtf, ↓CGft, ↓CGff, ↓IGtt, ↓IGtf, ↓IGft, ↓IGff, ↓PKt, ↓PKf, ↓CDt, ↓CDf, ↓NOTt, ↓NOTf, ↓NK_ptr]
  rw [len_sl vNs]
  simp only [↓VG_u, ↓UG_u, ↓MG_u, ↓NG_u, ↓PG_u, ↓BG_u, ↓CG_u, ↓IG_u, ↓VGtt, ↓VGtf, ↓VGft, ↓VGff, ↓UGtt, ↓UGtf, ↓UGft, ↓UGff, ↓MGtt, ↓MGtf, ↓MGft, ↓MGff, ↓NGtt, ↓NGtf, ↓NGft, ↓NGff, ↓PGtt, ↓PGtf, ↓PGft, ↓PGff, ↓BGtt, ↓BGtf, ↓BGft, ↓BGff, ↓CGtt, ↓CGtf, ↓CGft, ↓CGff, ↓IGtt, ↓IGtf, ↓IGft, ↓IGff, ↓PKt, ↓PKf, ↓CDt, ↓CDf, ↓NOTt, ↓NOTf, ↓NK_ptr, ↓BK_geq]
  by_cases c2 : (s.vars.length : Int) ≤ slot
  · simp only [c2, decide_true, ↓VG_u, ↓UG_u, ↓MG_u, ↓NG_u, ↓PG_u, ↓BG_u, ↓CG_u, ↓IG_u, ↓VGtt, ↓VGtf, ↓VGft, ↓VGff, ↓UGtt, ↓UGtf, ↓UGft, ↓UGff, ↓MGtt, ↓MGtf, ↓MGft, ↓MGff, ↓NGtt, ↓NGtf, ↓NGft, ↓NGff, ↓PGtt, ↓PGtf, ↓PGft, ↓PGff, ↓BGtt, ↓BGtf, ↓BGft, ↓BGff, ↓CGtt, ↓CGtf, ↓CGft, ↓CGff, ↓IGtt, ↓IGtf, ↓IGft, ↓IGff, ↓PKt, ↓PKf, ↓CDt, ↓CDf, ↓NOTt, ↓NOTf, ↓NK_ptr]
    exact ⟨by rw [if_neg (by omega)], by trivial⟩
  simp only [c2, decide_false, ↓VG_u, ↓UG_u, ↓MG_u, ↓NG_u, ↓PG_u, ↓BG_u, ↓CG_u, ↓IG_u, ↓VGtt, ↓VGtf, ↓VGft, ↓VGff, ↓UGtt, ↓UGtf, ↓UGft, ↓UGff, ↓MGtt, ↓MGtf, ↓MGft, ↓MGff, ↓NGtt, ↓NGtf, ↓NGft, ↓NGff, ↓PGtt, ↓PGtf, ↓PGft, ↓PGff, ↓BGtt, ↓BGtf, ↓BGft, ↓BGff, ↓CGtt, ↓CGtf, ↓CGft, ↓CGff, ↓IGtt, ↓IGtf, ↓IGft, ↓IGff, ↓PKt, ↓PKf, ↓CDt, ↓CDf, ↓NOTt, ↓NOTf, ↓NK_ptr]
  rw [(f_vs h).e]
  refine ixld vNs cN vN rfl (reads_of_owns h.vars) (by omega) (i64s_get (getD_some (l := s.vars) (i := slot.toNat) (by omega))) fun y => ?_
  exact ⟨by rw [if_pos (by omega)], rfl⟩
end
theorem truthR_ok (b : Bool) (w : World) : Rt Try.prog 20 #[.bool b] w fun v w' => v = .int .i64 (truV b) ∧ w' = w := by
  refine dispatcherref07_truth_calls ?_
  unfold dispatcherref07_truth_F
  cases b <;> simp only [CDt, CDf] <;> exact ⟨by trivial, by trivial⟩
abbrev TwP (op a b : Int) (w : World) : Value → World → Prop := fun v w' => v = (if b = 0 ∧ (op = 11 ∨ op = 12) then .tuple #[.int .i64 0, .int .u8 1] else .tuple #[.int .i64 (twoV op a b), .int .u8 0]) ∧ w' = w
abbrev TwK (op a b : Int) (w : World) : Exit → Sl → World → Prop := retK Try.prog [ResultVar.tmp 6, ResultVar.tmp 7] (TwP op a b w)
theorem TwoR_R0 {op a b : Int} {w : World} {ρ : Sl} {t : Bool} (g0 : ρ 0 = .int .u8 op) (g9 : ρ 9 = .int .u8 op) (g1 : ρ 1 = .int .i64 a) (g2 : ρ 2 = .int .i64 b) (g8 : ρ 8 = .int .i64 (-9223372036854775808)) (g15 : ρ 15 = .bool t) (ht : t = true → op = 11 ∨ op = 12) (hf : t = false → 13 ≤ op ∧ op ≤ 20) :
    sx fn_ Try.prog 82 dispatcherref07_Two_R0 (blkK 0 (seqK (sx fn_ Try.prog 82 dispatcherref07_Two_R1 (TwK op a b w)) (TwK op a b w))) ρ w := by
  rw [dispatcherref07_Two_R0_eq]; unfold dispatcherref07_Two_R0_F
  rw [g15, g0, g1, g2, g8, g9]
  cases t with
  | true =>
    have hop := ht rfl
    refine condT ?_
    refine caseI (fun q => ?_) (fun n0 => ?_)
    · refine condT ?_
      exact ⟨by rw [if_pos ⟨q, hop⟩]; rfl, rfl⟩
    refine condF ?_
    have hcond : ¬ (b = 0 ∧ (op = 11 ∨ op = 12)) := fun z => n0 z.1
    by_cases c1 : a = -9223372036854775808 ∧ b = -1
    · simp only [↓VG_u, ↓UG_u, ↓MG_u, ↓NG_u, ↓PG_u, ↓BG_u, ↓CG_u, ↓IG_u, ↓VGtt, ↓VGtf, ↓VGft, ↓VGff, ↓UGtt, ↓UGtf, ↓UGft, ↓UGff, ↓MGtt, ↓MGtf, ↓MGft, ↓MGff, ↓NGtt, ↓NGtf, ↓NGft, ↓NGff, ↓PGtt, ↓PGtf, ↓PGft, ↓PGff, ↓BGtt, ↓BGtf, ↓BGft, ↓BGff, ↓CGtt, ↓CGtf, ↓CGft, ↓CGff, ↓IGtt, ↓IGtf, ↓IGft, ↓IGff, ↓PKt, ↓PKf, ↓CDt, ↓CDf, ↓NOTt, ↓NOTf, ↓NK_ptr, ↓EQt c1.1, ↓EQt c1.2]
      refine caseI (fun q => ?_) (fun q => ?_)
      · refine condT ?_
        refine ⟨?_, rfl⟩
        rw [if_neg hcond, q, show twoV 11 a b = a by unfold twoV; simp [c1], c1.1]; rfl
      · refine condF ?_
        refine ⟨?_, rfl⟩
        have q12 : op = 12 := by omega
        rw [if_neg hcond, q12, show twoV 12 a b = 0 by unfold twoV; simp [c1]]; rfl
    · by_cases d : a = -9223372036854775808
      · have d2 : b ≠ -1 := fun z => c1 ⟨d, z⟩
        simp only [↓VG_u, ↓UG_u, ↓MG_u, ↓NG_u, ↓PG_u, ↓BG_u, ↓CG_u, ↓IG_u, ↓VGtt, ↓VGtf, ↓VGft, ↓VGff, ↓UGtt, ↓UGtf, ↓UGft, ↓UGff, ↓MGtt, ↓MGtf, ↓MGft, ↓MGff, ↓NGtt, ↓NGtf, ↓NGft, ↓NGff, ↓PGtt, ↓PGtf, ↓PGft, ↓PGff, ↓BGtt, ↓BGtf, ↓BGft, ↓BGff, ↓CGtt, ↓CGtf, ↓CGft, ↓CGff, ↓IGtt, ↓IGtf, ↓IGft, ↓IGff, ↓PKt, ↓PKf, ↓CDt, ↓CDf, ↓NOTt, ↓NOTf, ↓NK_ptr, ↓EQt d, ↓EQf d2]
        refine caseI (fun q => ?_) (fun q => ?_)
        · refine condT ?_
          rw [BK_quo n0]
          refine ⟨?_, rfl⟩
          rw [if_neg hcond, q, show twoV 11 a b = IntKind.i64.wrap (a.tdiv b) by unfold twoV; rw [if_neg (by decide), if_pos rfl, if_neg c1]]; rfl
        · refine condF ?_
          rw [BK_rem n0]
          refine ⟨?_, rfl⟩
          have q12 : op = 12 := by omega
          have e12 : twoV 12 a b = a.tmod b := by
            unfold twoV
            rw [if_neg (by decide), if_neg (by decide), if_pos rfl]
            split
            · rename_i z; rw [z]; simp
            · rfl
          rw [if_neg hcond, q12, e12]; rfl
      · simp only [↓VG_u, ↓UG_u, ↓MG_u, ↓NG_u, ↓PG_u, ↓BG_u, ↓CG_u, ↓IG_u, ↓VGtt, ↓VGtf, ↓VGft, ↓VGff, ↓UGtt, ↓UGtf, ↓UGft, ↓UGff, ↓MGtt, ↓MGtf, ↓MGft, ↓MGff, ↓NGtt, ↓NGtf, ↓NGft, ↓NGff, ↓PGtt, ↓PGtf, ↓PGft, ↓PGff, ↓BGtt, ↓BGtf, ↓BGft, ↓BGff, ↓CGtt, ↓CGtf, ↓CGft, ↓CGff, ↓IGtt, ↓IGtf, ↓IGft, ↓IGff, ↓PKt, ↓PKf, ↓CDt, ↓CDf, ↓NOTt, ↓NOTf, ↓NK_ptr, ↓EQf d]
        refine caseI (fun q => ?_) (fun q => ?_)
        · refine condT ?_
          rw [BK_quo n0]
          refine ⟨?_, rfl⟩
          rw [if_neg hcond, q, show twoV 11 a b = IntKind.i64.wrap (a.tdiv b) by unfold twoV; rw [if_neg (by decide), if_pos rfl, if_neg c1]]; rfl
        · refine condF ?_
          rw [BK_rem n0]
          refine ⟨?_, rfl⟩
          have q12 : op = 12 := by omega
          have e12 : twoV 12 a b = a.tmod b := by
            unfold twoV
            rw [if_neg (by decide), if_neg (by decide), if_pos rfl]
            split
            · rename_i z; rw [z]; simp
            · rfl
          rw [if_neg hcond, q12, e12]; rfl
  | false =>
    have hop := hf rfl
    refine condF ?_
    have hcond : ¬ (b = 0 ∧ (op = 11 ∨ op = 12)) := fun z => by omega
    have fin : ∀ (y : Int), twoV op a b = y → TwP op a b w (.tuple #[.int .i64 y, .int .u8 0]) w := fun y q => ⟨by rw [if_neg hcond, q], rfl⟩
    refine caseI (fun q => ?_) (fun n13 => ?_)
    · refine condT ?_
      rw [BK_add]
      exact fin (w64 (a + b)) (by rw [q]; simp [twoV])
    refine condF ?_
    refine caseI (fun q => ?_) (fun n14 => ?_)
    · refine condT ?_
      rw [BK_sub]
      exact fin (w64 (a - b)) (by rw [q]; simp [twoV])
    refine condF ?_
    refine caseI (fun q => ?_) (fun n15 => ?_)
    · refine condT ?_
      rw [BK_lss]
      refine CK_st Try.func20 rfl rfl (truthR_ok _ w) ?_
      rintro _ w' ⟨rfl, rfl⟩
      exact fin (truV (decide (a < b))) (by rw [q]; simp [twoV])
    refine condF ?_
    refine caseI (fun q => ?_) (fun n16 => ?_)
    · refine condT ?_
      rw [BK_leq]
      refine CK_st Try.func20 rfl rfl (truthR_ok _ w) ?_
      rintro _ w' ⟨rfl, rfl⟩
      exact fin (truV (decide (a ≤ b))) (by rw [q]; simp [twoV])
    refine condF ?_
    refine caseI (fun q => ?_) (fun n17 => ?_)
    · refine condT ?_
      rw [BK_gtr]
      refine CK_st Try.func20 rfl rfl (truthR_ok _ w) ?_
      rintro _ w' ⟨rfl, rfl⟩
      exact fin (truV (decide (b < a))) (by rw [q]; simp [twoV])
    refine condF ?_
    refine caseI (fun q => ?_) (fun n18 => ?_)
    · refine condT ?_
      rw [BK_geq]
      refine CK_st Try.func20 rfl rfl (truthR_ok _ w) ?_
      rintro _ w' ⟨rfl, rfl⟩
      exact fin (truV (decide (b ≤ a))) (by rw [q]; simp [twoV])
    refine condF ?_
    refine caseI (fun q => ?_) (fun n19 => ?_)
    · refine condT ?_
      rw [BK_eql]
      refine CK_st Try.func20 rfl rfl (truthR_ok _ w) ?_
      rintro _ w' ⟨rfl, rfl⟩
      exact fin (truV (a == b)) (by rw [q]; simp [twoV]; rfl)
    refine condF ?_
    rw [bk_n, sq_n, dispatcherref07_Two_R1_eq]; unfold dispatcherref07_Two_R1_F
    simp only [sq_n, sq_x, sq_r, bk_n, bk_r, bk_x, rt_r, rt_n, rs_0, rs_t, pk_1, pk_2, up_at, reduceIte, Nat.reduceEqDiff, g1, g2]
    rw [BK_neq]
    refine CK_st Try.func20 rfl rfl (truthR_ok _ w) ?_
    rintro _ w' ⟨rfl, rfl⟩
    exact fin (truV (a != b)) (by rw [show op = 20 by omega]; simp [twoV]; rfl)
theorem TwoR_ok {op a b : Int} (h0 : 10 ≤ op) (h1 : op ≤ 20) (w : World) : Rt Try.prog 10 #[.int .u8 op, .int .i64 a, .int .i64 b] w (TwP op a b w) := by
  refine dispatcherref07_Two_calls ?_
  unfold dispatcherref07_Two_F
  refine caseI (fun q => ?_) (fun n10 => ?_)
  · refine condT ?_
    rw [BK_mul]
    exact ⟨by rw [if_neg (by omega), q]; simp [twoV], rfl⟩
  refine condF ?_
  refine caseI (fun q => ?_) (fun n11 => ?_)
  · refine condT ?_
    exact TwoR_R0 (t := true) rfl rfl rfl rfl rfl rfl (fun _ => .inl q) (fun z => by cases z)
  refine condF ?_
  refine caseI (fun q => ?_) (fun n12 => ?_)
  · exact TwoR_R0 (t := true) rfl rfl rfl rfl rfl rfl (fun _ => .inr q) (fun z => by cases z)
  · exact TwoR_R0 (t := false) rfl rfl rfl rfl rfl rfl (fun z => by cases z) (fun _ => by omega)
end Go.Proofs.Ytmbgbffgkdcieaa.Tr
set_option linter.unusedVariables false
set_option linter.unusedSimpArgs false
namespace Go.X
open Go Go.RowKit
def onePg (op a b : Int) : Pg := ⟨[⟨1, a⟩, ⟨1, b⟩, ⟨op, 0⟩, ⟨3, 0⟩, ⟨29, 0⟩], 1, []⟩
theorem one_hts {op a b : Int} (h0 : 10 ≤ op) (h1 : op ≤ 20) : (onePg op a b).heights = some [0, 1, 2, 1, 0] := by
  have h : op = 10 ∨ op = 11 ∨ op = 12 ∨ op = 13 ∨ op = 14 ∨ op = 15 ∨ op = 16 ∨ op = 17 ∨ op = 18 ∨ op = 19 ∨ op = 20 := by omega
  rcases h with rfl | rfl | rfl | rfl | rfl | rfl | rfl | rfl | rfl | rfl | rfl <;> rfl
theorem one_two {op a b : Int} (h0 : 10 ≤ op) (h1 : op ≤ 20) (s : Rk) (n : Int) : s.doV ⟨op, n⟩ = if s.top = 0 ∧ (op = 11 ∨ op = 12) then s.drop1.drop1.ends 4 1 else s.drop1.drop1.push (twoV op s.drop1.top s.top) := by
  unfold Rk.doV
  have : op ≠ 1 ∧ op ≠ 2 ∧ op ≠ 3 ∧ op ≠ 4 ∧ op ≠ 5 ∧ op ≠ 6 ∧ op ≠ 7 ∧ op ≠ 8 ∧ op ≠ 9 ∧ op ≠ 21 ∧ op ≠ 22 ∧ op ≠ 23 ∧ op ≠ 24 ∧ op ≠ 25 ∧ op ≠ 26 ∧ op ≠ 27 ∧ op ≠ 28 ∧ op ≠ 29 := by omega
  simp [this]
theorem one_run {op a b : Int} (h0 : 10 ≤ op) (h1 : op ≤ 20) : (b = 0 ∧ (op = 11 ∨ op = 12) → (Rk.run 9 (new0 (onePg op a b) 0 1)).1.kind = 4 ∧ (Rk.run 9 (new0 (onePg op a b) 0 1)).1.fault = 1 ∧ (Rk.run 9 (new0 (onePg op a b) 0 1)).2 = 3 ∧ (Rk.run 9 (new0 (onePg op a b) 0 1)).1.vars = [0]) ∧
    (¬ (b = 0 ∧ (op = 11 ∨ op = 12)) → (Rk.run 9 (new0 (onePg op a b) 0 1)).1.kind = 2 ∧ (Rk.run 9 (new0 (onePg op a b) 0 1)).2 = 5 ∧ (Rk.run 9 (new0 (onePg op a b) 0 1)).1.vars = [twoV op a b]) := by
  let s2 : Rk := ⟨onePg op a b, 0, 1, 2, [a, b], [0], [], [], zRs, 0, zCl, 0⟩
  have r2 : Rk.run 9 (new0 (onePg op a b) 0 1) = ((Rk.run 7 s2).1, (Rk.run 7 s2).2 + 2) := rfl
  have e3 : s2.step = if b = 0 ∧ (op = 11 ∨ op = 12) then (⟨onePg op a b, 0, 1, 3, [], [0], [], [], zRs, 4, zCl, 1⟩ : Rk) else ⟨onePg op a b, 0, 1, 3, [twoV op a b], [0], [], [], zRs, 0, zCl, 0⟩ := by
    show Rk.doV { s2 with at_ := 3 } ⟨op, 0⟩ = _
    rw [one_two (a := a) (b := b) h0 h1]
    rfl
  have r3 : Rk.run 7 s2 = ((Rk.run 6 s2.step).1, (Rk.run 6 s2.step).2 + 1) := rfl
  refine ⟨fun q => ?_, fun q => ?_⟩
  · rw [if_pos q] at e3
    rw [r2, r3, e3]
    exact ⟨rfl, rfl, rfl, rfl⟩
  · rw [if_neg q] at e3
    rw [r2, r3, e3]
    exact ⟨rfl, rfl, rfl⟩
end Go.X
set_option linter.unusedVariables false
set_option linter.unusedSimpArgs false
set_option maxRecDepth 4000
namespace Go.Proofs.Ytmbgbffgkdcieaa.Tr
open Go Go.X Go.RowKit Go.Proofs.Ytmbgbffgkdcieaa.XF Go.Proofs.Ytmbgbffgkdcieaa.XK
theorem VmOne_ok {op0 a b : Int} (h0 : 0 ≤ op0) (h1 : op0 ≤ 255) (w : World) : Rt Try.prog 4 #[.int .u8 op0, .int .i64 a, .int .i64 b] w fun v w' => v = .bool true ∧ Mod none_ w w' := by
  refine dispatcherlaw07_VmOne_calls ?_
  unfold dispatcherlaw07_VmOne_F
  rw [BK_rem (by decide), Int.tmod_eq_emod_of_nonneg h0, BK_add, show IntKind.u8.wrap (10 + op0 % 11) = 10 + op0 % 11 by rw [IntKind.wrap_u8]; omega]
  obtain ⟨op, hop⟩ : ∃ op, op = 10 + op0 % 11 := ⟨_, rfl⟩
  rw [← hop]
  have o0 : 10 ≤ op := by omega
  have o1 : op ≤ 20 := by omega
  rw [build_ok (cs := (Ins.cells ⟨1, a⟩).toArray) (by kernel_rfl), build_ok (cs := (Ins.cells ⟨1, b⟩).toArray) (by kernel_rfl), build_ok (cs := (Ins.cells ⟨op, 0⟩).toArray) (by kernel_rfl), build_ok (cs := (Ins.cells ⟨3, 0⟩).toArray) (by kernel_rfl), build_ok (cs := (Ins.cells ⟨29, 0⟩).toArray) (by kernel_rfl)]
  refine bs_k (cs := ((onePg op a b).code.flatMap Ins.cells).toArray) (by kernel_rfl) fun w1 hb1 hm1 hz1 => ?_
  have hrow : InsRow w1 (.slice (some ⟨w.heap.size, 0, none⟩) 5 5) (onePg op a b).code := ⟨by have := reads_blk (size := 2) (n := 5) hb1 rfl; simpa [onePg] using this, trivial⟩
  have hpg : PgOk w1 (onePg op a b) [.slice (some ⟨w.heap.size, 0, none⟩) 5 5, .int .i64 1, .slice none 0 0] := PgOk.mk' hrow (reads_nil _ _)
  rw [build_ok (cs := #[.slice (some ⟨w.heap.size, 0, none⟩) 5 5, .int .i64 1, .slice none 0 0]) (by kernel_rfl)]
  refine al_k (cs := #[.slice none 0 0, .int .i64 0, .slice none 0 0]) zPg_z rfl _ fun w2 hb2 hm2 hz2 => ?_
  refine stS (cs := #[.slice (some ⟨w.heap.size, 0, none⟩) 5 5, .int .i64 1, .slice none 0 0]) (old := #[.slice none 0 0, .int .i64 0, .slice none 0 0]) rfl rfl (by rw [iPg]; rfl) rfl (by simp [Value.oneCell']) hb2 fun w3 hb3 hm3 hz3 => ?_
  have hm13 : Mod none_ w1 w3 := hm2.then hm3 fun i hi q => by omega
  refine ldB Try.underlying28 rfl (by rw [iPg]; rfl) hb3 ?_
  refine CK_st Try.func6 rfl rfl (new_ok (hpg.mod hm13) (by show 5 ≤ 1048576; omega) (by show 0 ≤ 1048576; omega) 0 1) ?_
  rintro v4 w4 ⟨hv4, hm4⟩
  have hmay : (onePg op a b).may = true := by unfold Pg.may; rw [one_hts o0 o1]; rfl
  have hInv := inv_new (one_hts (a := a) (b := b) o0 o1) 0 1
  rcases hv4 with ⟨q, _⟩ | ⟨_, q, _⟩ | ⟨_, _, p, V, rfl, hR, hG⟩
  · rw [hmay] at q; cases q
  · omega
  rw [extract_ok (v := .pointer (some ⟨p, 0, none⟩)) rfl, extract_ok (v := .int .i64 0) rfl]
  simp only [↓VG_u, ↓UG_u, ↓MG_u, ↓NG_u, ↓PG_u, ↓BG_u, ↓CG_u, ↓IG_u, ↓VGtt, ↓VGtf, ↓VGft, ↓VGff, ↓UGtt, ↓UGtf, ↓UGft, ↓UGff, ↓MGtt, ↓MGtf, ↓MGft, ↓MGff, ↓NGtt, ↓NGtf, ↓NGft, ↓NGff, ↓PGtt, ↓PGtf, ↓PGft, ↓PGff, ↓BGtt, ↓BGtf, ↓BGft, ↓BGff, ↓CGtt, ↓CGtf, ↓CGft, ↓CGff, ↓IGtt, ↓IGtf, ↓IGft, ↓IGff, ↓PKt, ↓PKf, ↓CDt, ↓CDf, ↓NOTt, ↓NOTf, ↓NK_ptr, ↓NEf (rfl : (0 : Int) = 0)]
  rw [BK_eqlP uRp]
  simp only [↓VG_u, ↓UG_u, ↓MG_u, ↓NG_u, ↓PG_u, ↓BG_u, ↓CG_u, ↓IG_u, ↓VGtt, ↓VGtf, ↓VGft, ↓VGff, ↓UGtt, ↓UGtf, ↓UGft, ↓UGff, ↓MGtt, ↓MGtf, ↓MGft, ↓MGff, ↓NGtt, ↓NGtf, ↓NGft, ↓NGff, ↓PGtt, ↓PGtf, ↓PGft, ↓PGff, ↓BGtt, ↓BGtf, ↓BGft, ↓BGff, ↓CGtt, ↓CGtf, ↓CGft, ↓CGff, ↓IGtt, ↓IGtf, ↓IGft, ↓IGff, ↓PKt, ↓PKf, ↓CDt, ↓CDf, ↓NOTt, ↓NOTf, ↓NK_ptr, Option.isNone_some]
  rw [dispatcherlaw07_VmOne_R0_eq]; unfold dispatcherlaw07_VmOne_R0_F
  refine condF ?_
  rw [sq_n, dispatcherlaw07_VmOne_R1_eq]; unfold dispatcherlaw07_VmOne_R1_F
  simp only [sq_n, sq_x, sq_r, bk_n, bk_r, bk_x, rt_r, rt_n, rs_0, rs_t, pk_1, pk_2, up_at, reduceIte, Nat.reduceEqDiff]
  refine CK_st Try.func7 rfl rfl (Run_ok hR hInv (fun i hi q => ?_) (by omega)) ?_
  · exfalso
    have : i = ⟨1, a⟩ ∨ i = ⟨1, b⟩ ∨ i = ⟨op, 0⟩ ∨ i = ⟨3, 0⟩ ∨ i = ⟨29, 0⟩ := by simpa [new0, onePg] using hi
    rcases this with rfl | rfl | rfl | rfl | rfl <;> dsimp only at q <;> omega
  rintro _ w5 ⟨q', V', rfl, oc, rq, nq, hR5, hF5⟩
  obtain ⟨hrA, hrB⟩ := one_run (a := a) (b := b) o0 o1
  have hpgR : (Rk.run 9 (new0 (onePg op a b) 0 1)).1.pg = onePg op a b := Rk.Inv.run_pg 9 hInv
  obtain ⟨r, hr⟩ : ∃ r, r = Rk.run 9 (new0 (onePg op a b) 0 1) := ⟨_, rfl⟩
  have hr' : Rk.run (Int.toNat 9) (new0 (onePg op a b) 0 1) = r := hr.symm
  rw [hr'] at hR5 rq ⊢
  rw [← hr] at hrA hrB hpgR
  rw [extract_ok (v := .agg (outC r.1 q').toArray) rfl, extract_ok (v := .int .i64 (r.2 : Int)) rfl]
  refine al_k (cs := zOut.toArray) zO rfl _ fun w6 hb6 hm6 hz6 => ?_
  obtain ⟨Aq, cq, eq, _⟩ := reads_cap rq
  refine stS (cs := (outC r.1 q').toArray) (old := zOut.toArray) rfl rfl (by rw [iO]; rfl) rfl (by rw [eq]; simp [outC, clC, Value.oneCell']) hb6 fun w7 hb7 hm7 hz7 => ?_
  have hR7 : RkAt w7 p r.1 V' := (hR5.calm hm6).mod hm7 fun k q z => by have := hR5.old k q; omega
  have hlc : 0 < r.1.pg.code.length := by rw [hpgR]; show 0 < 5; omega
  have s4 := hF5.mod.size
  have sA := hm1.size
  have sB := hm13.size
  have sC := hm4.size
  have fin : ∀ w', Mod none_ w7 w' → Mod none_ w w' := fun w' hm => (((((hm1.trans hm13).trans hm4).then hF5.mod fun k hk q => by have := hG k (.inl q); omega).trans hm6).then hm7 fun k hk q => by omega).trans hm
  refine CK_st Try.func10 rfl rfl (TwoR_ok o0 o1 w7) ?_
  rintro _ w8 ⟨rfl, rfl⟩
  have g0 : FO Try.prog w8 38 0 0 ⟨w5.heap.size, 0, none⟩ 5 (.int .u8 r.1.kind) := FO.blk hb7 (by kernel_rfl) vU8 rfl rfl
  have g2 : FO Try.prog w8 38 2 12 ⟨w5.heap.size, 0, none⟩ 5 (.int .u8 r.1.fault) := FO.blk hb7 (by kernel_rfl) vU8 rfl rfl
  by_cases c : b = 0 ∧ (op = 11 ∨ op = 12)
  · obtain ⟨k1, k2, k3, k4⟩ := hrA c
    rw [if_pos c, extract_ok (v := .int .i64 0) rfl, extract_ok (v := .int .u8 1) rfl]
    simp only [↓VG_u, ↓UG_u, ↓MG_u, ↓NG_u, ↓PG_u, ↓BG_u, ↓CG_u, ↓IG_u, ↓VGtt, ↓VGtf, ↓VGft, ↓VGff, ↓UGtt, ↓UGtf, ↓UGft, ↓UGff, ↓MGtt, ↓MGtf, ↓MGft, ↓MGff, ↓NGtt, ↓NGtf, ↓NGft, ↓NGff, ↓PGtt, ↓PGtf, ↓PGft, ↓PGff, ↓BGtt, ↓BGtf, ↓BGft, ↓BGff, ↓CGtt, ↓CGtf, ↓CGft, ↓CGff, ↓IGtt, ↓IGtf, ↓IGft, ↓IGff, ↓PKt, ↓PKf, ↓CDt, ↓CDf, ↓NOTt, ↓NOTf, ↓NK_ptr, ↓NEt (show (1 : Int) ≠ 0 by decide), ↓g0.e, ↓EQt k1]
    rw [g2.e]
    simp only [↓VG_u, ↓UG_u, ↓MG_u, ↓NG_u, ↓PG_u, ↓BG_u, ↓CG_u, ↓IG_u, ↓VGtt, ↓VGtf, ↓VGft, ↓VGff, ↓UGtt, ↓UGtf, ↓UGft, ↓UGff, ↓MGtt, ↓MGtf, ↓MGft, ↓MGff, ↓NGtt, ↓NGtf, ↓NGft, ↓NGff, ↓PGtt, ↓PGtf, ↓PGft, ↓PGff, ↓BGtt, ↓BGtf, ↓BGft, ↓BGff, ↓CGtt, ↓CGtf, ↓CGft, ↓CGff, ↓IGtt, ↓IGtf, ↓IGft, ↓IGff, ↓PKt, ↓PKf, ↓CDt, ↓CDf, ↓NOTt, ↓NOTf, ↓NK_ptr, ↓EQt k2]
    rw [k3]
    simp only [↓VG_u, ↓UG_u, ↓MG_u, ↓NG_u, ↓PG_u, ↓BG_u, ↓CG_u, ↓IG_u, ↓VGtt, ↓VGtf, ↓VGft, ↓VGff, ↓UGtt, ↓UGtf, ↓UGft, ↓UGff, ↓MGtt, ↓MGtf, ↓MGft, ↓MGff, ↓NGtt, ↓NGtf, ↓NGft, ↓NGff, ↓PGtt, ↓PGtf, ↓PGft, ↓PGff, ↓BGtt, ↓BGtf, ↓BGft, ↓BGff, ↓CGtt, ↓CGtf, ↓CGft, ↓CGff, ↓IGtt, ↓IGtf, ↓IGft, ↓IGff, ↓PKt, ↓PKf, ↓CDt, ↓CDf, ↓NOTt, ↓NOTf, ↓NK_ptr, ↓EQt (show ((3 : Nat) : Int) = 3 from rfl)]
    refine CK_st Try.func11 rfl rfl (Var_ok hR7 hlc 0) ?_
    rintro _ w9 ⟨rfl, rfl⟩
    rw [k4]
    have e1 : (if (0 : Int) ≤ 0 ∧ (0 : Int) < (([0] : List Int).length : Int) then ([0] : List Int).getD (Int.toNat 0) 0 else 0) = 0 := rfl
    rw [e1]
    simp only [↓VG_u, ↓UG_u, ↓MG_u, ↓NG_u, ↓PG_u, ↓BG_u, ↓CG_u, ↓IG_u, ↓VGtt, ↓VGtf, ↓VGft, ↓VGff, ↓UGtt, ↓UGtf, ↓UGft, ↓UGff, ↓MGtt, ↓MGtf, ↓MGft, ↓MGff, ↓NGtt, ↓NGtf, ↓NGft, ↓NGff, ↓PGtt, ↓PGtf, ↓PGft, ↓PGff, ↓BGtt, ↓BGtf, ↓BGft, ↓BGff, ↓CGtt, ↓CGtf, ↓CGft, ↓CGff, ↓IGtt, ↓IGtf, ↓IGft, ↓IGff, ↓PKt, ↓PKf, ↓CDt, ↓CDf, ↓NOTt, ↓NOTf, ↓NK_ptr, ↓EQt (rfl : (0 : Int) = 0)]
    exact ⟨by trivial, fin _ (Mod.refl _ _)⟩
  · obtain ⟨k1, k3, k4⟩ := hrB c
    rw [if_neg c, extract_ok (v := .int .i64 (twoV op a b)) rfl, extract_ok (v := .int .u8 0) rfl]
    simp only [↓VG_u, ↓UG_u, ↓MG_u, ↓NG_u, ↓PG_u, ↓BG_u, ↓CG_u, ↓IG_u, ↓VGtt, ↓VGtf, ↓VGft, ↓VGff, ↓UGtt, ↓UGtf, ↓UGft, ↓UGff, ↓MGtt, ↓MGtf, ↓MGft, ↓MGff, ↓NGtt, ↓NGtf, ↓NGft, ↓NGff, ↓PGtt, ↓PGtf, ↓PGft, ↓PGff, ↓BGtt, ↓BGtf, ↓BGft, ↓BGff, ↓CGtt, ↓CGtf, ↓CGft, ↓CGff, ↓IGtt, ↓IGtf, ↓IGft, ↓IGff, ↓PKt, ↓PKf, ↓CDt, ↓CDf, ↓NOTt, ↓NOTf, ↓NK_ptr, ↓NEf (rfl : (0 : Int) = 0), ↓g0.e, ↓EQt k1]
    rw [k3]
    simp only [↓VG_u, ↓UG_u, ↓MG_u, ↓NG_u, ↓PG_u, ↓BG_u, ↓CG_u, ↓IG_u, ↓VGtt, ↓VGtf, ↓VGft, ↓VGff, ↓UGtt, ↓UGtf, ↓UGft, ↓UGff, ↓MGtt, ↓MGtf, ↓MGft, ↓MGff, ↓NGtt, ↓NGtf, ↓NGft, ↓NGff, ↓PGtt, ↓PGtf, ↓PGft, ↓PGff, ↓BGtt, ↓BGtf, ↓BGft, ↓BGff, ↓CGtt, ↓CGtf, ↓CGft, ↓CGff, ↓IGtt, ↓IGtf, ↓IGft, ↓IGff, ↓PKt, ↓PKf, ↓CDt, ↓CDf, ↓NOTt, ↓NOTf, ↓NK_ptr, ↓EQt (show ((5 : Nat) : Int) = 5 from rfl)]
    refine CK_st Try.func11 rfl rfl (Var_ok hR7 hlc 0) ?_
    rintro _ w9 ⟨rfl, rfl⟩
    rw [k4]
    have e1 : (if (0 : Int) ≤ 0 ∧ (0 : Int) < (([twoV op a b] : List Int).length : Int) then ([twoV op a b] : List Int).getD (Int.toNat 0) 0 else 0) = twoV op a b := rfl
    rw [e1]
    simp only [↓VG_u, ↓UG_u, ↓MG_u, ↓NG_u, ↓PG_u, ↓BG_u, ↓CG_u, ↓IG_u, ↓VGtt, ↓VGtf, ↓VGft, ↓VGff, ↓UGtt, ↓UGtf, ↓UGft, ↓UGff, ↓MGtt, ↓MGtf, ↓MGft, ↓MGff, ↓NGtt, ↓NGtf, ↓NGft, ↓NGff, ↓PGtt, ↓PGtf, ↓PGft, ↓PGff, ↓BGtt, ↓BGtf, ↓BGft, ↓BGff, ↓CGtt, ↓CGtf, ↓CGft, ↓CGff, ↓IGtt, ↓IGtf, ↓IGft, ↓IGff, ↓PKt, ↓PKf, ↓CDt, ↓CDf, ↓NOTt, ↓NOTf, ↓NK_ptr, ↓EQt (rfl : twoV op a b = twoV op a b)]
    refine CK_st Try.func11 rfl rfl (Var_ok hR7 hlc 1) ?_
    rintro _ w9 ⟨rfl, rfl⟩
    rw [k4]
    have e2 : (if (0 : Int) ≤ 1 ∧ (1 : Int) < (([twoV op a b] : List Int).length : Int) then ([twoV op a b] : List Int).getD (Int.toNat 1) 0 else 0) = 0 := rfl
    rw [e2]
    simp only [↓VG_u, ↓UG_u, ↓MG_u, ↓NG_u, ↓PG_u, ↓BG_u, ↓CG_u, ↓IG_u, ↓VGtt, ↓VGtf, ↓VGft, ↓VGff, ↓UGtt, ↓UGtf, ↓UGft, ↓UGff, ↓MGtt, ↓MGtf, ↓MGft, ↓MGff, ↓NGtt, ↓NGtf, ↓NGft, ↓NGff, ↓PGtt, ↓PGtf, ↓PGft, ↓PGff, ↓BGtt, ↓BGtf, ↓BGft, ↓BGff, ↓CGtt, ↓CGtf, ↓CGft, ↓CGff, ↓IGtt, ↓IGtf, ↓IGft, ↓IGff, ↓PKt, ↓PKf, ↓CDt, ↓CDf, ↓NOTt, ↓NOTf, ↓NK_ptr, ↓EQt (rfl : (0 : Int) = 0)]
    exact ⟨by trivial, fin _ (Mod.refl _ _)⟩
end Go.Proofs.Ytmbgbffgkdcieaa.Tr
