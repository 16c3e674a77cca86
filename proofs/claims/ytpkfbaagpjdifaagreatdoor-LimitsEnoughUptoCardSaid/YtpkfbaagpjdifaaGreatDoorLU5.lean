/- Several texts of this repo, one behind the other, without what is not used here. -/
import Derived.Test.YtpkfbaagpjdifaaGreatDoorProg
import Derived.Test.YtpkfbaagpjdifaaGreatDoorLU4
set_option linter.unusedVariables false
set_option linter.unusedSimpArgs false
set_option maxRecDepth 4000
namespace Go.Proofs.YtpkfbaagpjdifaaGreatDoor.Tr
open Go Go.X Go.RowKit Go.Proofs.YtpkfbaagpjdifaaGreatDoor.XF Go.Proofs.YtpkfbaagpjdifaaGreatDoor.XK
def ManySt (l : List St) : Prop := ∀ (w : World) (s : Value), StsOk w s l → St.szL l ≤ 1099511627776 → Rt Tryz.prog 17 #[s] w fun v w' => v = .int .i64 (St.manyL l) ∧ Mod none_ w w'
theorem manySt_row {l : List St} (ih : ∀ a ∈ l, ManySt a.body ∧ ManySt a.els) : ManySt l := by
  intro w s hok hsz
  obtain ⟨A, c, hs, _⟩ := reads_cap hok.1
  have hlen := St.len_sz l
  refine dispatcherref02_Many_calls ?_
  unfold dispatcherref02_Many_F
  refine W_loop dispatcherref02_Many_L0_ok (fun ρ w' => ∃ (n : Nat), n ≤ l.length ∧ ρ 4 = .int .i64 n ∧ ρ 3 = .int .i64 (St.manyL (l.take n)) ∧ ρ 0 = s ∧ Mod none_ w w') (fun ρ _ => l.length - (intOf (ρ 4)).toNat)
    ⟨0, Nat.zero_le _, rfl, rfl, rfl, Mod.refl _ _⟩ ?_
  rintro ρ w1 ⟨n, hn, h4, h3, h0, hm⟩
  rw [dispatcherref02_Many_L0_eq]
  unfold dispatcherref02_Many_L0_F
  rw [h0, hs, h4, len23, BK_lss]
  by_cases hlt : n < l.length
  · rw [show decide ((n : Int) < (l.length : Int)) = true by rw [decide_eq_true_eq]; omega]
    refine condT ?_
    have hx : l[n]? = some l[n] := List.getElem?_eq_getElem hlt
    have hmem : l[n] ∈ l := List.getElem_mem hlt
    obtain ⟨ihB, ihE⟩ := ih _ hmem
    have hs2 := St.szL_at hx
    have hse := St.sz_eq l[n]
    have hokC : ∀ w', Mod none_ w1 w' → StsOk w' (.slice A l.length c) l := fun w' hw => by rw [← hs]; exact (hok.mod hm).mod hw
    refine dispatcherref02_Many_R2_quiet (D := []) (fun w' => Mod none_ w1 w') ((Mod.refl _ w1).drawn _) ?_
    unfold dispatcherref02_Many_R2_Q
    have e3 : ∀ a b d f : Value, (up (up (up (up ρ 5 a) 6 b) 7 d) 8 f) 3 = .int .i64 (St.manyL (l.take n)) := fun _ _ _ _ => h3
    have e0 : ∀ a b d f : Value, (up (up (up (up ρ 5 a) 6 b) 7 d) 8 f) 0 = .slice A l.length c := fun _ _ _ _ => h0.trans hs
    have e4 : ∀ a b d f : Value, (up (up (up (up ρ 5 a) 6 b) 7 d) 8 f) 4 = .int .i64 n := fun _ _ _ _ => h4
    simp only [e3, e0, e4]
    have ht := St.manyL_sz (l.take n)
    have hb := St.many_sz l[n]
    have hbe := St.many_eq l[n]
    have hrow := fun w' hw => (hokC w' hw).at hx
    refine Qadd (QixSt (w0 := w1) (Mod.refl _ w1) hokC hx fun a ha => ?_)
    refine Qfo (off := 3) (by kernel_rfl) (Qld uS rfl (v := .string l[n].name) (fun w' hw => ha w' hw 3 _ rfl) (Qlen_s uS _ _ (Qmin (Qadd ?_))))
    refine QixSt (w0 := w1) (Mod.refl _ w1) hokC hx fun a2 ha2 => ?_
    refine Qfo (off := 5) (by kernel_rfl) (Qld uExs rfl (v := l[n].es) (fun w' hw => ha2 w' hw 5 _ rfl) ?_)
    refine QC_rt Tryz.func30 rfl rfl (v := .int .i64 (Ex.manyL l[n].exprs)) (fun w' hw => ManyExprs_ok w' _ (hrow w' hw).exprs (by omega)) (fun w' u w'' hw hu => ⟨hu.1, hw.trans hu.2⟩) (Qadd ?_)
    refine QixSt (w0 := w1) (Mod.refl _ w1) hokC hx fun a3 ha3 => ?_
    refine Qfo (off := 6) (by kernel_rfl) (Qld uSts rfl (v := l[n].bs) (fun w' hw => ha3 w' hw 6 _ rfl) ?_)
    refine QC_rt Tryz.func17 rfl rfl (v := .int .i64 (St.manyL l[n].body)) (fun w' hw => ihB w' _ (hrow w' hw).body (by omega)) (fun w' u w'' hw hu => ⟨hu.1, hw.trans hu.2⟩) (Qadd ?_)
    refine QixSt (w0 := w1) (Mod.refl _ w1) hokC hx fun a4 ha4 => ?_
    refine Qfo (off := 7) (by kernel_rfl) (Qld uSts rfl (v := l[n].ls) (fun w' hw => ha4 w' hw 7 _ rfl) ?_)
    refine QC_rt Tryz.func17 rfl rfl (v := .int .i64 (St.manyL l[n].els)) (fun w' hw => ihE w' _ (hrow w' hw).els (by omega)) (fun w' u w'' hw hu => ⟨hu.1, hw.trans hu.2⟩) (Qadd ?_)
    intro w2 hm2
    rw [wrap_i (n := (St.manyL (l.take n) : Int) + 1) (by omega) (by omega)]
    rw [wrap_i (n := (St.manyL (l.take n) : Int) + 1 + (if (30000 : Int) < (l[n].name.size : Int) then 30000 else (l[n].name.size : Int))) (by split <;> omega) (by split <;> omega)]
    rw [wrap_i (n := (St.manyL (l.take n) : Int) + 1 + (if (30000 : Int) < (l[n].name.size : Int) then 30000 else (l[n].name.size : Int)) + (Ex.manyL l[n].exprs : Int)) (by split <;> omega) (by split <;> omega)]
    rw [wrap_i (n := (St.manyL (l.take n) : Int) + 1 + (if (30000 : Int) < (l[n].name.size : Int) then 30000 else (l[n].name.size : Int)) + (Ex.manyL l[n].exprs : Int) + (St.manyL l[n].body : Int)) (by split <;> omega) (by split <;> omega)]
    rw [wrap_i (n := (St.manyL (l.take n) : Int) + 1 + (if (30000 : Int) < (l[n].name.size : Int) then 30000 else (l[n].name.size : Int)) + (Ex.manyL l[n].exprs : Int) + (St.manyL l[n].body : Int) + (St.manyL l[n].els : Int)) (by split <;> omega) (by split <;> omega)]
    rw [bk_n, sq_n, dispatcherref02_Many_R3_eq]
    unfold dispatcherref02_Many_R3_F
    refine BKadd (a := n) (b := 1) ?_ rfl (by omega) (by omega) ?_
    · exact h4
    refine ⟨⟨n + 1, hlt, rfl, ?_, h0.trans hs, hm.trans hm2⟩, ?_⟩
    · show Value.int .i64 _ = _
      rw [List.take_add_one, hx, Option.toList_some, St.manyL_snoc]
      congr 1
      split <;> omega
    · show l.length - (intOf (Value.int .i64 ((n : Int) + 1))).toNat < _
      simp only [intOf]; omega
  · obtain rfl : n = l.length := by omega
    rw [show decide (((l.length : Nat) : Int) < (l.length : Int)) = false by simp]
    refine condF ?_
    rw [sq_x, bk_x, sq_n, dispatcherref02_Many_R1_eq]
    unfold dispatcherref02_Many_R1_F
    rw [List.take_length] at h3
    exact ⟨h3, hm⟩
theorem manySt_all : ∀ e : St, ManySt e.body ∧ ManySt e.els := by
  intro e
  induction e using St.ind with
  | h e ih1 ih2 => exact ⟨manySt_row ih1, manySt_row ih2⟩
theorem Many_ok (l : List St) : ManySt l := manySt_row fun a _ => manySt_all a
def Pr.great (p : Pr) : Bool := decide (100 < p.decls.length) || (decide (20000 < St.manyL p.body) || p.decls.any fun d => decide (30 < d.name.size))
theorem Great_ok {w : World} {p : Pr} (h : p.Ok w) (hf : p.fits) : Rt Tryz.prog 6 #[.agg p.cells.toArray] w fun v w' => v = .bool p.great ∧ Mod none_ w w' := by
  obtain ⟨A, c, hs, _⟩ := reads_cap h.d.1
  refine dispatcherlaw02_Great_calls ?_
  unfold dispatcherlaw02_Great_F
  refine box_k (cs := p.cells.toArray) rfl fun w1 hb1 hm1 hz1 => ?_
  have h1 := h.mod hm1
  have f0 : ∀ w', Mod none_ w1 w' → FAt Tryz.prog w' 25 0 ⟨w.heap.size, 0, none⟩ 22 (.slice A p.decls.length c) := fun w' hw => FAt.mk' (off := 0) (by kernel_rfl) uDes rfl (by rw [add_pl, cell_blk (hw.blk hb1 id), ← hs]; rfl)
  have f1 : FAt Tryz.prog w1 25 1 ⟨w.heap.size, 0, none⟩ 23 p.bs := FAt.mk' (off := 1) (by kernel_rfl) uSts rfl (by rw [add_pl, cell_blk hb1]; rfl)
  have hf1 := hf.1
  refine (f0 w1 (Mod.refl _ _)).vk' fun x4 => ?_
  rw [len22]
  refine BKgtr (a := p.decls.length) (b := 100) rfl rfl ?_
  unfold Pr.great
  by_cases hd : 100 < p.decls.length
  · rw [show decide ((100 : Int) < (p.decls.length : Int)) = true by rw [decide_eq_true_eq]; omega]
    simp only [CondK_bool, MG_u, NG_u, VG_u, UG_u, PG_u, BG_u, CG_u, IG_u, MG_b, NG_b, VG_b, UG_b, PG_b, BG_b, CG_b, IG_b, PK_bool, NK_ptr, not_ok, reduceCtorEq, if_true, if_false, Bool.true_eq_false, Bool.false_eq_true, Bool.not_true, Bool.not_false]
    refine ⟨?_, hm1⟩
    rw [decide_eq_true hd]; rfl
  · rw [show decide ((100 : Int) < (p.decls.length : Int)) = false by rw [decide_eq_false_iff_not]; omega, decide_eq_false hd, Bool.false_or]
    simp only [CondK_bool, MG_u, NG_u, VG_u, UG_u, PG_u, BG_u, CG_u, IG_u, MG_b, NG_b, VG_b, UG_b, PG_b, BG_b, CG_b, IG_b, PK_bool, NK_ptr, not_ok, reduceCtorEq, if_true, if_false, Bool.true_eq_false, Bool.false_eq_true, Bool.not_true, Bool.not_false]
    refine f1.vk' fun x9 => ?_
    refine CK_st Tryz.func17 rfl rfl (Many_ok p.body w1 _ h1.b hf.2) ?_
    rintro _ w2 ⟨rfl, hm2⟩
    have hb2 := hm2.blk hb1 id
    have hm02 := hm1.trans hm2
    refine BKgtr (a := St.manyL p.body) (b := 20000) rfl rfl ?_
    by_cases hmn : 20000 < St.manyL p.body
    · rw [show decide ((20000 : Int) < (St.manyL p.body : Int)) = true by rw [decide_eq_true_eq]; omega]
      refine condT ⟨?_, hm02⟩
      rw [decide_eq_true hmn]; rfl
    · rw [show decide ((20000 : Int) < (St.manyL p.body : Int)) = false by rw [decide_eq_false_iff_not]; omega, decide_eq_false hmn, Bool.false_or]
      refine condF ?_
      refine W_loop dispatcherlaw02_Great_L0_ok (fun ρ w' => ∃ (n : Nat), n ≤ p.decls.length ∧ ρ 3 = .int .i64 n ∧ ρ 1 = .pointer (some ⟨w.heap.size, 0, none⟩) ∧ ((p.decls.take n).any fun d => decide (30 < d.name.size)) = false ∧ w' = w2) (fun ρ _ => p.decls.length - (intOf (ρ 3)).toNat)
        ⟨0, Nat.zero_le _, rfl, rfl, rfl, rfl⟩ ?_
      rintro ρ w3 ⟨n, hn, h3, h1', hno, rfl⟩
      have hds := h.d.mod hm02
      rw [hs] at hds
      rw [dispatcherlaw02_Great_L0_eq]
      unfold dispatcherlaw02_Great_L0_F
      rw [h1', h3]
      refine (f0 w3 hm2).vk' fun x15 => ?_
      rw [len22]
      refine BKlss (a := n) (b := p.decls.length) rfl rfl ?_
      by_cases hlt : n < p.decls.length
      · rw [show decide ((n : Int) < (p.decls.length : Int)) = true by rw [decide_eq_true_eq]; omega]
        refine condT ?_
        have hx : p.decls[n]? = some p.decls[n] := List.getElem?_eq_getElem hlt
        refine (f0 w3 hm2).vk' fun x21 => ?_
        refine ixDeA hds hx fun a ha => ?_
        have g0 : FAt Tryz.prog w3 48 0 a 9 (.string p.decls[n].name) := FAt.mk' (off := 0) (by kernel_rfl) uS rfl (ha 0 _ rfl)
        refine g0.vk' fun x25 => ?_
        rw [len9]
        refine BKgtr (a := p.decls[n].name.size) (b := 30) rfl rfl ?_
        by_cases hq : 30 < p.decls[n].name.size
        · rw [show decide ((30 : Int) < (p.decls[n].name.size : Int)) = true by rw [decide_eq_true_eq]; omega]
          refine condT ⟨?_, hm02⟩
          show Value.bool true = _
          congr 1
          exact (List.any_eq_true.2 ⟨_, List.getElem_mem hlt, decide_eq_true hq⟩).symm
        · rw [show decide ((30 : Int) < (p.decls[n].name.size : Int)) = false by rw [decide_eq_false_iff_not]; omega]
          refine condF ?_
          refine BKadd (a := n) (b := 1) rfl rfl (by omega) (by omega) ?_
          refine ⟨⟨n + 1, hlt, rfl, h1', ?_, rfl⟩, ?_⟩
          · rw [List.take_add_one, hx, Option.toList_some, List.any_append, hno]
            simp [hq]
          · show p.decls.length - (intOf (Value.int .i64 ((n : Int) + 1))).toNat < _
            simp only [intOf]; omega
      · obtain rfl : n = p.decls.length := by omega
        rw [show decide (((p.decls.length : Nat) : Int) < (p.decls.length : Int)) = false by simp]
        refine condF ?_
        rw [sq_x, bk_x, sq_n, dispatcherlaw02_Great_R1_eq]
        unfold dispatcherlaw02_Great_R1_F
        rw [List.take_length] at hno
        rw [hno]
        exact ⟨rfl, hm02⟩
end Go.Proofs.YtpkfbaagpjdifaaGreatDoor.Tr
set_option linter.unusedVariables false
set_option linter.unusedSimpArgs false
set_option maxRecDepth 4000
namespace Go.Proofs.YtpkfbaagpjdifaaGreatDoor.Tr
open Go Go.X Go.RowKit Go.Proofs.YtpkfbaagpjdifaaGreatDoor.XF Go.Proofs.YtpkfbaagpjdifaaGreatDoor.XK
theorem bexpr_ok : ∀ (e : Ex) (w : World), e.Ok w → e.sz ≤ 1099511627776 → Rt Tryz.prog 76 #[.agg e.cells.toArray] w fun v w' => v = .int .i64 e.steps ∧ Mod none_ w w' := by
  intro e
  induction e using Ex.ind with
  | h e ih =>
    intro w hok hsz
    obtain ⟨A, c, hs, _⟩ := reads_cap hok.args.1
    have hszL : Ex.szL e.args ≤ 1099511627776 := by rw [Ex.sz_eq] at hsz; omega
    have hlen := Ex.len_sz e.args
    refine bound_expr_calls ?_
    unfold bound_expr_F
    refine box_k (cs := e.cells.toArray) rfl fun w1 hb1 hm1 _ => ?_
    have d0 : FAt Tryz.prog w1 85 0 ⟨w.heap.size, 0, none⟩ 5 (.int .u8 e.op) := FAt.mk' (off := 0) (by kernel_rfl) uU8 rfl (by rw [add_pl, cell_blk hb1]; rfl)
    have r0 : ∀ (ρ' : Sl), ρ' 1 = .pointer (some ⟨w.heap.size, 0, none⟩) → ρ' 3 = .int .i64 (exW e.op) →
        sx fn_ Tryz.prog 27 bound_expr_R0 (retK Tryz.prog [ResultVar.tmp 2] fun v w' => v = .int .i64 e.steps ∧ Mod none_ w w') ρ' w1 := by
      intro ρ' q1 q3
      have hW : exW e.op ≤ 3 := by unfold exW; split <;> omega
      rw [bound_expr_R0_eq]
      unfold bound_expr_R0_F
      simp only [q1, fo25_0, fo25_1, fo48_0, fo48_1, fo62_0, fo62_1, fo62_2, fo62_3, fo62_4, fo62_5, fo62_6, fo62_7, fo85_0, fo85_1, fo85_2, fo85_3, ld2, ld3, ld5, ld9, ld22, ld23, ld60, len9, len22, len23, len60, len111, ldK_some, cellE, blkC_c, add_pl, Nat.zero_add, List.getElem?_toArray, List.getElem?_cons_succ, List.getElem?_cons_zero, Ex.c0, Ex.c1, Ex.c2, Ex.c3, Ex.c4, Ex.c5, St.c0, St.c1, St.c2, St.c3, St.c4, St.c5, St.c6, St.c7, St.c8, St.c9, hb1, hs]
      refine W_loop bound_expr_L1_ok (fun ρ w' => ∃ n : Nat, n ≤ e.args.length ∧ ρ 17 = .int .i64 n ∧ ρ 16 = .int .i64 e.args.length ∧ ρ 15 = .slice A e.args.length c ∧ ρ 3 = .int .i64 (exW e.op + Ex.stepsL (e.args.take n) : Nat) ∧ Mod none_ w w') (fun ρ _ => e.args.length - (intOf (ρ 17)).toNat)
        ⟨0, Nat.zero_le _, rfl, rfl, rfl, q3.trans (by simp [Ex.stepsL]), hm1⟩ ?_
      rintro ρ w2 ⟨n, hn, h17, h16, h15, h3, hm⟩
      rw [bound_expr_L1_eq]
      unfold bound_expr_L1_F
      rw [h17, h16, h15, h3, BK_lss]
      by_cases hlt : n < e.args.length
      · rw [show decide ((n : Int) < (e.args.length : Int)) = true by rw [decide_eq_true_eq]; omega]
        refine condT ?_
        have hx : e.args[n]? = some e.args[n] := List.getElem?_eq_getElem hlt
        have hmem : e.args[n] ∈ e.args := List.getElem_mem hlt
        have hok2 := hok.args.mod hm
        rw [hs] at hok2
        refine ixEx hok2 hx fun y => ?_
        refine lcl_k (cs := e.args[n].cells.toArray) zEx _ iEx rfl (ex_one (hok2.at hx)) fun w3 hb3 hm3 _ => ?_
        refine ldB (cs := e.args[n].cells.toArray) Tryz.underlying85 rfl iEx hb3 ?_
        have hs2 := Ex.szL_at hx
        have t1 := Ex.stepsL_sz (e.args.take n)
        have t2 := Ex.steps_sz e.args[n]
        refine CK_st Tryz.func76 rfl rfl (ih _ hmem w3 ((hok2.at hx).mod hm3) (by omega)) ?_
        rintro _ w4 ⟨rfl, hm4⟩
        rw [BK_add, wrap_i (n := ((exW e.op + Ex.stepsL (e.args.take n) : Nat) : Int) + (e.args[n].steps : Int)) (by omega) (by omega), BK_add, wrap_i (n := (n : Int) + 1) (by omega) (by omega)]
        refine ⟨⟨n + 1, hlt, rfl, h16, h15, ?_, (hm.trans hm3).trans hm4⟩, ?_⟩
        · show Value.int .i64 _ = _
          rw [List.take_add_one, hx, Option.toList_some, Ex.stepsL_snoc]
          congr 1
          omega
        · show e.args.length - (intOf (Value.int .i64 ((n : Int) + 1))).toNat < _
          simp only [intOf]; omega
      · obtain rfl : n = e.args.length := by omega
        rw [show decide (((e.args.length : Nat) : Int) < (e.args.length : Int)) = false by simp]
        refine condF ?_
        rw [List.take_length] at h3
        rw [sq_x, bk_x, sq_n, bound_expr_R2_eq]
        unfold bound_expr_R2_F
        refine ⟨?_, hm⟩
        refine h3.trans ?_
        rw [Ex.steps_eq]
    refine d0.vk' fun x6 => ?_
    rw [BK_eql]
    refine fO' d0 (fun K => BK_eql _ _ _ _ _ _) fun x10 x11 x12 => ?_
    have hw : ((e.op == 19) || (e.op == 20)) = decide (e.op = 19 ∨ e.op = 20) := by
      simp only [beq_dec]
      by_cases q3 : e.op = 19 <;> by_cases q4 : e.op = 20 <;> simp [q3, q4]
    rw [hw]
    refine caseC (fun hp => ?_) (fun hp => ?_)
    · rw [decide_eq_true_eq] at hp
      refine r0 _ rfl ?_
      show Value.int .i64 3 = _
      unfold exW
      rw [if_pos hp]
      rfl
    · rw [decide_eq_false_iff_not] at hp
      refine r0 _ rfl ?_
      show Value.int .i64 1 = _
      unfold exW
      rw [if_neg hp]
      rfl
end Go.Proofs.YtpkfbaagpjdifaaGreatDoor.Tr
set_option linter.unusedVariables false
set_option linter.unusedSimpArgs false
set_option maxRecDepth 4000
namespace Go.Proofs.YtpkfbaagpjdifaaGreatDoor.Tr
open Go Go.X Go.RowKit Go.Proofs.YtpkfbaagpjdifaaGreatDoor.XF Go.Proofs.YtpkfbaagpjdifaaGreatDoor.XK
theorem may_args {e : Ex} (h : e.may = true) : e.args.length = sidesP e.op ∧ 1 ≤ e.op ∧ e.op ≤ 20 ∧ ∀ a ∈ e.args, a.may = true := by
  rw [Ex.may_eq, Bool.and_eq_true, Ex.mayL_eq, List.all_eq_true] at h
  obtain ⟨h1, h2⟩ := h
  unfold Ex.own at h1
  simp only [Bool.and_eq_true, decide_eq_true_eq] at h1
  exact ⟨h1.1.2, h1.1.1.1, h1.1.1.2, h2⟩
/-- An expression of a row, read where a region draws. -/
theorem QldEx {C : World → Prop} {e : Ex} {a : Addr} {K : Value → Prop} (h : ∀ w, C w → ∀ j u, e.cells[j]? = some u → w.cell? (a.add j) = some u) (hk : K (.agg e.cells.toArray)) : QK Tryz.prog C (do pure (Next.value (← Instr.loadAt 85 (.pointer (some a))))) K :=
  QV_of (fun w hw => run_ldA (cs := e.cells) Tryz.underlying85 rfl iEx (h w hw)) hk
theorem exprR_ok : ∀ (e : Ex) (w : World), e.Ok w → e.sz ≤ 1099511627776 → e.may = true → Rt Tryz.prog 83 #[.agg e.cells.toArray] w fun v w' => v = .int .i64 e.steps ∧ Mod none_ w w' := by
  intro e
  induction e using Ex.ind with
  | h e ih =>
    intro w hok hsz hmay
    obtain ⟨hl, h1, h20, hall⟩ := may_args hmay
    obtain ⟨A, c, hs, _⟩ := reads_cap hok.args.1
    have hszL : Ex.szL e.args ≤ 1099511627776 := by rw [Ex.sz_eq] at hsz; omega
    refine dispatcherref09_expr_calls ?_
    unfold dispatcherref09_expr_F
    refine box_k (cs := e.cells.toArray) rfl fun w1 hb1 hm1 _ => ?_
    have d0 : FAt Tryz.prog w1 85 0 ⟨w.heap.size, 0, none⟩ 5 (.int .u8 e.op) := FAt.mk' (off := 0) (by kernel_rfl) uU8 rfl (by rw [add_pl, cell_blk hb1]; rfl)
    have cell : ∀ (w' : World), Mod none_ w1 w' → ∀ (j : Nat) v, e.cells[j]? = some v → w'.cell? ((⟨w.heap.size, 0, none⟩ : Addr).add j) = some v := fun w' hw j v hv => by
      rw [add_pl, cell_blk (hw.blk hb1 id), Nat.zero_add]
      simpa using hv
    have hst := Ex.stepsL_sz e.args
    have hrow : ∀ w', Mod none_ w1 w' → ExsOk w' (.slice A e.args.length c) e.args := fun w' hw => by rw [← hs]; exact (hok.args.mod hm1).mod hw
    -- two parts
    have two : sidesP e.op = 2 → ∃ x y, e.args = [x, y] := fun q => by
      rw [q] at hl
      match hh : e.args, hl with
      | [x, y], _ => exact ⟨x, y, rfl⟩
    have r0 := Mod.refl none_ w1
    refine d0.vk' fun x3 => ?_
    have nine : ∀ (k : Nat), e.op ≠ 3 → e.op ≠ 4 → e.op ≠ 6 → e.op ≠ 7 → e.op ≠ 1 → e.op ≠ 2 → e.op ≠ 5 → sidesP e.op = 2 := fun k a b c d f g h => by
      unfold sidesP; rw [if_pos (by omega)]
    have go0 : ∀ (ρ' : Sl) (t : Bool), ρ' 1 = .pointer (some ⟨w.heap.size, 0, none⟩) → ρ' 4 = .int .u8 e.op → ρ' 5 = .bool t → t = decide (e.op = 3 ∨ e.op = 4 ∨ e.op = 6 ∨ e.op = 7) →
        sx fn_ Tryz.prog 47 dispatcherref09_expr_R0 (blkK 0 (seqK (sx fn_ Tryz.prog 47 dispatcherref09_expr_R1 (retK Tryz.prog [ResultVar.tmp 2] fun v w' => v = .int .i64 e.steps ∧ Mod none_ w w')) (retK Tryz.prog [ResultVar.tmp 2] fun v w' => v = .int .i64 e.steps ∧ Mod none_ w w'))) ρ' w1 := by
      intro ρ' t q1 q4 q5 ht
      rw [dispatcherref09_expr_R0_eq]
      unfold dispatcherref09_expr_R0_F
      rw [q5, q4, q1]
      subst ht
      refine caseC (fun hp => ?_) (fun hp => ?_)
      · rw [decide_eq_true_eq] at hp
        have hone : sidesP e.op = 1 := by unfold sidesP; rw [if_neg (by omega), if_pos hp]
        rw [hone] at hl
        obtain ⟨x, hx⟩ : ∃ x, e.args = [x] := by
          match hh : e.args, hl with
          | [x], _ => exact ⟨x, rfl⟩
        have hmem : x ∈ e.args := by rw [hx]; simp
        have hsx := Ex.szL_mem hmem
        simp only [fo25_0, fo25_1, fo48_0, fo48_1, fo62_0, fo62_1, fo62_2, fo62_3, fo62_4, fo62_5, fo62_6, fo62_7, fo85_0, fo85_1, fo85_2, fo85_3, ld2, ld3, ld5, ld9, ld22, ld23, ld60, len9, len22, len23, len60, len111, ldK_some, cellE, blkC_c, add_pl, Nat.zero_add, List.getElem?_toArray, List.getElem?_cons_succ, List.getElem?_cons_zero, Ex.c0, Ex.c1, Ex.c2, Ex.c3, Ex.c4, Ex.c5, St.c0, St.c1, St.c2, St.c3, St.c4, St.c5, St.c6, St.c7, St.c8, St.c9, hb1, hs]
        refine ixEx (i := 0) (e := x) (hrow w1 r0) (by rw [hx]; rfl) fun y => ?_
        refine CK_st Tryz.func83 rfl rfl (ih x hmem w1 ((hok.args.mod hm1).2 x hmem) (by omega) (hall x hmem)) ?_
        rintro _ w2 ⟨rfl, hm2⟩
        have := Ex.steps_sz x
        rw [BK_add, wrap_i (n := (x.steps : Int) + 1) (by omega) (by omega)]
        refine ⟨?_, hm1.trans hm2⟩
        show Value.int .i64 ((x.steps : Int) + 1) = _
        rw [Ex.steps_eq e, hx]
        unfold exW
        rw [if_neg (by omega)]
        simp only [Ex.stepsL]
        congr 1
        omega
      rw [decide_eq_false_iff_not] at hp
      have go2 : ∀ (ρ' : Sl) (t : Bool), ρ' 1 = .pointer (some ⟨w.heap.size, 0, none⟩) → ρ' 4 = .int .u8 e.op → ρ' 16 = .bool t → t = decide (e.op = 19 ∨ e.op = 20) →
          sx fn_ Tryz.prog 47 dispatcherref09_expr_R2 (blkK 0 (seqK (sx fn_ Tryz.prog 47 dispatcherref09_expr_R1 (retK Tryz.prog [ResultVar.tmp 2] fun v w' => v = .int .i64 e.steps ∧ Mod none_ w w')) (retK Tryz.prog [ResultVar.tmp 2] fun v w' => v = .int .i64 e.steps ∧ Mod none_ w w'))) ρ' w1 := by
        intro ρ' t q1 q4 q16 ht
        rw [dispatcherref09_expr_R2_eq]
        unfold dispatcherref09_expr_R2_F
        rw [q16, q4]
        subst ht
        refine caseC (fun h2 => ?_) (fun h2 => ?_)
        · rw [decide_eq_true_eq] at h2
          obtain ⟨x, y, hx⟩ := two (by unfold sidesP; rw [if_pos (by omega)])
          have hmx : x ∈ e.args := by rw [hx]; simp
          have hmy : y ∈ e.args := by rw [hx]; simp
          have hsum : Ex.szL e.args = x.sz + (y.sz + 0) := by rw [hx]; rfl
          have tx := Ex.steps_sz x
          have ty := Ex.steps_sz y
          refine dispatcherref09_expr_R5_quiet (D := []) (fun w' => Mod none_ w1 w') ((Mod.refl _ w1).drawn _) ?_
          unfold dispatcherref09_expr_R5_Q
          rw [q1]
          refine Qfo (off := 3) (a := ⟨w.heap.size, 0, none⟩) (by kernel_rfl) (Qld uExs rfl (v := .slice A e.args.length c) (fun w' hw => cell w' hw 3 _ (by rw [← hs]; rfl)) ?_)
          refine QixEx (i := 0) (e := x) (w0 := w1) r0 hrow (by rw [hx]; rfl) fun a ha => QldEx ha ?_
          refine QC_rt Tryz.func83 rfl rfl (v := .int .i64 x.steps) (fun w' hw => ih x hmx w' ((hrow w' hw).2 x hmx) (by omega) (hall x hmx)) (fun w' u w'' hw hu => ⟨hu.1, hw.trans hu.2⟩) ?_
          refine Qfo (off := 3) (a := ⟨w.heap.size, 0, none⟩) (by kernel_rfl) (Qld uExs rfl (v := .slice A e.args.length c) (fun w' hw => cell w' hw 3 _ (by rw [← hs]; rfl)) ?_)
          refine QixEx (i := 1) (e := y) (w0 := w1) r0 hrow (by rw [hx]; rfl) fun a ha => QldEx ha ?_
          refine QC_rt Tryz.func83 rfl rfl (v := .int .i64 y.steps) (fun w' hw => ih y hmy w' ((hrow w' hw).2 y hmy) (by omega) (hall y hmy)) (fun w' u w'' hw hu => ⟨hu.1, hw.trans hu.2⟩) (Qadd (Qadd ?_))
          intro w2 hm2
          rw [sq_n, dispatcherref09_expr_R6_eq]
          unfold dispatcherref09_expr_R6_F
          refine ⟨?_, hm1.trans hm2⟩
          show Value.int .i64 (IntKind.i64.wrap (IntKind.i64.wrap ((x.steps : Int) + (y.steps : Int)) + 3)) = _
          rw [wrap_i (n := (x.steps : Int) + (y.steps : Int)) (by omega) (by omega), wrap_i (n := (x.steps : Int) + (y.steps : Int) + 3) (by omega) (by omega), Ex.steps_eq e, hx]
          unfold exW
          rw [if_pos h2]
          simp only [Ex.stepsL]
          congr 1
          omega
        · rw [decide_eq_false_iff_not] at h2
          have go7 : ∀ (ρ' : Sl) (t : Bool), ρ' 1 = .pointer (some ⟨w.heap.size, 0, none⟩) → ρ' 31 = .bool t → t = decide (e.op = 1 ∨ e.op = 2 ∨ e.op = 5) →
              sx fn_ Tryz.prog 47 dispatcherref09_expr_R7 (blkK 0 (seqK (sx fn_ Tryz.prog 47 dispatcherref09_expr_R1 (retK Tryz.prog [ResultVar.tmp 2] fun v w' => v = .int .i64 e.steps ∧ Mod none_ w w')) (retK Tryz.prog [ResultVar.tmp 2] fun v w' => v = .int .i64 e.steps ∧ Mod none_ w w'))) ρ' w1 := by
            intro ρ' t q1 q31 ht
            rw [dispatcherref09_expr_R7_eq]
            unfold dispatcherref09_expr_R7_F
            rw [q31]
            subst ht
            refine caseC (fun h3 => ?_) (fun h3 => ?_)
            · rw [decide_eq_true_eq] at h3
              refine ⟨?_, hm1⟩
              have hz : e.args = [] := List.length_eq_zero_iff.1 (by rw [hl]; unfold sidesP; rw [if_neg (by omega), if_neg (by omega)])
              show Value.int .i64 1 = _
              rw [Ex.steps_eq, hz]
              unfold exW
              rw [if_neg h2]
              rfl
            · rw [decide_eq_false_iff_not] at h3
              rw [bk_n, sq_n, dispatcherref09_expr_R1_eq]
              unfold dispatcherref09_expr_R1_F
              obtain ⟨x, y, hx⟩ := two (by unfold sidesP; rw [if_pos (by omega)])
              have hmx : x ∈ e.args := by rw [hx]; simp
              have hmy : y ∈ e.args := by rw [hx]; simp
              have hsum : Ex.szL e.args = x.sz + (y.sz + 0) := by rw [hx]; rfl
              have tx := Ex.steps_sz x
              have ty := Ex.steps_sz y
              refine dispatcherref09_expr_R3_quiet (D := []) (fun w' => Mod none_ w1 w') ((Mod.refl _ w1).drawn _) ?_
              unfold dispatcherref09_expr_R3_Q
              rw [q1]
              refine Qfo (off := 3) (a := ⟨w.heap.size, 0, none⟩) (by kernel_rfl) (Qld uExs rfl (v := .slice A e.args.length c) (fun w' hw => cell w' hw 3 _ (by rw [← hs]; rfl)) ?_)
              refine QixEx (i := 0) (e := x) (w0 := w1) r0 hrow (by rw [hx]; rfl) fun a ha => QldEx ha ?_
              refine QC_rt Tryz.func83 rfl rfl (v := .int .i64 x.steps) (fun w' hw => ih x hmx w' ((hrow w' hw).2 x hmx) (by omega) (hall x hmx)) (fun w' u w'' hw hu => ⟨hu.1, hw.trans hu.2⟩) ?_
              refine Qfo (off := 3) (a := ⟨w.heap.size, 0, none⟩) (by kernel_rfl) (Qld uExs rfl (v := .slice A e.args.length c) (fun w' hw => cell w' hw 3 _ (by rw [← hs]; rfl)) ?_)
              refine QixEx (i := 1) (e := y) (w0 := w1) r0 hrow (by rw [hx]; rfl) fun a ha => QldEx ha ?_
              refine QC_rt Tryz.func83 rfl rfl (v := .int .i64 y.steps) (fun w' hw => ih y hmy w' ((hrow w' hw).2 y hmy) (by omega) (hall y hmy)) (fun w' u w'' hw hu => ⟨hu.1, hw.trans hu.2⟩) (Qadd (Qadd ?_))
              intro w2 hm2
              rw [sq_n, dispatcherref09_expr_R4_eq]
              unfold dispatcherref09_expr_R4_F
              refine ⟨?_, hm1.trans hm2⟩
              show Value.int .i64 (IntKind.i64.wrap (IntKind.i64.wrap ((x.steps : Int) + (y.steps : Int)) + 1)) = _
              rw [wrap_i (n := (x.steps : Int) + (y.steps : Int)) (by omega) (by omega), wrap_i (n := (x.steps : Int) + (y.steps : Int) + 1) (by omega) (by omega), Ex.steps_eq e, hx]
              unfold exW
              rw [if_neg h2]
              simp only [Ex.stepsL]
              congr 1
              omega
          refine caseI (fun h3 => condT ?_) (fun h3 => condF ?_)
          · refine go7 _ true ?_ rfl (by rw [decide_eq_true (Or.inl h3)])
            exact q1
          refine caseI (fun h4 => condT ?_) (fun h4 => condF ?_)
          · refine go7 _ true ?_ rfl (by rw [decide_eq_true (Or.inr (Or.inl h4))])
            exact q1
          rw [BK_eql]
          refine go7 _ (e.op == 5) ?_ rfl ?_
          · exact q1
          · rw [beq_dec]
            by_cases q : e.op = 5
            · rw [decide_eq_true q, decide_eq_true (Or.inr (Or.inr q))]
            · rw [decide_eq_false q, decide_eq_false (by omega)]
      refine caseI (fun h3 => condT ?_) (fun h3 => condF ?_)
      · refine go2 _ true ?_ ?_ rfl (by rw [decide_eq_true (Or.inl h3)])
        · exact q1
        · exact q4
      rw [BK_eql]
      refine go2 _ (e.op == 20) ?_ ?_ rfl ?_
      · exact q1
      · exact q4
      · rw [beq_dec]
        by_cases q : e.op = 20
        · rw [decide_eq_true q, decide_eq_true (Or.inr q)]
        · rw [decide_eq_false q, decide_eq_false (by omega)]
    refine caseI (fun h3 => condT ?_) (fun h3 => condF ?_)
    · exact go0 _ true rfl rfl rfl (by rw [decide_eq_true (Or.inl h3)])
    refine caseI (fun h4 => condT ?_) (fun h4 => condF ?_)
    · exact go0 _ true rfl rfl rfl (by rw [decide_eq_true (Or.inr (Or.inl h4))])
    refine caseI (fun h6 => condT ?_) (fun h6 => condF ?_)
    · exact go0 _ true rfl rfl rfl (by rw [decide_eq_true (Or.inr (Or.inr (Or.inl h6)))])
    rw [BK_eql]
    refine go0 _ (e.op == 7) rfl rfl rfl ?_
    rw [beq_dec]
    by_cases q : e.op = 7
    · rw [decide_eq_true q, decide_eq_true (Or.inr (Or.inr (Or.inr q)))]
    · rw [decide_eq_false q, decide_eq_false (by omega)]
end Go.Proofs.YtpkfbaagpjdifaaGreatDoor.Tr
set_option linter.unusedVariables false
set_option linter.unusedSimpArgs false
namespace Go.X
open Go
inductive Pd where
  | done
  | take (i : Nat) (r : Pd)
  | only (d : Bool) (i : Nat) (r : Pd)
  | two (d e : Bool) (i j : Nat) (a b : Pd)
def Pd.len : Pd → Nat
  | .done => 0
  | .take _ r => r.len + 1
  | .only _ _ r => r.len + 1
  | .two _ _ _ _ a _ => a.len + 1
/-- A function's value, of a function that has a body. -/
def FnL (P : Program) (v : Value) : Prop := ∃ f fn a b, v = .func (.func f) a b ∧ P.funcs[f]? = some fn ∧ fn.body.isNone = false ∧ (fn.name == "runtime.NumGoroutine") = false
def fnOf : Op → Option Operand
  | .call { callee := .value g, .. } => some g
  | _ => none
def stepD (P : Program) (ops : Array Oper) (o : Oper) (N : Sl → World → Prop) (ρ : Sl) (w : World) : Bool → Prop
  | false => sx1 P ops o N ρ w
  | true => (match fnOf o.op with | none => False | some g => FnL P (ev ρ g)) ∧ sx1 P ops o N ρ w
theorem dyn_run {P : Program} {w w' : World} {ρ : Operand → Value} {o : Oper} {g : Operand} {l : Nat} {f : FuncId} {t : Array Value} {x y : Code} (hg : fnOf o.op = some g) (h : FnL P (ρ g)) : (execOp ρ o).run P w ≠ .ok (.round l f t x y) w' := by
  obtain ⟨dst, op, ty, pos, after, guard⟩ := o
  cases op with
  | call c =>
    obtain ⟨callee, args, argTypes⟩ := c
    cases callee with
    | value g' =>
      cases hg
      obtain ⟨k, fn, a, b, hf, hk, h1, h2⟩ := h
      have hb' : fn.body ≠ none := by intro q; rw [q] at h1; cases h1
      have hn' : fn.name ≠ "runtime.NumGoroutine" := by intro q; rw [q] at h2; simp at h2
      have hc : (callFunc k (a ++ args.map ρ ++ b)).run P w = .ok (.enter k (a ++ args.map ρ ++ b)) w := by
        simp [callFunc, program, Sem.run, hk, hb', hn', Sem.run_bind, pure, bind, Sem.bind]
      intro q
      have he : (execOp ρ { dst := dst, op := .call { callee := .value g, args := args, argTypes := argTypes }, type := ty, pos := pos, after := after, guard := guard }).run P w = .ok (.enter k (a ++ args.map ρ ++ b)) w := by
        simp only [execOp, resolve, hf, Deferred.ofValue, Sem.run_bind, Sem.run_pure, Result.andThen_ok, invoke]
        exact hc
      rw [he] at q
      cases q
    | _ => cases hg
  | _ => cases hg
def sxd (P : Program) (S : World → Prop) (ops : Array Oper) (K : Sl → World → Prop) : Pd → Sl → World → Prop
  | .done, ρ, w => K ρ w
  | .take i r, ρ, w => match ops[i]? with | none => False | some o => sxt1 P S ops o (fun ρ => sxd P S ops K r ρ w) ρ
  | .only d i r, ρ, w => match ops[i]? with | none => False | some o => stepD P ops o (fun ρ w => S w ∧ sxd P S ops K r ρ w) ρ w d
  | .two d e i j a b, ρ, w => (match ops[i]? with | none => False | some o => stepD P ops o (fun ρ w => S w ∧ sxd P S ops K a ρ w) ρ w d) ∧ (match ops[j]? with | none => False | some o => stepD P ops o (fun ρ w => S w ∧ sxd P S ops K b ρ w) ρ w e)
def opOkD (P : Program) (n : Nat) (ops : Array Oper) (d : Bool) (i : Nat) : Bool := match ops[i]? with | none => false | some o => oOk n o && (d || noRound P o.op)
def Pd.ok (P : Program) (n : Nat) (ops : Array Oper) : Pd → Array Bool → Bool
  | .done, listed => (Region.ready .any ops listed).isEmpty
  | .take i r, listed => (match ops[i]? with | none => false | some o => oOk n o && (Region.free .any ops listed i && (Region.ready .any ops listed).contains i)) && Pd.ok P n ops r (listed.setIfInBounds i true)
  | .only d i r, listed => opOkD P n ops d i && (Region.ready .any ops listed == [i]) && Pd.ok P n ops r (listed.setIfInBounds i true)
  | .two d e i j a b, listed => opOkD P n ops d i && opOkD P n ops e j && (Region.ready .any ops listed == [i, j]) && (a.len == b.len) && Pd.ok P n ops a (listed.setIfInBounds i true) && Pd.ok P n ops b (listed.setIfInBounds j true)
theorem opOkD_some {P : Program} {n : Nat} {ops : Array Oper} {d : Bool} {i : Nat} (h : opOkD P n ops d i = true) : ∃ o, ops[i]? = some o ∧ oOk n o = true ∧ (d || noRound P o.op) = true := by
  unfold opOkD at h
  cases ho : ops[i]? with
  | none => rw [ho] at h; cases h
  | some o =>
    rw [ho] at h
    simp only [Bool.and_eq_true] at h
    exact ⟨o, rfl, h.1, h.2⟩
theorem stepD_wp {P : Program} {D : List Deferred} {n : Nat} {ops : Array Oper} {Q : Exit → Act → World → Prop} {o : Oper} {N : Sl → World → Prop} {next : Act → World → Prop} {a : Act} {ρ : Sl} {w : World} {dy : Bool}
    (hr : (dy || noRound P o.op) = true) (hd : ∀ k, o.dst = some k → k < n) (hl : Lk ⟨none, D⟩ n a ρ) (h : stepD P ops o N ρ w dy) (hn : ∀ a ρ w, Lk ⟨none, D⟩ n a ρ → N ρ w → next a w) :
    if Region.wanted o (yielded ops a.tmps) then o.wp P a w next Q ∨ (o.asks P a w ∧ LetsOut Q) else next (a.put o.dst undef) w := by
  cases dy with
  | false => exact sx1_wp0 (n := n) (by simpa using hr) hd hl h hn
  | true =>
    obtain ⟨hg, h⟩ := h
    cases hf : fnOf o.op with
    | none => rw [hf] at hg; exact hg.elim
    | some g =>
      rw [hf] at hg
      have he : a.eval = ev ρ := funext (fun x => hl.ev x)
      rw [sx1_eq] at h
      have key : ∀ (hk : OpK P (exo (ev ρ) o.op o.type) w fun v w' => N (upo ρ o.dst v) w'), o.wp P a w next Q := by
        intro hk
        unfold Oper.wp
        rw [he]
        rw [exo_eq] at hk
        unfold OpK at hk
        unfold Oper.upon
        split at hk
        · rename_i v w' hr; rw [hr]; exact hn _ _ _ (hl.put _ _ hd) hk
        · rename_i w' hr; rw [hr]; exact hn _ _ _ (hl.put _ _ hd) hk
        · rename_i f args w' hr
          rw [hr]
          refine hk.mono ?_
          rintro e w'' ⟨v, rfl, hv⟩
          exact hn _ _ _ (hl.put _ _ hd) hv
        · rename_i l f tmps assign body w' hrun
          exact absurd hrun (dyn_run hf hg)
        · exact hk.elim
      cases hgd : o.guard with
      | none =>
        rw [hgd] at h
        have hw : Region.wanted o (yielded ops a.tmps) = true := by unfold Region.wanted; rw [hgd]
        rw [hw]
        simp only [if_true]
        exact .inl (key h)
      | some jb =>
        obtain ⟨j, b⟩ := jb
        rw [hgd] at h
        obtain ⟨h1, h2⟩ := h
        have hy := wanted_gv hl ops hgd
        by_cases htb : wantB (gv ops ρ j) b = true
        · have hw : Region.wanted o (yielded ops a.tmps) = true := hy.trans htb
          rw [hw]
          simp only [if_true]
          exact .inl (key (h1 htb))
        · have htb : wantB (gv ops ρ j) b = false := Bool.eq_false_iff.2 htb
          have hw : Region.wanted o (yielded ops a.tmps) = false := hy.trans htb
          rw [hw]
          simp only [Bool.false_eq_true, if_false]
          exact hn _ _ _ (hl.put _ _ hd) (h2 htb)
theorem sxd_held {P : Program} {n : Nat} {D : List Deferred} {S : World → Prop} {ops : Array Oper} {K : Sl → World → Prop} {Q : Exit → Act → World → Prop} (hQ : ∀ a ρ w, Lk ⟨none, D⟩ n a ρ → K ρ w → Q .normal a w)
    (hp : ∀ c a w, ¬ Q (.panic c) a w) (hs : Region.noSelect ops = true) : ∀ (l : Pd) (listed : Array Bool) a ρ w,
    l.ok P n ops listed = true → Lk ⟨none, D⟩ n a ρ → S w → sxd P S ops K l ρ w → wpAnyH P .any ops Q S l.len listed a w
  | .done, listed, a, ρ, w, hpl, hl, hS, h => ⟨List.isEmpty_iff.1 hpl, hQ a ρ w hl h⟩
  | .take i r, listed, a, ρ, w, hpl, hl, hS, h => by
    unfold Pd.ok at hpl
    unfold sxd at h
    cases ho : ops[i]? with
    | none => rw [ho] at h; exact h.elim
    | some o =>
      rw [ho] at h hpl
      dsimp only at h hpl
      simp only [Bool.and_eq_true] at hpl
      obtain ⟨⟨h1, h2, h3⟩, h4⟩ := hpl
      obtain ⟨v, hy, ρ', hl', hN⟩ := sxt1_yields (oOk_dst h1) hl h
      exact wpAnyH_take ho hs h2 h3 (fun c a w q => absurd q (hp _ _ _)) hy hS (sxd_held hQ hp hs r _ _ ρ' w h4 hl' hS hN)
  | .only d i r, listed, a, ρ, w, hpl, hl, hS, h => by
    unfold Pd.ok at hpl
    unfold sxd at h
    simp only [Bool.and_eq_true, beq_iff_eq] at hpl
    obtain ⟨⟨h1, h3⟩, h4⟩ := hpl
    obtain ⟨o, ho, g1, g2⟩ := opOkD_some h1
    rw [ho] at h
    dsimp only at h
    refine wpAnyH_all h3 (by simp) fun j hj => ?_
    obtain rfl : j = i := by simpa using hj
    unfold wpOp
    rw [ho]
    exact stepD_wp (n := n) g2 (oOk_dst g1) hl h (fun a ρ w hl hq => ⟨hq.1, sxd_held hQ hp hs r _ a ρ w h4 hl hq.1 hq.2⟩)
  | .two d e i j a b, listed, ac, ρ, w, hpl, hl, hS, h => by
    unfold Pd.ok at hpl
    unfold sxd at h
    simp only [Bool.and_eq_true, beq_iff_eq] at hpl
    obtain ⟨⟨⟨⟨⟨h1, h2⟩, h3⟩, h4⟩, h5⟩, h6⟩ := hpl
    obtain ⟨o, ho, g1, g1'⟩ := opOkD_some h1
    obtain ⟨o', ho', g2, g2'⟩ := opOkD_some h2
    rw [ho, ho'] at h
    dsimp only at h
    refine wpAnyH_all h3 (by simp) fun k hk => ?_
    rcases List.mem_cons.1 hk with rfl | hk
    · unfold wpOp
      rw [ho]
      exact stepD_wp (n := n) g1' (oOk_dst g1) hl h.1 (fun a' ρ w hl hq => ⟨hq.1, sxd_held hQ hp hs a _ a' ρ w h5 hl hq.1 hq.2⟩)
    · obtain rfl : k = j := by simpa using hk
      unfold wpOp
      rw [ho']
      have h4' : a.len = b.len := by simpa using h4
      rw [h4']
      exact stepD_wp (n := n) g2' (oOk_dst g2) hl h.2 (fun a' ρ w hl hq => ⟨hq.1, sxd_held hQ hp hs b _ a' ρ w h6 hl hq.1 hq.2⟩)
theorem W_pland {P : Program} {n : Nat} {D : List Deferred} {id : Nat} {ops : Array Oper} {K : Exit → Sl → World → Prop} {ρ : Sl} {w : World} (S : World → Prop) (plan : Pd) (hlen : plan.len = ops.size)
    (hs : Region.noSelect ops = true) (hpl : plan.ok P n ops (Array.replicate ops.size false) = true) (hm : P.follows .mixedOrders = true) (hS : S { w with drawn := w.drawn + 1 })
    (h : sxd P S ops (K .normal) plan ρ { w with drawn := w.drawn + 1 }) : W ⟨none, D⟩ P n (.region id ops true) K ρ w := by
  intro a hl
  refine wpIn_wide.2 (Code.wp_mono ?_ (wp_region_held (S := S) (Q := fun e a w => e = .normal ∧ ∃ ρ, Lk ⟨none, D⟩ n a ρ ∧ K .normal ρ w) hm ?_))
  · rintro e a w ⟨rfl, ρ, hl, hk⟩
    exact ⟨ρ, hl, hk⟩
  · have := sxd_held (Q := fun e a w => e = .normal ∧ ∃ ρ, Lk ⟨none, D⟩ n a ρ ∧ K .normal ρ w) (fun a ρ w hl hk => ⟨rfl, ρ, hl, hk⟩) (fun c a w q => by cases q.1) hs plan _ a ρ _ hpl hl hS h
    rw [hlen] at this
    exact this
end Go.X
set_option linter.unusedVariables false
set_option maxRecDepth 100000
namespace Go.Proofs.YtpkfbaagpjdifaaGreatDoor.XH
open Go Go.X
/-- dispatcher/bound.Of -/
noncomputable def bound_Of_b : Code := (Tryz.f16.body).getD .skip
noncomputable def bound_Of_F (a0 a1 : Value) (w : World) (R : Value → World → Prop) : Prop :=
  VK Tryz.prog (Instr.box 25 a0) w fun x2 w => VK Tryz.prog (Instr.alloc 42 true (.tuple #[])) w fun x4 w => VK Tryz.prog (Instr.loadAt 25 x2) w fun x8 w => CK Tryz.prog (Value.func (Fn.func 26) #[] #[]) [x8] w fun x9 w => VK Tryz.prog (Instr.field 64 x9 0) w fun x10 w => BK Tryz.prog BinOp.neq 27 (Operand.tmp 10) (Operand.const (Value.int IntKind.i64 0)) x10 (Value.int IntKind.i64 0) w fun x11 w => MG Tryz.prog x11 false a1 w fun x13 w => BG Tryz.prog x11 false BinOp.lss 3 (Operand.tmp 13) (Operand.const (Value.int IntKind.i64 1)) x13 (Value.int IntKind.i64 1) w fun x14 w => PK Tryz.prog x11 (Value.bool true) x14 w fun x15 w => MG Tryz.prog x15 false a1 w fun x17 w => BG Tryz.prog x15 false BinOp.gtr 3 (Operand.tmp 17) (Operand.const (Value.int IntKind.i64 64)) x17 (Value.int IntKind.i64 64) w fun x18 w => PK Tryz.prog x15 (Value.bool true) x18 w fun x19 w => CondK x19 (VK Tryz.prog (Instr.build 42 [].toArray) w fun x20 w => UK Tryz.prog (Instr.storeAt 42 x4 x20) w fun _ w => ∃ x4_1, (do loadVar 42 (← asAddr x4) : Sem Value).run Tryz.prog w = .ok x4_1 w ∧ R (Value.tuple #[x4_1, (Value.int IntKind.i64 2)]) w) (VK Tryz.prog (Instr.loadAt 25 x2) w fun x22 w => CK Tryz.prog (Value.func (Fn.func 27) #[] #[]) [x22] w fun x23 w => VK Tryz.prog (Op.unary UnOp.not x23) w fun x24 w => CondK x24 (VK Tryz.prog (Instr.build 42 [].toArray) w fun x25 w => UK Tryz.prog (Instr.storeAt 42 x4 x25) w fun _ w => ∃ x4_2, (do loadVar 42 (← asAddr x4) : Sem Value).run Tryz.prog w = .ok x4_2 w ∧ R (Value.tuple #[x4_2, (Value.int IntKind.i64 90)]) w) (VK Tryz.prog (Instr.fieldAt 25 x2 1) w fun x27 w => VK Tryz.prog (Instr.loadAt 23 x27) w fun x28 w => CK Tryz.prog (Value.func (Fn.func 28) #[] #[]) [a1, x28] w fun x29 w => VK Tryz.prog (Instr.build 42 [(0, (Value.int IntKind.i64 1))].toArray) w fun x30 w => CK Tryz.prog (Value.func (Fn.func 29) #[] #[]) [x29, x30] w fun x31 w => VK Tryz.prog (Instr.alloc 42 true (.tuple #[])) w fun x6 w => UK Tryz.prog (Instr.storeAt 42 x6 x31) w fun _ w => VK Tryz.prog (Instr.fieldAt 42 x6 0) w fun x32 w => VK Tryz.prog (Instr.loadAt 3 x32) w fun x33 w => BK Tryz.prog BinOp.gtr 3 (Operand.tmp 33) (Operand.const (Value.int IntKind.i64 1048576)) x33 (Value.int IntKind.i64 1048576) w fun x34 w => CondK x34 (VK Tryz.prog (Instr.build 42 [].toArray) w fun x35 w => UK Tryz.prog (Instr.storeAt 42 x4 x35) w fun _ w => ∃ x4_3, (do loadVar 42 (← asAddr x4) : Sem Value).run Tryz.prog w = .ok x4_3 w ∧ R (Value.tuple #[x4_3, (Value.int IntKind.i64 90)]) w) (VK Tryz.prog (Instr.loadAt 42 x6) w fun x36 w => UK Tryz.prog (Instr.storeAt 42 x4 x36) w fun _ w => ∃ x4_4, (do loadVar 42 (← asAddr x4) : Sem Value).run Tryz.prog w = .ok x4_4 w ∧ R (Value.tuple #[x4_4, (Value.int IntKind.i64 0)]) w)))
theorem bound_Of_eq (a0 a1 : Value) (w : World) (R : Value → World → Prop) : sx fn_ Tryz.prog 37 bound_Of_b (retK Tryz.prog Tryz.f16.results.toList R) (rho0 [a0, a1]) w = bound_Of_F a0 a1 w R := by kernel_rfl
theorem bound_Of_calls {a0 a1 : Value} {w : World} {R : Value → World → Prop} (h : bound_Of_F a0 a1 w R) : Calls Tryz.prog 16 #[a0, a1] w fun e w' => ∃ v, e = .returned v ∧ R v w' :=
  Go.X.calls_of_sx (n := 37) (c := bound_Of_b) Tryz.func16 (by kernel_rfl) (by kernel_rfl) (Nat.le_of_ble_eq_true rfl) (by kernel_rfl) (Eq.mpr (bound_Of_eq a0 a1 w R) h)
/-- dispatcher/dispatcherref09.Of -/
noncomputable def dispatcherref09_Of_b : Code := (Tryz.f21.body).getD .skip
noncomputable def dispatcherref09_Of_F (a0 a1 : Value) (w : World) (R : Value → World → Prop) : Prop :=
  VK Tryz.prog (Instr.box 25 a0) w fun x2 w => VK Tryz.prog (Instr.alloc 42 true (.tuple #[])) w fun x4 w => VK Tryz.prog (Instr.loadAt 25 x2) w fun x7 w => CK Tryz.prog (Value.func (Fn.func 34) #[] #[]) [x7] w fun x8 w => VK Tryz.prog (Instr.field 64 x8 0) w fun x9 w => BK Tryz.prog BinOp.neq 27 (Operand.tmp 9) (Operand.const (Value.int IntKind.i64 0)) x9 (Value.int IntKind.i64 0) w fun x10 w => MG Tryz.prog x10 false a1 w fun x12 w => BG Tryz.prog x10 false BinOp.lss 3 (Operand.tmp 12) (Operand.const (Value.int IntKind.i64 1)) x12 (Value.int IntKind.i64 1) w fun x13 w => PK Tryz.prog x10 (Value.bool true) x13 w fun x14 w => MG Tryz.prog x14 false a1 w fun x16 w => BG Tryz.prog x14 false BinOp.gtr 3 (Operand.tmp 16) (Operand.const (Value.int IntKind.i64 64)) x16 (Value.int IntKind.i64 64) w fun x17 w => PK Tryz.prog x14 (Value.bool true) x17 w fun x18 w => CondK x18 (VK Tryz.prog (Instr.build 42 [].toArray) w fun x19 w => UK Tryz.prog (Instr.storeAt 42 x4 x19) w fun _ w => ∃ x4_1, (do loadVar 42 (← asAddr x4) : Sem Value).run Tryz.prog w = .ok x4_1 w ∧ R (Value.tuple #[x4_1, (Value.int IntKind.i64 2)]) w) (VK Tryz.prog (Instr.loadAt 25 x2) w fun x20 w => CK Tryz.prog (Value.func (Fn.func 35) #[] #[]) [x20] w fun x21 w => VK Tryz.prog (Op.unary UnOp.not x21) w fun x22 w => CondK x22 (VK Tryz.prog (Instr.build 42 [].toArray) w fun x23 w => UK Tryz.prog (Instr.storeAt 42 x4 x23) w fun _ w => ∃ x4_2, (do loadVar 42 (← asAddr x4) : Sem Value).run Tryz.prog w = .ok x4_2 w ∧ R (Value.tuple #[x4_2, (Value.int IntKind.i64 90)]) w) (VK Tryz.prog (Instr.fieldAt 25 x2 1) w fun x24 w => VK Tryz.prog (Instr.loadAt 23 x24) w fun x25 w => CK Tryz.prog (Value.func (Fn.func 36) #[] #[]) [x25, a1] w fun x27 w => VK Tryz.prog (Instr.alloc 42 true (.tuple #[])) w fun x6 w => UK Tryz.prog (Instr.storeAt 42 x6 x27) w fun _ w => VK Tryz.prog (Instr.fieldAt 42 x6 0) w fun x28 w => VK Tryz.prog (Instr.loadAt 3 x28) w fun x29 w => BK Tryz.prog BinOp.add 3 (Operand.tmp 29) (Operand.const (Value.int IntKind.i64 1)) x29 (Value.int IntKind.i64 1) w fun x30 w => VK Tryz.prog (Instr.fieldAt 42 x6 0) w fun x31 w => UK Tryz.prog (Instr.storeAt 3 x31 x30) w fun _ w => VK Tryz.prog (Instr.fieldAt 42 x6 0) w fun x32 w => VK Tryz.prog (Instr.loadAt 3 x32) w fun x33 w => BK Tryz.prog BinOp.gtr 3 (Operand.tmp 33) (Operand.const (Value.int IntKind.i64 1048576)) x33 (Value.int IntKind.i64 1048576) w fun x34 w => CondK x34 (VK Tryz.prog (Instr.build 42 [].toArray) w fun x35 w => UK Tryz.prog (Instr.storeAt 42 x4 x35) w fun _ w => ∃ x4_3, (do loadVar 42 (← asAddr x4) : Sem Value).run Tryz.prog w = .ok x4_3 w ∧ R (Value.tuple #[x4_3, (Value.int IntKind.i64 90)]) w) (VK Tryz.prog (Instr.loadAt 42 x6) w fun x36 w => UK Tryz.prog (Instr.storeAt 42 x4 x36) w fun _ w => ∃ x4_4, (do loadVar 42 (← asAddr x4) : Sem Value).run Tryz.prog w = .ok x4_4 w ∧ R (Value.tuple #[x4_4, (Value.int IntKind.i64 0)]) w)))
theorem dispatcherref09_Of_eq (a0 a1 : Value) (w : World) (R : Value → World → Prop) : sx fn_ Tryz.prog 37 dispatcherref09_Of_b (retK Tryz.prog Tryz.f21.results.toList R) (rho0 [a0, a1]) w = dispatcherref09_Of_F a0 a1 w R := by kernel_rfl
theorem dispatcherref09_Of_calls {a0 a1 : Value} {w : World} {R : Value → World → Prop} (h : dispatcherref09_Of_F a0 a1 w R) : Calls Tryz.prog 21 #[a0, a1] w fun e w' => ∃ v, e = .returned v ∧ R v w' :=
  Go.X.calls_of_sx (n := 37) (c := dispatcherref09_Of_b) Tryz.func21 (by kernel_rfl) (by kernel_rfl) (Nat.le_of_ble_eq_true rfl) (by kernel_rfl) (Eq.mpr (dispatcherref09_Of_eq a0 a1 w R) h)
/-- dispatcher/bound.Counted -/
noncomputable def bound_Counted_b : Code := (Tryz.f27.body).getD .skip
noncomputable def bound_Counted_F (a0 : Value) (w : World) (R : Value → World → Prop) : Prop :=
  VK Tryz.prog (Instr.box 25 a0) w fun x1 w => VK Tryz.prog (Instr.fieldAt 25 x1 1) w fun x3 w => VK Tryz.prog (Instr.loadAt 23 x3) w fun x4 w => CK Tryz.prog (Value.func (Fn.func 43) #[] #[]) [x4] w fun x5 w => VK Tryz.prog (Op.unary UnOp.not x5) w fun x6 w => R x6 w
theorem bound_Counted_eq (a0 : Value) (w : World) (R : Value → World → Prop) : sx fn_ Tryz.prog 7 bound_Counted_b (retK Tryz.prog Tryz.f27.results.toList R) (rho0 [a0]) w = bound_Counted_F a0 w R := by kernel_rfl
theorem bound_Counted_calls {a0 : Value} {w : World} {R : Value → World → Prop} (h : bound_Counted_F a0 w R) : Calls Tryz.prog 27 #[a0] w fun e w' => ∃ v, e = .returned v ∧ R v w' :=
  Go.X.calls_of_sx (n := 7) (c := bound_Counted_b) Tryz.func27 (by kernel_rfl) (by kernel_rfl) (Nat.le_of_ble_eq_true rfl) (by kernel_rfl) (Eq.mpr (bound_Counted_eq a0 w R) h)
/-- dispatcher/dispatcherref09.Counted -/
noncomputable def dispatcherref09_Counted_b : Code := (Tryz.f35.body).getD .skip
noncomputable def dispatcherref09_Counted_F (a0 : Value) (w : World) (R : Value → World → Prop) : Prop :=
  VK Tryz.prog (Instr.box 25 a0) w fun x1 w => VK Tryz.prog (Instr.fieldAt 25 x1 1) w fun x3 w => VK Tryz.prog (Instr.loadAt 23 x3) w fun x4 w => CK Tryz.prog (Value.func (Fn.func 53) #[] #[]) [x4] w fun x5 w => R x5 w
theorem dispatcherref09_Counted_eq (a0 : Value) (w : World) (R : Value → World → Prop) : sx fn_ Tryz.prog 6 dispatcherref09_Counted_b (retK Tryz.prog Tryz.f35.results.toList R) (rho0 [a0]) w = dispatcherref09_Counted_F a0 w R := by kernel_rfl
theorem dispatcherref09_Counted_calls {a0 : Value} {w : World} {R : Value → World → Prop} (h : dispatcherref09_Counted_F a0 w R) : Calls Tryz.prog 35 #[a0] w fun e w' => ∃ v, e = .returned v ∧ R v w' :=
  Go.X.calls_of_sx (n := 6) (c := dispatcherref09_Counted_b) Tryz.func35 (by kernel_rfl) (by kernel_rfl) (Nat.le_of_ble_eq_true rfl) (by kernel_rfl) (Eq.mpr (dispatcherref09_Counted_eq a0 w R) h)
/-- (dispatcher/bound.size).all -/
noncomputable def bound_size_all_b : Code := (Tryz.f28.body).getD .skip
noncomputable def bound_size_all_L0 : Code := cAt [1, 1, 1, 0, 1, 0, 0] bound_size_all_b
noncomputable def bound_size_all_R1 : Code := cAt [1, 1, 1, 1] bound_size_all_b
noncomputable def bound_size_all_R2 : Code := cAt [1, 1, 1, 0, 1, 0, 0, 1, 1, 0, 0, 1] bound_size_all_b
noncomputable def bound_size_all_R3 : Code := cAt [1, 1, 1, 0, 1, 0, 0, 1, 1, 1] bound_size_all_b
noncomputable def bound_size_all_L0_F (z : At) (K : Exit → Sl → World → Prop) (ρ : Sl) (w : World) : Prop :=
  BK Tryz.prog BinOp.lss 3 (Operand.tmp 13) (Operand.tmp 12) (ρ 13) (ρ 12) w fun x14 w => CondK x14 (VK Tryz.prog (Instr.indexAt 23 (ρ 11) (ρ 13)) w fun x15 w => VK Tryz.prog (Instr.loadAt 62 x15) w fun x16 w => VK Tryz.prog (Instr.alloc 62 true (.tuple #[])) w fun x8 w => UK Tryz.prog (Instr.storeAt 62 x8 x16) w fun _ w => W z Tryz.prog 25 bound_size_all_R2 (blkK 1 (seqK (sx z Tryz.prog 25 bound_size_all_R3 K) K)) (up (up (up (up ρ 14 x14) 15 x15) 16 x16) 8 x8) w) (K (Exit.exit 0) (up ρ 14 x14) w)
theorem bound_size_all_L0_eq (z : At) (K : Exit → Sl → World → Prop) (ρ : Sl) (w : World) : sx z Tryz.prog 25 bound_size_all_L0 K ρ w = bound_size_all_L0_F z K ρ w := by kernel_rfl
theorem bound_size_all_L0_ok : dstOk 25 bound_size_all_L0 = true := by kernel_rfl
noncomputable def bound_size_all_R1_F (z : At) (K : Exit → Sl → World → Prop) (ρ : Sl) (w : World) : Prop :=
  VK Tryz.prog (Instr.loadAt 42 (ρ 5)) w fun x24 w => UK Tryz.prog (Instr.storeAt 42 (ρ 4) x24) w fun _ w => K Exit.ret (up ρ 24 x24) w
theorem bound_size_all_R1_eq (z : At) (K : Exit → Sl → World → Prop) (ρ : Sl) (w : World) : sx z Tryz.prog 25 bound_size_all_R1 K ρ w = bound_size_all_R1_F z K ρ w := by kernel_rfl
noncomputable def bound_size_all_R2_ops : Array Oper := opsOf bound_size_all_R2
def bound_size_all_R2_H (S : World → Prop) (K : Exit → Sl → World → Prop) (ρ : Sl) (w : World) : Prop :=
  HK Tryz.prog S (do pure (Next.value (← Instr.loadAt 62 (ρ 8)))) fun x19_1 => (VK Tryz.prog (Instr.loadAt 42 (ρ 5)) w fun x17_1 w => S w ∧ (FnL Tryz.prog (ρ 6) ∧ (CK Tryz.prog (ρ 6) [x19_1] w fun x20_1 w => S w ∧ (CK Tryz.prog (Value.func (Fn.func 29) #[] #[]) [x17_1, x20_1] w fun x21_1 w => S w ∧ (CK Tryz.prog (Value.func (Fn.func 45) #[] #[]) [x21_1] w fun x22_1 w => S w ∧ (UK Tryz.prog (Instr.storeAt 42 (ρ 5) x22_1) w fun _ w => S w ∧ (K Exit.normal (up (up (up (up (up (up ρ 18 (ρ 6)) 19 x19_1) 17 x17_1) 20 x20_1) 21 x21_1) 22 x22_1) w))))))) ∧ (FnL Tryz.prog (ρ 6) ∧ (CK Tryz.prog (ρ 6) [x19_1] w fun x20_2 w => S w ∧ (VK Tryz.prog (Instr.loadAt 42 (ρ 5)) w fun x17_2 w => S w ∧ (CK Tryz.prog (Value.func (Fn.func 29) #[] #[]) [x17_2, x20_2] w fun x21_2 w => S w ∧ (CK Tryz.prog (Value.func (Fn.func 45) #[] #[]) [x21_2] w fun x22_2 w => S w ∧ (UK Tryz.prog (Instr.storeAt 42 (ρ 5) x22_2) w fun _ w => S w ∧ (K Exit.normal (up (up (up (up (up (up ρ 18 (ρ 6)) 19 x19_1) 20 x20_2) 17 x17_2) 21 x21_2) 22 x22_2) w)))))))
theorem bound_size_all_R2_held {D : List Deferred} (S : World → Prop) {K : Exit → Sl → World → Prop} {ρ : Sl} {w : World} (hS : S { w with drawn := w.drawn + 1 }) (h : bound_size_all_R2_H S K ρ { w with drawn := w.drawn + 1 }) : W ⟨none, D⟩ Tryz.prog 25 bound_size_all_R2 K ρ w := by
  have e : bound_size_all_R2 = .region (idOf bound_size_all_R2) bound_size_all_R2_ops true := by kernel_rfl
  have q : sxd Tryz.prog S bound_size_all_R2_ops (K .normal) (Pd.take 1 (Pd.take 2 (Pd.two false true 0 3 (Pd.only true 3 (Pd.only false 4 (Pd.only false 5 (Pd.only false 6 Pd.done)))) (Pd.only false 0 (Pd.only false 4 (Pd.only false 5 (Pd.only false 6 Pd.done))))))) ρ { w with drawn := w.drawn + 1 } = bound_size_all_R2_H S K ρ { w with drawn := w.drawn + 1 } := by kernel_rfl
  rw [e]
  exact W_pland S (Pd.take 1 (Pd.take 2 (Pd.two false true 0 3 (Pd.only true 3 (Pd.only false 4 (Pd.only false 5 (Pd.only false 6 Pd.done)))) (Pd.only false 0 (Pd.only false 4 (Pd.only false 5 (Pd.only false 6 Pd.done))))))) (by kernel_rfl) (by kernel_rfl) (by kernel_rfl) (by kernel_rfl) hS (Eq.mpr q h)
noncomputable def bound_size_all_R3_F (z : At) (K : Exit → Sl → World → Prop) (ρ : Sl) (w : World) : Prop :=
  BK Tryz.prog BinOp.add 3 (Operand.tmp 13) (Operand.const (Value.int IntKind.i64 1)) (ρ 13) (Value.int IntKind.i64 1) w fun x23 w => K Exit.normal (up (up ρ 23 x23) 13 x23) w
theorem bound_size_all_R3_eq (z : At) (K : Exit → Sl → World → Prop) (ρ : Sl) (w : World) : sx z Tryz.prog 25 bound_size_all_R3 K ρ w = bound_size_all_R3_F z K ρ w := by kernel_rfl
noncomputable def bound_size_all_F (a0 a1 : Value) (w : World) (R : Value → World → Prop) : Prop :=
  VK Tryz.prog (Instr.alloc 42 true (.tuple #[])) w fun x4 w => VK Tryz.prog (Instr.alloc 42 true (.tuple #[])) w fun x5 w => VK Tryz.prog (Instr.makeFunc (Fn.func 44) [a0].toArray [].toArray) w fun x10 w => IK Tryz.prog Builtin.len #[23] 3 [false] [a1] w fun x12 w => W fn_ Tryz.prog 25 (Code.loop bound_size_all_L0) (blkK 0 (seqK (sx fn_ Tryz.prog 25 bound_size_all_R1 (retK Tryz.prog [ResultVar.cell 4 42] R)) (retK Tryz.prog [ResultVar.cell 4 42] R))) (up (up (up (up (up (up (up (up (rho0 [a0, a1]) 4 x4) 5 x5) 9 a0) 10 x10) 6 x10) 11 a1) 12 x12) 13 (Value.int IntKind.i64 0)) w
theorem bound_size_all_eq (a0 a1 : Value) (w : World) (R : Value → World → Prop) : sx fn_ Tryz.prog 25 bound_size_all_b (retK Tryz.prog Tryz.f28.results.toList R) (rho0 [a0, a1]) w = bound_size_all_F a0 a1 w R := by kernel_rfl
theorem bound_size_all_calls {a0 a1 : Value} {w : World} {R : Value → World → Prop} (h : bound_size_all_F a0 a1 w R) : Calls Tryz.prog 28 #[a0, a1] w fun e w' => ∃ v, e = .returned v ∧ R v w' :=
  Go.X.calls_of_sx (n := 25) (c := bound_size_all_b) Tryz.func28 (by kernel_rfl) (by kernel_rfl) (Nat.le_of_ble_eq_true rfl) (by kernel_rfl) (Eq.mpr (bound_size_all_eq a0 a1 w R) h)
/-- (dispatcher/bound.Bound).and -/
noncomputable def bound_Bound_and_b : Code := (Tryz.f29.body).getD .skip
noncomputable def bound_Bound_and_F (a0 a1 : Value) (w : World) (R : Value → World → Prop) : Prop :=
  VK Tryz.prog (Instr.box 42 a0) w fun x2 w => VK Tryz.prog (Instr.box 42 a1) w fun x3 w => VK Tryz.prog (Instr.alloc 42 true (.tuple #[])) w fun x4 w => VK Tryz.prog (Instr.fieldAt 42 x2 0) w fun x5 w => VK Tryz.prog (Instr.loadAt 3 x5) w fun x6 w => VK Tryz.prog (Instr.fieldAt 42 x3 0) w fun x7 w => VK Tryz.prog (Instr.loadAt 3 x7) w fun x8 w => BK Tryz.prog BinOp.add 3 (Operand.tmp 6) (Operand.tmp 8) x6 x8 w fun x9 w => VK Tryz.prog (Instr.fieldAt 42 x2 1) w fun x10 w => VK Tryz.prog (Instr.loadAt 3 x10) w fun x11 w => VK Tryz.prog (Instr.fieldAt 42 x3 1) w fun x12 w => VK Tryz.prog (Instr.loadAt 3 x12) w fun x13 w => BK Tryz.prog BinOp.add 3 (Operand.tmp 11) (Operand.tmp 13) x11 x13 w fun x14 w => VK Tryz.prog (Instr.fieldAt 42 x2 2) w fun x15 w => VK Tryz.prog (Instr.loadAt 3 x15) w fun x16 w => VK Tryz.prog (Instr.fieldAt 42 x3 2) w fun x17 w => VK Tryz.prog (Instr.loadAt 3 x17) w fun x18 w => BK Tryz.prog BinOp.add 3 (Operand.tmp 16) (Operand.tmp 18) x16 x18 w fun x19 w => VK Tryz.prog (Instr.build 42 [(0, x9), (1, x14), (2, x19)].toArray) w fun x20 w => UK Tryz.prog (Instr.storeAt 42 x4 x20) w fun _ w => ∃ x4_1, (do loadVar 42 (← asAddr x4) : Sem Value).run Tryz.prog w = .ok x4_1 w ∧ R x4_1 w
theorem bound_Bound_and_eq (a0 a1 : Value) (w : World) (R : Value → World → Prop) : sx fn_ Tryz.prog 21 bound_Bound_and_b (retK Tryz.prog Tryz.f29.results.toList R) (rho0 [a0, a1]) w = bound_Bound_and_F a0 a1 w R := by kernel_rfl
theorem bound_Bound_and_calls {a0 a1 : Value} {w : World} {R : Value → World → Prop} (h : bound_Bound_and_F a0 a1 w R) : Calls Tryz.prog 29 #[a0, a1] w fun e w' => ∃ v, e = .returned v ∧ R v w' :=
  Go.X.calls_of_sx (n := 21) (c := bound_Bound_and_b) Tryz.func29 (by kernel_rfl) (by kernel_rfl) (Nat.le_of_ble_eq_true rfl) (by kernel_rfl) (Eq.mpr (bound_Bound_and_eq a0 a1 w R) h)
/-- dispatcher/dispatcherref09.stmts -/
noncomputable def dispatcherref09_stmts_b : Code := (Tryz.f36.body).getD .skip
noncomputable def dispatcherref09_stmts_L0 : Code := cAt [1, 1, 0, 1, 0, 0] dispatcherref09_stmts_b
noncomputable def dispatcherref09_stmts_R1 : Code := cAt [1, 1, 1] dispatcherref09_stmts_b
noncomputable def dispatcherref09_stmts_L0_F (z : At) (K : Exit → Sl → World → Prop) (ρ : Sl) (w : World) : Prop :=
  IK Tryz.prog Builtin.len #[23] 3 [false] [(ρ 0)] w fun x10 w => BK Tryz.prog BinOp.lss 3 (Operand.tmp 8) (Operand.tmp 10) (ρ 6) x10 w fun x11 w => CondK x11 (VK Tryz.prog (Instr.indexAt 23 (ρ 0) (ρ 6)) w fun x16 w => VK Tryz.prog (Instr.loadAt 62 x16) w fun x17 w => CK Tryz.prog (Value.func (Fn.func 54) #[] #[]) [x17, (ρ 1)] w fun x19 w => VK Tryz.prog (Instr.alloc 42 true (.tuple #[])) w fun x7 w => UK Tryz.prog (Instr.storeAt 42 x7 x19) w fun _ w => VK Tryz.prog (Instr.fieldAt 42 (ρ 5) 0) w fun x20 w => VK Tryz.prog (Instr.loadAt 3 x20) w fun x21 w => VK Tryz.prog (Instr.fieldAt 42 x7 0) w fun x22 w => VK Tryz.prog (Instr.loadAt 3 x22) w fun x23 w => BK Tryz.prog BinOp.add 3 (Operand.tmp 21) (Operand.tmp 23) x21 x23 w fun x24 w => VK Tryz.prog (Instr.fieldAt 42 (ρ 5) 0) w fun x25 w => UK Tryz.prog (Instr.storeAt 3 x25 x24) w fun _ w => VK Tryz.prog (Instr.fieldAt 42 (ρ 5) 1) w fun x26 w => VK Tryz.prog (Instr.loadAt 3 x26) w fun x27 w => VK Tryz.prog (Instr.fieldAt 42 x7 1) w fun x28 w => VK Tryz.prog (Instr.loadAt 3 x28) w fun x29 w => BK Tryz.prog BinOp.add 3 (Operand.tmp 27) (Operand.tmp 29) x27 x29 w fun x30 w => VK Tryz.prog (Instr.fieldAt 42 (ρ 5) 1) w fun x31 w => UK Tryz.prog (Instr.storeAt 3 x31 x30) w fun _ w => VK Tryz.prog (Instr.fieldAt 42 (ρ 5) 2) w fun x32 w => VK Tryz.prog (Instr.loadAt 3 x32) w fun x33 w => VK Tryz.prog (Instr.fieldAt 42 x7 2) w fun x34 w => VK Tryz.prog (Instr.loadAt 3 x34) w fun x35 w => BK Tryz.prog BinOp.add 3 (Operand.tmp 33) (Operand.tmp 35) x33 x35 w fun x36 w => VK Tryz.prog (Instr.fieldAt 42 (ρ 5) 2) w fun x37 w => UK Tryz.prog (Instr.storeAt 3 x37 x36) w fun _ w => VK Tryz.prog (Instr.loadAt 42 (ρ 5)) w fun x38 w => CK Tryz.prog (Value.func (Fn.func 55) #[] #[]) [x38] w fun x39 w => UK Tryz.prog (Instr.storeAt 42 (ρ 5) x39) w fun _ w => BK Tryz.prog BinOp.add 3 (Operand.tmp 12) (Operand.const (Value.int IntKind.i64 1)) (ρ 6) (Value.int IntKind.i64 1) w fun x13 w => K Exit.normal (up (up (up (up (up (up (up (up (up (up (up (up (up (up (up (up (up (up (up (up (up (up (up (up (up (up (up (up (up (up (up (up (up (up ρ 8 (ρ 6)) 9 (ρ 0)) 10 x10) 11 x11) 14 (ρ 0)) 15 (ρ 6)) 16 x16) 17 x17) 18 (ρ 1)) 19 x19) 7 x7) 20 x20) 21 x21) 22 x22) 23 x23) 24 x24) 25 x25) 26 x26) 27 x27) 28 x28) 29 x29) 30 x30) 31 x31) 32 x32) 33 x33) 34 x34) 35 x35) 36 x36) 37 x37) 38 x38) 39 x39) 12 (ρ 6)) 13 x13) 6 x13) w) (K (Exit.exit 0) (up (up (up (up ρ 8 (ρ 6)) 9 (ρ 0)) 10 x10) 11 x11) w)
theorem dispatcherref09_stmts_L0_eq (z : At) (K : Exit → Sl → World → Prop) (ρ : Sl) (w : World) : sx z Tryz.prog 41 dispatcherref09_stmts_L0 K ρ w = dispatcherref09_stmts_L0_F z K ρ w := by kernel_rfl
theorem dispatcherref09_stmts_L0_ok : dstOk 41 dispatcherref09_stmts_L0 = true := by kernel_rfl
noncomputable def dispatcherref09_stmts_R1_F (z : At) (K : Exit → Sl → World → Prop) (ρ : Sl) (w : World) : Prop :=
  VK Tryz.prog (Instr.loadAt 42 (ρ 5)) w fun x40 w => UK Tryz.prog (Instr.storeAt 42 (ρ 4) x40) w fun _ w => K Exit.ret (up ρ 40 x40) w
theorem dispatcherref09_stmts_R1_eq (z : At) (K : Exit → Sl → World → Prop) (ρ : Sl) (w : World) : sx z Tryz.prog 41 dispatcherref09_stmts_R1 K ρ w = dispatcherref09_stmts_R1_F z K ρ w := by kernel_rfl
noncomputable def dispatcherref09_stmts_F (a0 a1 : Value) (w : World) (R : Value → World → Prop) : Prop :=
  VK Tryz.prog (Instr.alloc 42 true (.tuple #[])) w fun x4 w => VK Tryz.prog (Instr.alloc 42 true (.tuple #[])) w fun x5 w => W fn_ Tryz.prog 41 (Code.loop dispatcherref09_stmts_L0) (blkK 0 (seqK (sx fn_ Tryz.prog 41 dispatcherref09_stmts_R1 (retK Tryz.prog [ResultVar.cell 4 42] R)) (retK Tryz.prog [ResultVar.cell 4 42] R))) (up (up (up (rho0 [a0, a1]) 4 x4) 5 x5) 6 (Value.int IntKind.i64 0)) w
theorem dispatcherref09_stmts_eq (a0 a1 : Value) (w : World) (R : Value → World → Prop) : sx fn_ Tryz.prog 41 dispatcherref09_stmts_b (retK Tryz.prog Tryz.f36.results.toList R) (rho0 [a0, a1]) w = dispatcherref09_stmts_F a0 a1 w R := by kernel_rfl
theorem dispatcherref09_stmts_calls {a0 a1 : Value} {w : World} {R : Value → World → Prop} (h : dispatcherref09_stmts_F a0 a1 w R) : Calls Tryz.prog 36 #[a0, a1] w fun e w' => ∃ v, e = .returned v ∧ R v w' :=
  Go.X.calls_of_sx (n := 41) (c := dispatcherref09_stmts_b) Tryz.func36 (by kernel_rfl) (by kernel_rfl) (Nat.le_of_ble_eq_true rfl) (by kernel_rfl) (Eq.mpr (dispatcherref09_stmts_eq a0 a1 w R) h)
/-- dispatcher/bound.loops -/
noncomputable def bound_loops_b : Code := (Tryz.f43.body).getD .skip
noncomputable def bound_loops_F (a0 : Value) (w : World) (R : Value → World → Prop) : Prop :=
  CK Tryz.prog (Value.func (Fn.func 74) #[] #[]) [a0, (Value.func (Fn.func 75) #[] #[])] w fun x4 w => R x4 w
theorem bound_loops_eq (a0 : Value) (w : World) (R : Value → World → Prop) : sx fn_ Tryz.prog 5 bound_loops_b (retK Tryz.prog Tryz.f43.results.toList R) (rho0 [a0]) w = bound_loops_F a0 w R := by kernel_rfl
theorem bound_loops_calls {a0 : Value} {w : World} {R : Value → World → Prop} (h : bound_loops_F a0 w R) : Calls Tryz.prog 43 #[a0] w fun e w' => ∃ v, e = .returned v ∧ R v w' :=
  Go.X.calls_of_sx (n := 5) (c := bound_loops_b) Tryz.func43 (by kernel_rfl) (by kernel_rfl) (Nat.le_of_ble_eq_true rfl) (by kernel_rfl) (Eq.mpr (bound_loops_eq a0 w R) h)
/-- dispatcher/dispatcherref09.counted -/
noncomputable def dispatcherref09_counted_b : Code := (Tryz.f53.body).getD .skip
noncomputable def dispatcherref09_counted_L0 : Code := cAt [1, 0, 1, 0, 0] dispatcherref09_counted_b
noncomputable def dispatcherref09_counted_R1 : Code := cAt [1, 1] dispatcherref09_counted_b
noncomputable def dispatcherref09_counted_L0_F (z : At) (K : Exit → Sl → World → Prop) (ρ : Sl) (w : World) : Prop :=
  IK Tryz.prog Builtin.len #[23] 3 [false] [(ρ 0)] w fun x6 w => BK Tryz.prog BinOp.lss 3 (Operand.tmp 4) (Operand.tmp 6) (ρ 3) x6 w fun x7 w => CondK x7 (VK Tryz.prog (Instr.indexAt 23 (ρ 0) (ρ 3)) w fun x12 w => VK Tryz.prog (Instr.fieldAt 62 x12 0) w fun x13 w => VK Tryz.prog (Instr.loadAt 5 x13) w fun x14 w => BK Tryz.prog BinOp.eql 5 (Operand.tmp 14) (Operand.const (Value.int IntKind.u8 4)) x14 (Value.int IntKind.u8 4) w fun x15 w => MG Tryz.prog x15 false (ρ 0) w fun x17 w => MG Tryz.prog x15 false (ρ 3) w fun x18 w => VG Tryz.prog x15 false (Instr.indexAt 23 x17 x18) w fun x19 w => VG Tryz.prog x15 false (Instr.fieldAt 62 x19 6) w fun x20 w => VG Tryz.prog x15 false (Instr.loadAt 23 x20) w fun x21 w => CG Tryz.prog x15 false (Value.func (Fn.func 53) #[] #[]) [x21] w fun x22 w => VG Tryz.prog x15 false (Op.unary UnOp.not x22) w fun x23 w => PK Tryz.prog x15 (Value.bool true) x23 w fun x24 w => MG Tryz.prog x24 false (ρ 0) w fun x26 w => MG Tryz.prog x24 false (ρ 3) w fun x27 w => VG Tryz.prog x24 false (Instr.indexAt 23 x26 x27) w fun x28 w => VG Tryz.prog x24 false (Instr.fieldAt 62 x28 7) w fun x29 w => VG Tryz.prog x24 false (Instr.loadAt 23 x29) w fun x30 w => CG Tryz.prog x24 false (Value.func (Fn.func 53) #[] #[]) [x30] w fun x31 w => VG Tryz.prog x24 false (Op.unary UnOp.not x31) w fun x32 w => PK Tryz.prog x24 (Value.bool true) x32 w fun x33 w => CondK x33 (K Exit.ret (up (up (up (up (up (up (up (up (up (up (up (up (up (up (up (up (up (up (up (up (up (up (up (up (up (up (up (up (up ρ 4 (ρ 3)) 5 (ρ 0)) 6 x6) 7 x7) 10 (ρ 0)) 11 (ρ 3)) 12 x12) 13 x13) 14 x14) 15 x15) 16 x15) 17 x17) 18 x18) 19 x19) 20 x20) 21 x21) 22 x22) 23 x23) 24 x24) 25 x24) 26 x26) 27 x27) 28 x28) 29 x29) 30 x30) 31 x31) 32 x32) 33 x33) 2 (Value.bool false)) w) (BK Tryz.prog BinOp.add 3 (Operand.tmp 8) (Operand.const (Value.int IntKind.i64 1)) (ρ 3) (Value.int IntKind.i64 1) w fun x9 w => K Exit.normal (up (up (up (up (up (up (up (up (up (up (up (up (up (up (up (up (up (up (up (up (up (up (up (up (up (up (up (up (up (up (up ρ 4 (ρ 3)) 5 (ρ 0)) 6 x6) 7 x7) 10 (ρ 0)) 11 (ρ 3)) 12 x12) 13 x13) 14 x14) 15 x15) 16 x15) 17 x17) 18 x18) 19 x19) 20 x20) 21 x21) 22 x22) 23 x23) 24 x24) 25 x24) 26 x26) 27 x27) 28 x28) 29 x29) 30 x30) 31 x31) 32 x32) 33 x33) 8 (ρ 3)) 9 x9) 3 x9) w)) (K (Exit.exit 0) (up (up (up (up ρ 4 (ρ 3)) 5 (ρ 0)) 6 x6) 7 x7) w)
theorem dispatcherref09_counted_L0_eq (z : At) (K : Exit → Sl → World → Prop) (ρ : Sl) (w : World) : sx z Tryz.prog 34 dispatcherref09_counted_L0 K ρ w = dispatcherref09_counted_L0_F z K ρ w := by kernel_rfl
theorem dispatcherref09_counted_L0_ok : dstOk 34 dispatcherref09_counted_L0 = true := by kernel_rfl
noncomputable def dispatcherref09_counted_R1_F (z : At) (K : Exit → Sl → World → Prop) (ρ : Sl) (w : World) : Prop :=
  K Exit.ret (up ρ 2 (Value.bool true)) w
theorem dispatcherref09_counted_R1_eq (z : At) (K : Exit → Sl → World → Prop) (ρ : Sl) (w : World) : sx z Tryz.prog 34 dispatcherref09_counted_R1 K ρ w = dispatcherref09_counted_R1_F z K ρ w := by kernel_rfl
noncomputable def dispatcherref09_counted_F (a0 : Value) (w : World) (R : Value → World → Prop) : Prop :=
  W fn_ Tryz.prog 34 (Code.loop dispatcherref09_counted_L0) (blkK 0 (seqK (sx fn_ Tryz.prog 34 dispatcherref09_counted_R1 (retK Tryz.prog [ResultVar.tmp 2] R)) (retK Tryz.prog [ResultVar.tmp 2] R))) (up (up (rho0 [a0]) 2 (Value.bool false)) 3 (Value.int IntKind.i64 0)) w
theorem dispatcherref09_counted_eq (a0 : Value) (w : World) (R : Value → World → Prop) : sx fn_ Tryz.prog 34 dispatcherref09_counted_b (retK Tryz.prog Tryz.f53.results.toList R) (rho0 [a0]) w = dispatcherref09_counted_F a0 w R := by kernel_rfl
theorem dispatcherref09_counted_calls {a0 : Value} {w : World} {R : Value → World → Prop} (h : dispatcherref09_counted_F a0 w R) : Calls Tryz.prog 53 #[a0] w fun e w' => ∃ v, e = .returned v ∧ R v w' :=
  Go.X.calls_of_sx (n := 34) (c := dispatcherref09_counted_b) Tryz.func53 (by kernel_rfl) (by kernel_rfl) (Nat.le_of_ble_eq_true rfl) (by kernel_rfl) (Eq.mpr (dispatcherref09_counted_eq a0 w R) h)
/-- (dispatcher/bound.size).one -/
noncomputable def bound_size_one_b : Code := (Tryz.f44.body).getD .skip
noncomputable def bound_size_one_L0 : Code := cAt [1, 1, 0, 1, 0, 0] bound_size_one_b
noncomputable def bound_size_one_R1 : Code := cAt [1, 1, 1] bound_size_one_b
noncomputable def bound_size_one_R2 : Code := cAt [1, 1, 0, 1, 0, 0, 1, 1, 0, 0, 1] bound_size_one_b
noncomputable def bound_size_one_R3 : Code := cAt [1, 1, 0, 1, 0, 0, 1, 1, 1] bound_size_one_b
noncomputable def bound_size_one_R4 : Code := cAt [1, 1, 1, 1] bound_size_one_b
noncomputable def bound_size_one_R5 : Code := cAt [1, 1, 1, 0, 1, 0, 1, 0, 1, 1] bound_size_one_b
noncomputable def bound_size_one_R6 : Code := cAt [1, 1, 1, 0, 1, 0, 1, 1, 1, 0, 1, 1] bound_size_one_b
noncomputable def bound_size_one_L0_F (z : At) (K : Exit → Sl → World → Prop) (ρ : Sl) (w : World) : Prop :=
  BK Tryz.prog BinOp.lss 3 (Operand.tmp 14) (Operand.tmp 13) (ρ 14) (ρ 13) w fun x15 w => CondK x15 (VK Tryz.prog (Instr.indexAt 60 (ρ 12) (ρ 14)) w fun x16 w => VK Tryz.prog (Instr.loadAt 85 x16) w fun x17 w => VK Tryz.prog (Instr.alloc 85 true (.tuple #[])) w fun x7 w => UK Tryz.prog (Instr.storeAt 85 x7 x17) w fun _ w => W z Tryz.prog 74 bound_size_one_R2 (blkK 1 (seqK (sx z Tryz.prog 74 bound_size_one_R3 K) K)) (up (up (up (up ρ 15 x15) 16 x16) 17 x17) 7 x7) w) (K (Exit.exit 0) (up ρ 15 x15) w)
theorem bound_size_one_L0_eq (z : At) (K : Exit → Sl → World → Prop) (ρ : Sl) (w : World) : sx z Tryz.prog 74 bound_size_one_L0 K ρ w = bound_size_one_L0_F z K ρ w := by kernel_rfl
theorem bound_size_one_L0_ok : dstOk 74 bound_size_one_L0 = true := by kernel_rfl
noncomputable def bound_size_one_R1_F (z : At) (K : Exit → Sl → World → Prop) (ρ : Sl) (w : World) : Prop :=
  VK Tryz.prog (Instr.fieldAt 62 (ρ 3) 0) w fun x25 w => VK Tryz.prog (Instr.loadAt 5 x25) w fun x26 w => BK Tryz.prog BinOp.eql 5 (Operand.tmp 26) (Operand.const (Value.int IntKind.u8 3)) x26 (Value.int IntKind.u8 3) w fun x28 w => CondK x28 (VK Tryz.prog (Instr.fieldAt 62 (ρ 3) 6) w fun x30 w => VK Tryz.prog (Instr.loadAt 23 x30) w fun x31 w => CK Tryz.prog (Value.func (Fn.func 28) #[] #[]) [(ρ 0), x31] w fun x32 w => VK Tryz.prog (Instr.alloc 42 true (.tuple #[])) w fun x8 w => UK Tryz.prog (Instr.storeAt 42 x8 x32) w fun _ w => VK Tryz.prog (Instr.fieldAt 62 (ρ 3) 7) w fun x33 w => VK Tryz.prog (Instr.loadAt 23 x33) w fun x34 w => IK Tryz.prog Builtin.len #[23] 3 [false] [x34] w fun x35 w => BK Tryz.prog BinOp.gtr 3 (Operand.tmp 35) (Operand.const (Value.int IntKind.i64 0)) x35 (Value.int IntKind.i64 0) w fun x36 w => CondK x36 (VK Tryz.prog (Instr.fieldAt 42 x8 0) w fun x37 w => VK Tryz.prog (Instr.loadAt 3 x37) w fun x38 w => BK Tryz.prog BinOp.add 3 (Operand.tmp 38) (Operand.const (Value.int IntKind.i64 1)) x38 (Value.int IntKind.i64 1) w fun x39 w => VK Tryz.prog (Instr.fieldAt 42 x8 0) w fun x40 w => UK Tryz.prog (Instr.storeAt 3 x40 x39) w fun _ w => sx z Tryz.prog 74 bound_size_one_R5 (blkK 2 (seqK (sx z Tryz.prog 74 bound_size_one_R4 K) K)) (up (up (up (up (up (up (up (up (up (up (up (up (up (up (up (up (up ρ 25 x25) 26 x26) 28 x28) 27 x28) 29 (ρ 0)) 30 x30) 31 x31) 32 x32) 8 x8) 33 x33) 34 x34) 35 x35) 36 x36) 37 x37) 38 x38) 39 x39) 40 x40) w) (sx z Tryz.prog 74 bound_size_one_R5 (blkK 2 (seqK (sx z Tryz.prog 74 bound_size_one_R4 K) K)) (up (up (up (up (up (up (up (up (up (up (up (up (up ρ 25 x25) 26 x26) 28 x28) 27 x28) 29 (ρ 0)) 30 x30) 31 x31) 32 x32) 8 x8) 33 x33) 34 x34) 35 x35) 36 x36) w)) (BK Tryz.prog BinOp.eql 5 (Operand.tmp 26) (Operand.const (Value.int IntKind.u8 5)) x26 (Value.int IntKind.u8 5) w fun x50 w => CondK x50 (VK Tryz.prog (Instr.fieldAt 62 (ρ 3) 4) w fun x51 w => VK Tryz.prog (Instr.loadAt 3 x51) w fun x52 w => BK Tryz.prog BinOp.eql 3 (Operand.tmp 53) (Operand.const (Value.int IntKind.i64 0)) x52 (Value.int IntKind.i64 0) w fun x54 w => CondK x54 (sx z Tryz.prog 74 bound_size_one_R6 (blkK 2 (seqK (sx z Tryz.prog 74 bound_size_one_R4 K) K)) (up (up (up (up (up (up (up (up (up (up (up (up (up ρ 25 x25) 26 x26) 28 x28) 27 x28) 50 x50) 49 x50) 51 x51) 52 x52) 9 x52) 53 x52) 54 x54) 55 (ρ 0)) 9 (ρ 0)) w) (sx z Tryz.prog 74 bound_size_one_R6 (blkK 2 (seqK (sx z Tryz.prog 74 bound_size_one_R4 K) K)) (up (up (up (up (up (up (up (up (up (up (up ρ 25 x25) 26 x26) 28 x28) 27 x28) 50 x50) 49 x50) 51 x51) 52 x52) 9 x52) 53 x52) 54 x54) w)) (BK Tryz.prog BinOp.eql 5 (Operand.tmp 26) (Operand.const (Value.int IntKind.u8 8)) x26 (Value.int IntKind.u8 8) w fun x67 w => CondK x67 (VK Tryz.prog (Instr.fieldAt 42 (ρ 5) 1) w fun x68 w => UK Tryz.prog (Instr.storeAt 3 x68 (Value.int IntKind.i64 1)) w fun _ w => VK Tryz.prog (Instr.loadAt 62 (ρ 3)) w fun x69 w => CK Tryz.prog (Value.func (Fn.func 79) #[] #[]) [x69] w fun x70 w => CondK x70 (VK Tryz.prog (Instr.fieldAt 42 (ρ 5) 2) w fun x71 w => UK Tryz.prog (Instr.storeAt 3 x71 (Value.int IntKind.i64 1)) w fun _ w => sx z Tryz.prog 74 bound_size_one_R4 K (up (up (up (up (up (up (up (up (up (up (up (up ρ 25 x25) 26 x26) 28 x28) 27 x28) 50 x50) 49 x50) 67 x67) 66 x67) 68 x68) 69 x69) 70 x70) 71 x71) w) (sx z Tryz.prog 74 bound_size_one_R4 K (up (up (up (up (up (up (up (up (up (up (up ρ 25 x25) 26 x26) 28 x28) 27 x28) 50 x50) 49 x50) 67 x67) 66 x67) 68 x68) 69 x69) 70 x70) w)) (sx z Tryz.prog 74 bound_size_one_R4 K (up (up (up (up (up (up (up (up ρ 25 x25) 26 x26) 28 x28) 27 x28) 50 x50) 49 x50) 67 x67) 66 x67) w)))
theorem bound_size_one_R1_eq (z : At) (K : Exit → Sl → World → Prop) (ρ : Sl) (w : World) : sx z Tryz.prog 74 bound_size_one_R1 K ρ w = bound_size_one_R1_F z K ρ w := by kernel_rfl
noncomputable def bound_size_one_R2_ops : Array Oper := opsOf bound_size_one_R2
def bound_size_one_R2_H (S : World → Prop) (K : Exit → Sl → World → Prop) (ρ : Sl) (w : World) : Prop :=
  HK Tryz.prog S (do pure (Next.value (← Instr.fieldAt 42 (ρ 5) 0))) fun x18_1 => HK Tryz.prog S (do pure (Next.value (← Instr.loadAt 85 (ρ 7)))) fun x20_1 => (VK Tryz.prog (Instr.loadAt 3 x18_1) w fun x19_1 w => S w ∧ (CK Tryz.prog (Value.func (Fn.func 76) #[] #[]) [x20_1] w fun x21_1 w => S w ∧ (HK Tryz.prog S (do pure (Next.value (← (do eqGuard BinOp.add 3 (Operand.tmp 19) (Operand.tmp 21) x19_1 x21_1; binOp BinOp.add 3 x19_1 x21_1)))) fun x22_1 => HK Tryz.prog S (do pure (Next.value (← Instr.fieldAt 42 (ρ 5) 0))) fun x23_1 => UK Tryz.prog (Instr.storeAt 3 x23_1 x22_1) w fun _ w => S w ∧ (K Exit.normal (up (up (up (up (up (up ρ 18 x18_1) 20 x20_1) 19 x19_1) 21 x21_1) 22 x22_1) 23 x23_1) w)))) ∧ (CK Tryz.prog (Value.func (Fn.func 76) #[] #[]) [x20_1] w fun x21_2 w => S w ∧ (VK Tryz.prog (Instr.loadAt 3 x18_1) w fun x19_2 w => S w ∧ (HK Tryz.prog S (do pure (Next.value (← (do eqGuard BinOp.add 3 (Operand.tmp 19) (Operand.tmp 21) x19_2 x21_2; binOp BinOp.add 3 x19_2 x21_2)))) fun x22_2 => HK Tryz.prog S (do pure (Next.value (← Instr.fieldAt 42 (ρ 5) 0))) fun x23_2 => UK Tryz.prog (Instr.storeAt 3 x23_2 x22_2) w fun _ w => S w ∧ (K Exit.normal (up (up (up (up (up (up ρ 18 x18_1) 20 x20_1) 21 x21_2) 19 x19_2) 22 x22_2) 23 x23_2) w))))
theorem bound_size_one_R2_held {D : List Deferred} (S : World → Prop) {K : Exit → Sl → World → Prop} {ρ : Sl} {w : World} (hS : S { w with drawn := w.drawn + 1 }) (h : bound_size_one_R2_H S K ρ { w with drawn := w.drawn + 1 }) : W ⟨none, D⟩ Tryz.prog 74 bound_size_one_R2 K ρ w := by
  have e : bound_size_one_R2 = .region (idOf bound_size_one_R2) bound_size_one_R2_ops true := by kernel_rfl
  have q : sxd Tryz.prog S bound_size_one_R2_ops (K .normal) (Pd.take 0 (Pd.take 2 (Pd.two false false 1 3 (Pd.only false 3 (Pd.take 4 (Pd.take 5 (Pd.only false 6 Pd.done)))) (Pd.only false 1 (Pd.take 4 (Pd.take 5 (Pd.only false 6 Pd.done))))))) ρ { w with drawn := w.drawn + 1 } = bound_size_one_R2_H S K ρ { w with drawn := w.drawn + 1 } := by kernel_rfl
  rw [e]
  exact W_pland S (Pd.take 0 (Pd.take 2 (Pd.two false false 1 3 (Pd.only false 3 (Pd.take 4 (Pd.take 5 (Pd.only false 6 Pd.done)))) (Pd.only false 1 (Pd.take 4 (Pd.take 5 (Pd.only false 6 Pd.done))))))) (by kernel_rfl) (by kernel_rfl) (by kernel_rfl) (by kernel_rfl) hS (Eq.mpr q h)
noncomputable def bound_size_one_R3_F (z : At) (K : Exit → Sl → World → Prop) (ρ : Sl) (w : World) : Prop :=
  BK Tryz.prog BinOp.add 3 (Operand.tmp 14) (Operand.const (Value.int IntKind.i64 1)) (ρ 14) (Value.int IntKind.i64 1) w fun x24 w => K Exit.normal (up (up ρ 24 x24) 14 x24) w
theorem bound_size_one_R3_eq (z : At) (K : Exit → Sl → World → Prop) (ρ : Sl) (w : World) : sx z Tryz.prog 74 bound_size_one_R3 K ρ w = bound_size_one_R3_F z K ρ w := by kernel_rfl
noncomputable def bound_size_one_R4_F (z : At) (K : Exit → Sl → World → Prop) (ρ : Sl) (w : World) : Prop :=
  VK Tryz.prog (Instr.loadAt 42 (ρ 5)) w fun x72 w => CK Tryz.prog (Value.func (Fn.func 45) #[] #[]) [x72] w fun x73 w => UK Tryz.prog (Instr.storeAt 42 (ρ 4) x73) w fun _ w => K Exit.ret (up (up ρ 72 x72) 73 x73) w
theorem bound_size_one_R4_eq (z : At) (K : Exit → Sl → World → Prop) (ρ : Sl) (w : World) : sx z Tryz.prog 74 bound_size_one_R4 K ρ w = bound_size_one_R4_F z K ρ w := by kernel_rfl
noncomputable def bound_size_one_R5_ops : Array Oper := opsOf bound_size_one_R5
def bound_size_one_R5_H (S : World → Prop) (K : Exit → Sl → World → Prop) (ρ : Sl) (w : World) : Prop :=
  HK Tryz.prog S (do pure (Next.value (← Instr.loadAt 42 (ρ 8)))) fun x42_1 => HK Tryz.prog S (do pure (Next.value (← Instr.fieldAt 62 (ρ 3) 7))) fun x44_1 => HK Tryz.prog S (do pure (Next.value (← Instr.loadAt 23 x44_1))) fun x45_1 => (VK Tryz.prog (Instr.loadAt 42 (ρ 5)) w fun x41_1 w => S w ∧ (CK Tryz.prog (Value.func (Fn.func 28) #[] #[]) [(ρ 0), x45_1] w fun x46_1 w => S w ∧ (CK Tryz.prog (Value.func (Fn.func 77) #[] #[]) [x42_1, x46_1] w fun x47_1 w => S w ∧ (CK Tryz.prog (Value.func (Fn.func 29) #[] #[]) [x41_1, x47_1] w fun x48_1 w => S w ∧ (UK Tryz.prog (Instr.storeAt 42 (ρ 5) x48_1) w fun _ w => S w ∧ (K Exit.normal (up (up (up (up (up (up (up (up ρ 42 x42_1) 43 (ρ 0)) 44 x44_1) 45 x45_1) 41 x41_1) 46 x46_1) 47 x47_1) 48 x48_1) w)))))) ∧ (CK Tryz.prog (Value.func (Fn.func 28) #[] #[]) [(ρ 0), x45_1] w fun x46_2 w => S w ∧ ((VK Tryz.prog (Instr.loadAt 42 (ρ 5)) w fun x41_2 w => S w ∧ (CK Tryz.prog (Value.func (Fn.func 77) #[] #[]) [x42_1, x46_2] w fun x47_2 w => S w ∧ (CK Tryz.prog (Value.func (Fn.func 29) #[] #[]) [x41_2, x47_2] w fun x48_2 w => S w ∧ (UK Tryz.prog (Instr.storeAt 42 (ρ 5) x48_2) w fun _ w => S w ∧ (K Exit.normal (up (up (up (up (up (up (up (up ρ 42 x42_1) 43 (ρ 0)) 44 x44_1) 45 x45_1) 46 x46_2) 41 x41_2) 47 x47_2) 48 x48_2) w))))) ∧ (CK Tryz.prog (Value.func (Fn.func 77) #[] #[]) [x42_1, x46_2] w fun x47_3 w => S w ∧ (VK Tryz.prog (Instr.loadAt 42 (ρ 5)) w fun x41_3 w => S w ∧ (CK Tryz.prog (Value.func (Fn.func 29) #[] #[]) [x41_3, x47_3] w fun x48_3 w => S w ∧ (UK Tryz.prog (Instr.storeAt 42 (ρ 5) x48_3) w fun _ w => S w ∧ (K Exit.normal (up (up (up (up (up (up (up (up ρ 42 x42_1) 43 (ρ 0)) 44 x44_1) 45 x45_1) 46 x46_2) 47 x47_3) 41 x41_3) 48 x48_3) w)))))))
theorem bound_size_one_R5_held {D : List Deferred} (S : World → Prop) {K : Exit → Sl → World → Prop} {ρ : Sl} {w : World} (hS : S { w with drawn := w.drawn + 1 }) (h : bound_size_one_R5_H S K ρ { w with drawn := w.drawn + 1 }) : W ⟨none, D⟩ Tryz.prog 74 bound_size_one_R5 K ρ w := by
  have e : bound_size_one_R5 = .region (idOf bound_size_one_R5) bound_size_one_R5_ops true := by kernel_rfl
  have q : sxd Tryz.prog S bound_size_one_R5_ops (K .normal) (Pd.take 1 (Pd.take 2 (Pd.take 3 (Pd.take 4 (Pd.two false false 0 5 (Pd.only false 5 (Pd.only false 6 (Pd.only false 7 (Pd.only false 8 Pd.done)))) (Pd.two false false 0 6 (Pd.only false 6 (Pd.only false 7 (Pd.only false 8 Pd.done))) (Pd.only false 0 (Pd.only false 7 (Pd.only false 8 Pd.done))))))))) ρ { w with drawn := w.drawn + 1 } = bound_size_one_R5_H S K ρ { w with drawn := w.drawn + 1 } := by kernel_rfl
  rw [e]
  exact W_pland S (Pd.take 1 (Pd.take 2 (Pd.take 3 (Pd.take 4 (Pd.two false false 0 5 (Pd.only false 5 (Pd.only false 6 (Pd.only false 7 (Pd.only false 8 Pd.done)))) (Pd.two false false 0 6 (Pd.only false 6 (Pd.only false 7 (Pd.only false 8 Pd.done))) (Pd.only false 0 (Pd.only false 7 (Pd.only false 8 Pd.done))))))))) (by kernel_rfl) (by kernel_rfl) (by kernel_rfl) (by kernel_rfl) hS (Eq.mpr q h)
noncomputable def bound_size_one_R6_F (z : At) (K : Exit → Sl → World → Prop) (ρ : Sl) (w : World) : Prop :=
  VK Tryz.prog (Instr.fieldAt 62 (ρ 3) 6) w fun x57 w => VK Tryz.prog (Instr.loadAt 23 x57) w fun x58 w => CK Tryz.prog (Value.func (Fn.func 28) #[] #[]) [(ρ 0), x58] w fun x59 w => VK Tryz.prog (Instr.build 42 [(0, (Value.int IntKind.i64 9))].toArray) w fun x60 w => CK Tryz.prog (Value.func (Fn.func 29) #[] #[]) [x59, x60] w fun x61 w => CK Tryz.prog (Value.func (Fn.func 78) #[] #[]) [x61, (ρ 9)] w fun x63 w => VK Tryz.prog (Instr.build 42 [(0, (Value.int IntKind.i64 6))].toArray) w fun x64 w => CK Tryz.prog (Value.func (Fn.func 29) #[] #[]) [x63, x64] w fun x65 w => UK Tryz.prog (Instr.storeAt 42 (ρ 5) x65) w fun _ w => K Exit.normal (up (up (up (up (up (up (up (up (up (up ρ 56 (ρ 0)) 57 x57) 58 x58) 59 x59) 60 x60) 61 x61) 62 (ρ 9)) 63 x63) 64 x64) 65 x65) w
theorem bound_size_one_R6_eq (z : At) (K : Exit → Sl → World → Prop) (ρ : Sl) (w : World) : sx z Tryz.prog 74 bound_size_one_R6 K ρ w = bound_size_one_R6_F z K ρ w := by kernel_rfl
noncomputable def bound_size_one_F (a0 a1 : Value) (w : World) (R : Value → World → Prop) : Prop :=
  VK Tryz.prog (Instr.box 62 a1) w fun x3 w => VK Tryz.prog (Instr.alloc 42 true (.tuple #[])) w fun x4 w => VK Tryz.prog (Instr.build 42 [(0, (Value.int IntKind.i64 1))].toArray) w fun x10 w => VK Tryz.prog (Instr.alloc 42 true (.tuple #[])) w fun x5 w => UK Tryz.prog (Instr.storeAt 42 x5 x10) w fun _ w => VK Tryz.prog (Instr.fieldAt 62 x3 5) w fun x11 w => VK Tryz.prog (Instr.loadAt 60 x11) w fun x12 w => IK Tryz.prog Builtin.len #[60] 3 [false] [x12] w fun x13 w => W fn_ Tryz.prog 74 (Code.loop bound_size_one_L0) (blkK 0 (seqK (sx fn_ Tryz.prog 74 bound_size_one_R1 (retK Tryz.prog [ResultVar.cell 4 42] R)) (retK Tryz.prog [ResultVar.cell 4 42] R))) (up (up (up (up (up (up (up (up (rho0 [a0, a1]) 3 x3) 4 x4) 10 x10) 5 x5) 11 x11) 12 x12) 13 x13) 14 (Value.int IntKind.i64 0)) w
theorem bound_size_one_eq (a0 a1 : Value) (w : World) (R : Value → World → Prop) : sx fn_ Tryz.prog 74 bound_size_one_b (retK Tryz.prog Tryz.f44.results.toList R) (rho0 [a0, a1]) w = bound_size_one_F a0 a1 w R := by kernel_rfl
theorem bound_size_one_calls {a0 a1 : Value} {w : World} {R : Value → World → Prop} (h : bound_size_one_F a0 a1 w R) : Calls Tryz.prog 44 #[a0, a1] w fun e w' => ∃ v, e = .returned v ∧ R v w' :=
  Go.X.calls_of_sx (n := 74) (c := bound_size_one_b) Tryz.func44 (by kernel_rfl) (by kernel_rfl) (Nat.le_of_ble_eq_true rfl) (by kernel_rfl) (Eq.mpr (bound_size_one_eq a0 a1 w R) h)
/-- (dispatcher/bound.Bound).cut -/
noncomputable def bound_Bound_cut_b : Code := (Tryz.f45.body).getD .skip
noncomputable def bound_Bound_cut_F (a0 : Value) (w : World) (R : Value → World → Prop) : Prop :=
  VK Tryz.prog (Instr.box 42 a0) w fun x1 w => VK Tryz.prog (Instr.alloc 42 true (.tuple #[])) w fun x2 w => VK Tryz.prog (Instr.fieldAt 42 x1 0) w fun x3 w => VK Tryz.prog (Instr.loadAt 3 x3) w fun x4 w => IK Tryz.prog Builtin.min #[3, 3] 3 [false, true] [x4, (Value.int IntKind.i64 1048577)] w fun x5 w => VK Tryz.prog (Instr.fieldAt 42 x1 1) w fun x6 w => VK Tryz.prog (Instr.loadAt 3 x6) w fun x7 w => IK Tryz.prog Builtin.min #[3, 3] 3 [false, true] [x7, (Value.int IntKind.i64 1048577)] w fun x8 w => VK Tryz.prog (Instr.fieldAt 42 x1 2) w fun x9 w => VK Tryz.prog (Instr.loadAt 3 x9) w fun x10 w => IK Tryz.prog Builtin.min #[3, 3] 3 [false, true] [x10, (Value.int IntKind.i64 1048577)] w fun x11 w => VK Tryz.prog (Instr.build 42 [(0, x5), (1, x8), (2, x11)].toArray) w fun x12 w => UK Tryz.prog (Instr.storeAt 42 x2 x12) w fun _ w => ∃ x2_1, (do loadVar 42 (← asAddr x2) : Sem Value).run Tryz.prog w = .ok x2_1 w ∧ R x2_1 w
theorem bound_Bound_cut_eq (a0 : Value) (w : World) (R : Value → World → Prop) : sx fn_ Tryz.prog 13 bound_Bound_cut_b (retK Tryz.prog Tryz.f45.results.toList R) (rho0 [a0]) w = bound_Bound_cut_F a0 w R := by kernel_rfl
theorem bound_Bound_cut_calls {a0 : Value} {w : World} {R : Value → World → Prop} (h : bound_Bound_cut_F a0 w R) : Calls Tryz.prog 45 #[a0] w fun e w' => ∃ v, e = .returned v ∧ R v w' :=
  Go.X.calls_of_sx (n := 13) (c := bound_Bound_cut_b) Tryz.func45 (by kernel_rfl) (by kernel_rfl) (Nat.le_of_ble_eq_true rfl) (by kernel_rfl) (Eq.mpr (bound_Bound_cut_eq a0 w R) h)
/-- dispatcher/dispatcherref09.stmt -/
noncomputable def dispatcherref09_stmt_b : Code := (Tryz.f54.body).getD .skip
noncomputable def dispatcherref09_stmt_L0 : Code := cAt [1, 1, 0, 1, 0, 0] dispatcherref09_stmt_b
noncomputable def dispatcherref09_stmt_R1 : Code := cAt [1, 1, 1] dispatcherref09_stmt_b
noncomputable def dispatcherref09_stmt_R2 : Code := cAt [1, 1, 0, 1, 0, 0, 1, 0, 0] dispatcherref09_stmt_b
noncomputable def dispatcherref09_stmt_R3 : Code := cAt [1, 1, 0, 1, 0, 0, 1, 1] dispatcherref09_stmt_b
noncomputable def dispatcherref09_stmt_R4 : Code := cAt [1, 1, 1, 1, 1, 1] dispatcherref09_stmt_b
noncomputable def dispatcherref09_stmt_R5 : Code := cAt [1, 1, 1, 1, 1, 0, 1, 0, 1, 0, 1] dispatcherref09_stmt_b
noncomputable def dispatcherref09_stmt_R6 : Code := cAt [1, 1, 1, 1, 1, 0, 1, 0, 1, 1, 1, 0, 1, 1] dispatcherref09_stmt_b
noncomputable def dispatcherref09_stmt_L0_F (z : At) (K : Exit → Sl → World → Prop) (ρ : Sl) (w : World) : Prop :=
  VK Tryz.prog (Instr.fieldAt 62 (ρ 2) 5) w fun x11 w => VK Tryz.prog (Instr.loadAt 60 x11) w fun x12 w => IK Tryz.prog Builtin.len #[60] 3 [false] [x12] w fun x13 w => BK Tryz.prog BinOp.lss 3 (Operand.tmp 10) (Operand.tmp 13) (ρ 6) x13 w fun x14 w => CondK x14 (W z Tryz.prog 109 dispatcherref09_stmt_R2 (blkK 1 (seqK (sx z Tryz.prog 109 dispatcherref09_stmt_R3 K) K)) (up (up (up (up (up ρ 10 (ρ 6)) 11 x11) 12 x12) 13 x13) 14 x14) w) (K (Exit.exit 0) (up (up (up (up (up ρ 10 (ρ 6)) 11 x11) 12 x12) 13 x13) 14 x14) w)
theorem dispatcherref09_stmt_L0_eq (z : At) (K : Exit → Sl → World → Prop) (ρ : Sl) (w : World) : sx z Tryz.prog 109 dispatcherref09_stmt_L0 K ρ w = dispatcherref09_stmt_L0_F z K ρ w := by kernel_rfl
theorem dispatcherref09_stmt_L0_ok : dstOk 109 dispatcherref09_stmt_L0 = true := by kernel_rfl
noncomputable def dispatcherref09_stmt_R1_F (z : At) (K : Exit → Sl → World → Prop) (ρ : Sl) (w : World) : Prop :=
  VK Tryz.prog (Instr.fieldAt 62 (ρ 2) 6) w fun x27 w => VK Tryz.prog (Instr.loadAt 23 x27) w fun x28 w => CK Tryz.prog (Value.func (Fn.func 36) #[] #[]) [x28, (ρ 1)] w fun x30 w => VK Tryz.prog (Instr.alloc 42 true (.tuple #[])) w fun x7 w => UK Tryz.prog (Instr.storeAt 42 x7 x30) w fun _ w => VK Tryz.prog (Instr.fieldAt 62 (ρ 2) 7) w fun x31 w => VK Tryz.prog (Instr.loadAt 23 x31) w fun x32 w => CK Tryz.prog (Value.func (Fn.func 36) #[] #[]) [x32, (ρ 1)] w fun x34 w => VK Tryz.prog (Instr.alloc 42 true (.tuple #[])) w fun x8 w => UK Tryz.prog (Instr.storeAt 42 x8 x34) w fun _ w => VK Tryz.prog (Instr.fieldAt 62 (ρ 2) 0) w fun x35 w => VK Tryz.prog (Instr.loadAt 5 x35) w fun x36 w => BK Tryz.prog BinOp.eql 5 (Operand.tmp 36) (Operand.const (Value.int IntKind.u8 3)) x36 (Value.int IntKind.u8 3) w fun x42 w => CondK x42 (VK Tryz.prog (Instr.fieldAt 62 (ρ 2) 7) w fun x43 w => VK Tryz.prog (Instr.loadAt 23 x43) w fun x44 w => IK Tryz.prog Builtin.len #[23] 3 [false] [x44] w fun x45 w => BK Tryz.prog BinOp.gtr 3 (Operand.tmp 45) (Operand.const (Value.int IntKind.i64 0)) x45 (Value.int IntKind.i64 0) w fun x46 w => CondK x46 (VK Tryz.prog (Instr.fieldAt 42 x7 0) w fun x47 w => VK Tryz.prog (Instr.loadAt 3 x47) w fun x48 w => BK Tryz.prog BinOp.add 3 (Operand.tmp 48) (Operand.const (Value.int IntKind.i64 1)) x48 (Value.int IntKind.i64 1) w fun x49 w => VK Tryz.prog (Instr.fieldAt 42 x7 0) w fun x50 w => UK Tryz.prog (Instr.storeAt 3 x50 x49) w fun _ w => sx z Tryz.prog 109 dispatcherref09_stmt_R5 (blkK 2 (seqK (sx z Tryz.prog 109 dispatcherref09_stmt_R4 K) K)) (up (up (up (up (up (up (up (up (up (up (up (up (up (up (up (up (up (up (up (up (up (up ρ 27 x27) 28 x28) 29 (ρ 1)) 30 x30) 7 x7) 31 x31) 32 x32) 33 (ρ 1)) 34 x34) 8 x8) 35 x35) 36 x36) 42 x42) 41 x42) 43 x43) 44 x44) 45 x45) 46 x46) 47 x47) 48 x48) 49 x49) 50 x50) w) (sx z Tryz.prog 109 dispatcherref09_stmt_R5 (blkK 2 (seqK (sx z Tryz.prog 109 dispatcherref09_stmt_R4 K) K)) (up (up (up (up (up (up (up (up (up (up (up (up (up (up (up (up (up (up ρ 27 x27) 28 x28) 29 (ρ 1)) 30 x30) 7 x7) 31 x31) 32 x32) 33 (ρ 1)) 34 x34) 8 x8) 35 x35) 36 x36) 42 x42) 41 x42) 43 x43) 44 x44) 45 x45) 46 x46) w)) (BK Tryz.prog BinOp.eql 5 (Operand.tmp 36) (Operand.const (Value.int IntKind.u8 5)) x36 (Value.int IntKind.u8 5) w fun x74 w => CondK x74 (VK Tryz.prog (Instr.fieldAt 62 (ρ 2) 4) w fun x75 w => VK Tryz.prog (Instr.loadAt 3 x75) w fun x76 w => BK Tryz.prog BinOp.eql 3 (Operand.tmp 77) (Operand.const (Value.int IntKind.i64 0)) x76 (Value.int IntKind.i64 0) w fun x78 w => CondK x78 (sx z Tryz.prog 109 dispatcherref09_stmt_R6 (blkK 2 (seqK (sx z Tryz.prog 109 dispatcherref09_stmt_R4 K) K)) (up (up (up (up (up (up (up (up (up (up (up (up (up (up (up (up (up (up (up (up (up (up (up ρ 27 x27) 28 x28) 29 (ρ 1)) 30 x30) 7 x7) 31 x31) 32 x32) 33 (ρ 1)) 34 x34) 8 x8) 35 x35) 36 x36) 42 x42) 41 x42) 74 x74) 73 x74) 75 x75) 76 x76) 9 x76) 77 x76) 78 x78) 79 (ρ 1)) 9 (ρ 1)) w) (sx z Tryz.prog 109 dispatcherref09_stmt_R6 (blkK 2 (seqK (sx z Tryz.prog 109 dispatcherref09_stmt_R4 K) K)) (up (up (up (up (up (up (up (up (up (up (up (up (up (up (up (up (up (up (up (up (up ρ 27 x27) 28 x28) 29 (ρ 1)) 30 x30) 7 x7) 31 x31) 32 x32) 33 (ρ 1)) 34 x34) 8 x8) 35 x35) 36 x36) 42 x42) 41 x42) 74 x74) 73 x74) 75 x75) 76 x76) 9 x76) 77 x76) 78 x78) w)) (BK Tryz.prog BinOp.eql 5 (Operand.tmp 36) (Operand.const (Value.int IntKind.u8 8)) x36 (Value.int IntKind.u8 8) w fun x98 w => CondK x98 (VK Tryz.prog (Instr.fieldAt 42 (ρ 5) 0) w fun x99 w => VK Tryz.prog (Instr.loadAt 3 x99) w fun x100 w => BK Tryz.prog BinOp.add 3 (Operand.tmp 100) (Operand.const (Value.int IntKind.i64 1)) x100 (Value.int IntKind.i64 1) w fun x101 w => VK Tryz.prog (Instr.fieldAt 42 (ρ 5) 0) w fun x102 w => UK Tryz.prog (Instr.storeAt 3 x102 x101) w fun _ w => VK Tryz.prog (Instr.fieldAt 42 (ρ 5) 1) w fun x103 w => UK Tryz.prog (Instr.storeAt 3 x103 (Value.int IntKind.i64 1)) w fun _ w => VK Tryz.prog (Instr.loadAt 62 (ρ 2)) w fun x104 w => CK Tryz.prog (Value.func (Fn.func 56) #[] #[]) [x104] w fun x105 w => CondK x105 (VK Tryz.prog (Instr.fieldAt 42 (ρ 5) 2) w fun x106 w => UK Tryz.prog (Instr.storeAt 3 x106 (Value.int IntKind.i64 1)) w fun _ w => sx z Tryz.prog 109 dispatcherref09_stmt_R4 K (up (up (up (up (up (up (up (up (up (up (up (up (up (up (up (up (up (up (up (up (up (up (up (up (up (up ρ 27 x27) 28 x28) 29 (ρ 1)) 30 x30) 7 x7) 31 x31) 32 x32) 33 (ρ 1)) 34 x34) 8 x8) 35 x35) 36 x36) 42 x42) 41 x42) 74 x74) 73 x74) 98 x98) 97 x98) 99 x99) 100 x100) 101 x101) 102 x102) 103 x103) 104 x104) 105 x105) 106 x106) w) (sx z Tryz.prog 109 dispatcherref09_stmt_R4 K (up (up (up (up (up (up (up (up (up (up (up (up (up (up (up (up (up (up (up (up (up (up (up (up (up ρ 27 x27) 28 x28) 29 (ρ 1)) 30 x30) 7 x7) 31 x31) 32 x32) 33 (ρ 1)) 34 x34) 8 x8) 35 x35) 36 x36) 42 x42) 41 x42) 74 x74) 73 x74) 98 x98) 97 x98) 99 x99) 100 x100) 101 x101) 102 x102) 103 x103) 104 x104) 105 x105) w)) (VK Tryz.prog (Instr.fieldAt 42 (ρ 5) 0) w fun x37 w => VK Tryz.prog (Instr.loadAt 3 x37) w fun x38 w => BK Tryz.prog BinOp.add 3 (Operand.tmp 38) (Operand.const (Value.int IntKind.i64 1)) x38 (Value.int IntKind.i64 1) w fun x39 w => VK Tryz.prog (Instr.fieldAt 42 (ρ 5) 0) w fun x40 w => UK Tryz.prog (Instr.storeAt 3 x40 x39) w fun _ w => sx z Tryz.prog 109 dispatcherref09_stmt_R4 K (up (up (up (up (up (up (up (up (up (up (up (up (up (up (up (up (up (up (up (up (up (up ρ 27 x27) 28 x28) 29 (ρ 1)) 30 x30) 7 x7) 31 x31) 32 x32) 33 (ρ 1)) 34 x34) 8 x8) 35 x35) 36 x36) 42 x42) 41 x42) 74 x74) 73 x74) 98 x98) 97 x98) 37 x37) 38 x38) 39 x39) 40 x40) w)))
theorem dispatcherref09_stmt_R1_eq (z : At) (K : Exit → Sl → World → Prop) (ρ : Sl) (w : World) : sx z Tryz.prog 109 dispatcherref09_stmt_R1 K ρ w = dispatcherref09_stmt_R1_F z K ρ w := by kernel_rfl
noncomputable def dispatcherref09_stmt_R2_ops : Array Oper := opsOf dispatcherref09_stmt_R2
def dispatcherref09_stmt_R2_H (S : World → Prop) (K : Exit → Sl → World → Prop) (ρ : Sl) (w : World) : Prop :=
  HK Tryz.prog S (do pure (Next.value (← Instr.fieldAt 42 (ρ 5) 0))) fun x17_1 => HK Tryz.prog S (do pure (Next.value (← Instr.fieldAt 62 (ρ 2) 5))) fun x19_1 => HK Tryz.prog S (do pure (Next.value (← Instr.loadAt 60 x19_1))) fun x20_1 => HK Tryz.prog S (do pure (Next.value (← Instr.indexAt 60 x20_1 (ρ 6)))) fun x22_1 => HK Tryz.prog S (do pure (Next.value (← Instr.loadAt 85 x22_1))) fun x23_1 => (VK Tryz.prog (Instr.loadAt 3 x17_1) w fun x18_1 w => S w ∧ (CK Tryz.prog (Value.func (Fn.func 83) #[] #[]) [x23_1] w fun x24_1 w => S w ∧ (HK Tryz.prog S (do pure (Next.value (← (do eqGuard BinOp.add 3 (Operand.tmp 18) (Operand.tmp 24) x18_1 x24_1; binOp BinOp.add 3 x18_1 x24_1)))) fun x25_1 => HK Tryz.prog S (do pure (Next.value (← Instr.fieldAt 42 (ρ 5) 0))) fun x26_1 => UK Tryz.prog (Instr.storeAt 3 x26_1 x25_1) w fun _ w => S w ∧ (K Exit.normal (up (up (up (up (up (up (up (up (up (up ρ 17 x17_1) 19 x19_1) 20 x20_1) 21 (ρ 6)) 22 x22_1) 23 x23_1) 18 x18_1) 24 x24_1) 25 x25_1) 26 x26_1) w)))) ∧ (CK Tryz.prog (Value.func (Fn.func 83) #[] #[]) [x23_1] w fun x24_2 w => S w ∧ (VK Tryz.prog (Instr.loadAt 3 x17_1) w fun x18_2 w => S w ∧ (HK Tryz.prog S (do pure (Next.value (← (do eqGuard BinOp.add 3 (Operand.tmp 18) (Operand.tmp 24) x18_2 x24_2; binOp BinOp.add 3 x18_2 x24_2)))) fun x25_2 => HK Tryz.prog S (do pure (Next.value (← Instr.fieldAt 42 (ρ 5) 0))) fun x26_2 => UK Tryz.prog (Instr.storeAt 3 x26_2 x25_2) w fun _ w => S w ∧ (K Exit.normal (up (up (up (up (up (up (up (up (up (up ρ 17 x17_1) 19 x19_1) 20 x20_1) 21 (ρ 6)) 22 x22_1) 23 x23_1) 24 x24_2) 18 x18_2) 25 x25_2) 26 x26_2) w))))
theorem dispatcherref09_stmt_R2_held {D : List Deferred} (S : World → Prop) {K : Exit → Sl → World → Prop} {ρ : Sl} {w : World} (hS : S { w with drawn := w.drawn + 1 }) (h : dispatcherref09_stmt_R2_H S K ρ { w with drawn := w.drawn + 1 }) : W ⟨none, D⟩ Tryz.prog 109 dispatcherref09_stmt_R2 K ρ w := by
  have e : dispatcherref09_stmt_R2 = .region (idOf dispatcherref09_stmt_R2) dispatcherref09_stmt_R2_ops true := by kernel_rfl
  have q : sxd Tryz.prog S dispatcherref09_stmt_R2_ops (K .normal) (Pd.take 0 (Pd.take 2 (Pd.take 3 (Pd.take 4 (Pd.take 5 (Pd.take 6 (Pd.two false false 1 7 (Pd.only false 7 (Pd.take 8 (Pd.take 9 (Pd.only false 10 Pd.done)))) (Pd.only false 1 (Pd.take 8 (Pd.take 9 (Pd.only false 10 Pd.done))))))))))) ρ { w with drawn := w.drawn + 1 } = dispatcherref09_stmt_R2_H S K ρ { w with drawn := w.drawn + 1 } := by kernel_rfl
  rw [e]
  exact W_pland S (Pd.take 0 (Pd.take 2 (Pd.take 3 (Pd.take 4 (Pd.take 5 (Pd.take 6 (Pd.two false false 1 7 (Pd.only false 7 (Pd.take 8 (Pd.take 9 (Pd.only false 10 Pd.done)))) (Pd.only false 1 (Pd.take 8 (Pd.take 9 (Pd.only false 10 Pd.done))))))))))) (by kernel_rfl) (by kernel_rfl) (by kernel_rfl) (by kernel_rfl) hS (Eq.mpr q h)
noncomputable def dispatcherref09_stmt_R3_F (z : At) (K : Exit → Sl → World → Prop) (ρ : Sl) (w : World) : Prop :=
  BK Tryz.prog BinOp.add 3 (Operand.tmp 15) (Operand.const (Value.int IntKind.i64 1)) (ρ 6) (Value.int IntKind.i64 1) w fun x16 w => K Exit.normal (up (up (up ρ 15 (ρ 6)) 16 x16) 6 x16) w
theorem dispatcherref09_stmt_R3_eq (z : At) (K : Exit → Sl → World → Prop) (ρ : Sl) (w : World) : sx z Tryz.prog 109 dispatcherref09_stmt_R3 K ρ w = dispatcherref09_stmt_R3_F z K ρ w := by kernel_rfl
noncomputable def dispatcherref09_stmt_R4_F (z : At) (K : Exit → Sl → World → Prop) (ρ : Sl) (w : World) : Prop :=
  VK Tryz.prog (Instr.loadAt 42 (ρ 5)) w fun x107 w => CK Tryz.prog (Value.func (Fn.func 55) #[] #[]) [x107] w fun x108 w => UK Tryz.prog (Instr.storeAt 42 (ρ 4) x108) w fun _ w => K Exit.ret (up (up ρ 107 x107) 108 x108) w
theorem dispatcherref09_stmt_R4_eq (z : At) (K : Exit → Sl → World → Prop) (ρ : Sl) (w : World) : sx z Tryz.prog 109 dispatcherref09_stmt_R4 K ρ w = dispatcherref09_stmt_R4_F z K ρ w := by kernel_rfl
noncomputable def dispatcherref09_stmt_R5_F (z : At) (K : Exit → Sl → World → Prop) (ρ : Sl) (w : World) : Prop :=
  VK Tryz.prog (Instr.fieldAt 42 (ρ 5) 0) w fun x51 w => VK Tryz.prog (Instr.loadAt 3 x51) w fun x52 w => BK Tryz.prog BinOp.add 3 (Operand.tmp 52) (Operand.const (Value.int IntKind.i64 1)) x52 (Value.int IntKind.i64 1) w fun x53 w => VK Tryz.prog (Instr.fieldAt 42 (ρ 7) 0) w fun x54 w => VK Tryz.prog (Instr.loadAt 3 x54) w fun x55 w => VK Tryz.prog (Instr.fieldAt 42 (ρ 8) 0) w fun x56 w => VK Tryz.prog (Instr.loadAt 3 x56) w fun x57 w => IK Tryz.prog Builtin.max #[3, 3] 3 [false, false] [x55, x57] w fun x58 w => BK Tryz.prog BinOp.add 3 (Operand.tmp 53) (Operand.tmp 58) x53 x58 w fun x59 w => VK Tryz.prog (Instr.fieldAt 42 (ρ 5) 0) w fun x60 w => UK Tryz.prog (Instr.storeAt 3 x60 x59) w fun _ w => VK Tryz.prog (Instr.fieldAt 42 (ρ 7) 1) w fun x61 w => VK Tryz.prog (Instr.loadAt 3 x61) w fun x62 w => VK Tryz.prog (Instr.fieldAt 42 (ρ 8) 1) w fun x63 w => VK Tryz.prog (Instr.loadAt 3 x63) w fun x64 w => IK Tryz.prog Builtin.max #[3, 3] 3 [false, false] [x62, x64] w fun x65 w => VK Tryz.prog (Instr.fieldAt 42 (ρ 5) 1) w fun x66 w => UK Tryz.prog (Instr.storeAt 3 x66 x65) w fun _ w => VK Tryz.prog (Instr.fieldAt 42 (ρ 7) 2) w fun x67 w => VK Tryz.prog (Instr.loadAt 3 x67) w fun x68 w => VK Tryz.prog (Instr.fieldAt 42 (ρ 8) 2) w fun x69 w => VK Tryz.prog (Instr.loadAt 3 x69) w fun x70 w => IK Tryz.prog Builtin.max #[3, 3] 3 [false, false] [x68, x70] w fun x71 w => VK Tryz.prog (Instr.fieldAt 42 (ρ 5) 2) w fun x72 w => UK Tryz.prog (Instr.storeAt 3 x72 x71) w fun _ w => K Exit.normal (up (up (up (up (up (up (up (up (up (up (up (up (up (up (up (up (up (up (up (up (up (up ρ 51 x51) 52 x52) 53 x53) 54 x54) 55 x55) 56 x56) 57 x57) 58 x58) 59 x59) 60 x60) 61 x61) 62 x62) 63 x63) 64 x64) 65 x65) 66 x66) 67 x67) 68 x68) 69 x69) 70 x70) 71 x71) 72 x72) w
theorem dispatcherref09_stmt_R5_eq (z : At) (K : Exit → Sl → World → Prop) (ρ : Sl) (w : World) : sx z Tryz.prog 109 dispatcherref09_stmt_R5 K ρ w = dispatcherref09_stmt_R5_F z K ρ w := by kernel_rfl
noncomputable def dispatcherref09_stmt_R6_F (z : At) (K : Exit → Sl → World → Prop) (ρ : Sl) (w : World) : Prop :=
  VK Tryz.prog (Instr.fieldAt 42 (ρ 7) 0) w fun x81 w => VK Tryz.prog (Instr.loadAt 3 x81) w fun x82 w => BK Tryz.prog BinOp.add 3 (Operand.const (Value.int IntKind.i64 9)) (Operand.tmp 82) (Value.int IntKind.i64 9) x82 w fun x83 w => BK Tryz.prog BinOp.mul 3 (Operand.tmp 80) (Operand.tmp 83) (ρ 9) x83 w fun x84 w => BK Tryz.prog BinOp.add 3 (Operand.const (Value.int IntKind.i64 6)) (Operand.tmp 84) (Value.int IntKind.i64 6) x84 w fun x85 w => VK Tryz.prog (Instr.fieldAt 42 (ρ 5) 0) w fun x86 w => UK Tryz.prog (Instr.storeAt 3 x86 x85) w fun _ w => VK Tryz.prog (Instr.fieldAt 42 (ρ 7) 1) w fun x88 w => VK Tryz.prog (Instr.loadAt 3 x88) w fun x89 w => BK Tryz.prog BinOp.mul 3 (Operand.tmp 87) (Operand.tmp 89) (ρ 9) x89 w fun x90 w => VK Tryz.prog (Instr.fieldAt 42 (ρ 5) 1) w fun x91 w => UK Tryz.prog (Instr.storeAt 3 x91 x90) w fun _ w => VK Tryz.prog (Instr.fieldAt 42 (ρ 7) 2) w fun x93 w => VK Tryz.prog (Instr.loadAt 3 x93) w fun x94 w => BK Tryz.prog BinOp.mul 3 (Operand.tmp 92) (Operand.tmp 94) (ρ 9) x94 w fun x95 w => VK Tryz.prog (Instr.fieldAt 42 (ρ 5) 2) w fun x96 w => UK Tryz.prog (Instr.storeAt 3 x96 x95) w fun _ w => K Exit.normal (up (up (up (up (up (up (up (up (up (up (up (up (up (up (up (up (up ρ 80 (ρ 9)) 81 x81) 82 x82) 83 x83) 84 x84) 85 x85) 86 x86) 87 (ρ 9)) 88 x88) 89 x89) 90 x90) 91 x91) 92 (ρ 9)) 93 x93) 94 x94) 95 x95) 96 x96) w
theorem dispatcherref09_stmt_R6_eq (z : At) (K : Exit → Sl → World → Prop) (ρ : Sl) (w : World) : sx z Tryz.prog 109 dispatcherref09_stmt_R6 K ρ w = dispatcherref09_stmt_R6_F z K ρ w := by kernel_rfl
noncomputable def dispatcherref09_stmt_F (a0 a1 : Value) (w : World) (R : Value → World → Prop) : Prop :=
  VK Tryz.prog (Instr.box 62 a0) w fun x2 w => VK Tryz.prog (Instr.alloc 42 true (.tuple #[])) w fun x4 w => VK Tryz.prog (Instr.alloc 42 true (.tuple #[])) w fun x5 w => W fn_ Tryz.prog 109 (Code.loop dispatcherref09_stmt_L0) (blkK 0 (seqK (sx fn_ Tryz.prog 109 dispatcherref09_stmt_R1 (retK Tryz.prog [ResultVar.cell 4 42] R)) (retK Tryz.prog [ResultVar.cell 4 42] R))) (up (up (up (up (rho0 [a0, a1]) 2 x2) 4 x4) 5 x5) 6 (Value.int IntKind.i64 0)) w
theorem dispatcherref09_stmt_eq (a0 a1 : Value) (w : World) (R : Value → World → Prop) : sx fn_ Tryz.prog 109 dispatcherref09_stmt_b (retK Tryz.prog Tryz.f54.results.toList R) (rho0 [a0, a1]) w = dispatcherref09_stmt_F a0 a1 w R := by kernel_rfl
theorem dispatcherref09_stmt_calls {a0 a1 : Value} {w : World} {R : Value → World → Prop} (h : dispatcherref09_stmt_F a0 a1 w R) : Calls Tryz.prog 54 #[a0, a1] w fun e w' => ∃ v, e = .returned v ∧ R v w' :=
  Go.X.calls_of_sx (n := 109) (c := dispatcherref09_stmt_b) Tryz.func54 (by kernel_rfl) (by kernel_rfl) (Nat.le_of_ble_eq_true rfl) (by kernel_rfl) (Eq.mpr (dispatcherref09_stmt_eq a0 a1 w R) h)
/-- dispatcher/dispatcherref09.cut -/
noncomputable def dispatcherref09_cut_b : Code := (Tryz.f55.body).getD .skip
noncomputable def dispatcherref09_cut_R0 : Code := cAt [1, 0] dispatcherref09_cut_b
noncomputable def dispatcherref09_cut_R1 : Code := cAt [1, 1] dispatcherref09_cut_b
noncomputable def dispatcherref09_cut_R0_ops : Array Oper := opsOf dispatcherref09_cut_R0
def dispatcherref09_cut_R0_T (K : Exit → Sl → World → Prop) (ρ : Sl) (w : World) : Prop :=
  let C : World → Prop := fun w' => w' = w; QK Tryz.prog C (do pure (Next.value (← Instr.fieldAt 42 (ρ 1) 0))) fun x3 => QK Tryz.prog C (do pure (Next.value (← Instr.loadAt 3 x3))) fun x4 => QK Tryz.prog C (do let d ← Deferred.ofValue (Value.func (Fn.func 84) #[] #[]) [x4].toArray; invoke d.target d.args) fun x5 => QK Tryz.prog C (do pure (Next.value (← Instr.fieldAt 42 (ρ 1) 1))) fun x6 => QK Tryz.prog C (do pure (Next.value (← Instr.loadAt 3 x6))) fun x7 => QK Tryz.prog C (do let d ← Deferred.ofValue (Value.func (Fn.func 84) #[] #[]) [x7].toArray; invoke d.target d.args) fun x8 => QK Tryz.prog C (do pure (Next.value (← Instr.fieldAt 42 (ρ 1) 2))) fun x9 => QK Tryz.prog C (do pure (Next.value (← Instr.loadAt 3 x9))) fun x10 => CK Tryz.prog (Value.func (Fn.func 84) #[] #[]) [x10] w fun x11 w => VK Tryz.prog (Instr.build 42 [(0, x5), (1, x8), (2, x11)].toArray) w fun x12 w => UK Tryz.prog (Instr.storeAt 42 (ρ 2) x12) w fun _ w => K Exit.normal (up (up (up (up (up (up (up (up (up (up ρ 3 x3) 4 x4) 5 x5) 6 x6) 7 x7) 8 x8) 9 x9) 10 x10) 11 x11) 12 x12) w
theorem dispatcherref09_cut_R0_tail {D : List Deferred} {K : Exit → Sl → World → Prop} {ρ : Sl} {w : World} (h : dispatcherref09_cut_R0_T K ρ { w with drawn := w.drawn + 1 }) : W ⟨none, D⟩ Tryz.prog 13 dispatcherref09_cut_R0 K ρ w := by
  have e : dispatcherref09_cut_R0 = .region (idOf dispatcherref09_cut_R0) dispatcherref09_cut_R0_ops true := by kernel_rfl
  have q : sxq Tryz.prog (fun w' => w' = { w with drawn := w.drawn + 1 }) dispatcherref09_cut_R0_ops (fun ρ' => sxL Tryz.prog dispatcherref09_cut_R0_ops (K .normal) (dispatcherref09_cut_R0_ops.toList.drop 8) ρ' { w with drawn := w.drawn + 1 }) (dispatcherref09_cut_R0_ops.toList.take 8) ρ = dispatcherref09_cut_R0_T K ρ { w with drawn := w.drawn + 1 } := by kernel_rfl
  rw [e]
  exact W_tail 8 (by kernel_rfl) (by kernel_rfl) (by kernel_rfl) (by kernel_rfl) (Eq.mpr q h)
noncomputable def dispatcherref09_cut_R1_F (z : At) (K : Exit → Sl → World → Prop) (ρ : Sl) (w : World) : Prop :=
  K Exit.ret ρ w
theorem dispatcherref09_cut_R1_eq (z : At) (K : Exit → Sl → World → Prop) (ρ : Sl) (w : World) : sx z Tryz.prog 13 dispatcherref09_cut_R1 K ρ w = dispatcherref09_cut_R1_F z K ρ w := by kernel_rfl
noncomputable def dispatcherref09_cut_F (a0 : Value) (w : World) (R : Value → World → Prop) : Prop :=
  VK Tryz.prog (Instr.box 42 a0) w fun x1 w => VK Tryz.prog (Instr.alloc 42 true (.tuple #[])) w fun x2 w => W fn_ Tryz.prog 13 dispatcherref09_cut_R0 (seqK (sx fn_ Tryz.prog 13 dispatcherref09_cut_R1 (retK Tryz.prog [ResultVar.cell 2 42] R)) (retK Tryz.prog [ResultVar.cell 2 42] R)) (up (up (rho0 [a0]) 1 x1) 2 x2) w
theorem dispatcherref09_cut_eq (a0 : Value) (w : World) (R : Value → World → Prop) : sx fn_ Tryz.prog 13 dispatcherref09_cut_b (retK Tryz.prog Tryz.f55.results.toList R) (rho0 [a0]) w = dispatcherref09_cut_F a0 w R := by kernel_rfl
theorem dispatcherref09_cut_calls {a0 : Value} {w : World} {R : Value → World → Prop} (h : dispatcherref09_cut_F a0 w R) : Calls Tryz.prog 55 #[a0] w fun e w' => ∃ v, e = .returned v ∧ R v w' :=
  Go.X.calls_of_sx (n := 13) (c := dispatcherref09_cut_b) Tryz.func55 (by kernel_rfl) (by kernel_rfl) (Nat.le_of_ble_eq_true rfl) (by kernel_rfl) (Eq.mpr (dispatcherref09_cut_eq a0 w R) h)
/-- dispatcher/bound.loops$1 -/
noncomputable def bound_loops_1_b : Code := (Tryz.f75.body).getD .skip
noncomputable def bound_loops_1_F (a0 : Value) (w : World) (R : Value → World → Prop) : Prop :=
  VK Tryz.prog (Instr.box 62 a0) w fun x1 w => VK Tryz.prog (Instr.fieldAt 62 x1 0) w fun x3 w => VK Tryz.prog (Instr.loadAt 5 x3) w fun x4 w => BK Tryz.prog BinOp.eql 5 (Operand.tmp 4) (Operand.const (Value.int IntKind.u8 4)) x4 (Value.int IntKind.u8 4) w fun x5 w => VG Tryz.prog x5 false (Instr.fieldAt 62 x1 6) w fun x7 w => VG Tryz.prog x5 false (Instr.loadAt 23 x7) w fun x8 w => CG Tryz.prog x5 false (Value.func (Fn.func 43) #[] #[]) [x8] w fun x9 w => PK Tryz.prog x5 (Value.bool true) x9 w fun x10 w => VG Tryz.prog x10 false (Instr.fieldAt 62 x1 7) w fun x12 w => VG Tryz.prog x10 false (Instr.loadAt 23 x12) w fun x13 w => CG Tryz.prog x10 false (Value.func (Fn.func 43) #[] #[]) [x13] w fun x14 w => PK Tryz.prog x10 (Value.bool true) x14 w fun x15 w => R x15 w
theorem bound_loops_1_eq (a0 : Value) (w : World) (R : Value → World → Prop) : sx fn_ Tryz.prog 16 bound_loops_1_b (retK Tryz.prog Tryz.f75.results.toList R) (rho0 [a0]) w = bound_loops_1_F a0 w R := by kernel_rfl
theorem bound_loops_1_calls {a0 : Value} {w : World} {R : Value → World → Prop} (h : bound_loops_1_F a0 w R) : Calls Tryz.prog 75 #[a0] w fun e w' => ∃ v, e = .returned v ∧ R v w' :=
  Go.X.calls_of_sx (n := 16) (c := bound_loops_1_b) Tryz.func75 (by kernel_rfl) (by kernel_rfl) (Nat.le_of_ble_eq_true rfl) (by kernel_rfl) (Eq.mpr (bound_loops_1_eq a0 w R) h)
/-- (dispatcher/bound.Bound).or -/
noncomputable def bound_Bound_or_b : Code := (Tryz.f77.body).getD .skip
noncomputable def bound_Bound_or_R0 : Code := cAt [1, 0] bound_Bound_or_b
noncomputable def bound_Bound_or_R1 : Code := cAt [1, 1] bound_Bound_or_b
noncomputable def bound_Bound_or_R0_ops : Array Oper := opsOf bound_Bound_or_R0
def bound_Bound_or_R0_T (K : Exit → Sl → World → Prop) (ρ : Sl) (w : World) : Prop :=
  let C : World → Prop := fun w' => w' = w; QK Tryz.prog C (do pure (Next.value (← Instr.fieldAt 42 (ρ 2) 0))) fun x5 => QK Tryz.prog C (do pure (Next.value (← Instr.loadAt 3 x5))) fun x6 => QK Tryz.prog C (do pure (Next.value (← Instr.fieldAt 42 (ρ 3) 0))) fun x7 => QK Tryz.prog C (do pure (Next.value (← Instr.loadAt 3 x7))) fun x8 => QK Tryz.prog C (do let d ← Deferred.ofValue (Value.func (Fn.func 108) #[] #[]) [x6, x8].toArray; invoke d.target d.args) fun x9 => QK Tryz.prog C (do pure (Next.value (← Instr.fieldAt 42 (ρ 2) 1))) fun x10 => QK Tryz.prog C (do pure (Next.value (← Instr.loadAt 3 x10))) fun x11 => QK Tryz.prog C (do pure (Next.value (← Instr.fieldAt 42 (ρ 3) 1))) fun x12 => QK Tryz.prog C (do pure (Next.value (← Instr.loadAt 3 x12))) fun x13 => QK Tryz.prog C (do let d ← Deferred.ofValue (Value.func (Fn.func 108) #[] #[]) [x11, x13].toArray; invoke d.target d.args) fun x14 => QK Tryz.prog C (do pure (Next.value (← Instr.fieldAt 42 (ρ 2) 2))) fun x15 => QK Tryz.prog C (do pure (Next.value (← Instr.loadAt 3 x15))) fun x16 => QK Tryz.prog C (do pure (Next.value (← Instr.fieldAt 42 (ρ 3) 2))) fun x17 => QK Tryz.prog C (do pure (Next.value (← Instr.loadAt 3 x17))) fun x18 => CK Tryz.prog (Value.func (Fn.func 108) #[] #[]) [x16, x18] w fun x19 w => VK Tryz.prog (Instr.build 42 [(0, x9), (1, x14), (2, x19)].toArray) w fun x20 w => UK Tryz.prog (Instr.storeAt 42 (ρ 4) x20) w fun _ w => K Exit.normal (up (up (up (up (up (up (up (up (up (up (up (up (up (up (up (up ρ 5 x5) 6 x6) 7 x7) 8 x8) 9 x9) 10 x10) 11 x11) 12 x12) 13 x13) 14 x14) 15 x15) 16 x16) 17 x17) 18 x18) 19 x19) 20 x20) w
theorem bound_Bound_or_R0_tail {D : List Deferred} {K : Exit → Sl → World → Prop} {ρ : Sl} {w : World} (h : bound_Bound_or_R0_T K ρ { w with drawn := w.drawn + 1 }) : W ⟨none, D⟩ Tryz.prog 21 bound_Bound_or_R0 K ρ w := by
  have e : bound_Bound_or_R0 = .region (idOf bound_Bound_or_R0) bound_Bound_or_R0_ops true := by kernel_rfl
  have q : sxq Tryz.prog (fun w' => w' = { w with drawn := w.drawn + 1 }) bound_Bound_or_R0_ops (fun ρ' => sxL Tryz.prog bound_Bound_or_R0_ops (K .normal) (bound_Bound_or_R0_ops.toList.drop 14) ρ' { w with drawn := w.drawn + 1 }) (bound_Bound_or_R0_ops.toList.take 14) ρ = bound_Bound_or_R0_T K ρ { w with drawn := w.drawn + 1 } := by kernel_rfl
  rw [e]
  exact W_tail 14 (by kernel_rfl) (by kernel_rfl) (by kernel_rfl) (by kernel_rfl) (Eq.mpr q h)
noncomputable def bound_Bound_or_R1_F (z : At) (K : Exit → Sl → World → Prop) (ρ : Sl) (w : World) : Prop :=
  K Exit.ret ρ w
theorem bound_Bound_or_R1_eq (z : At) (K : Exit → Sl → World → Prop) (ρ : Sl) (w : World) : sx z Tryz.prog 21 bound_Bound_or_R1 K ρ w = bound_Bound_or_R1_F z K ρ w := by kernel_rfl
noncomputable def bound_Bound_or_F (a0 a1 : Value) (w : World) (R : Value → World → Prop) : Prop :=
  VK Tryz.prog (Instr.box 42 a0) w fun x2 w => VK Tryz.prog (Instr.box 42 a1) w fun x3 w => VK Tryz.prog (Instr.alloc 42 true (.tuple #[])) w fun x4 w => W fn_ Tryz.prog 21 bound_Bound_or_R0 (seqK (sx fn_ Tryz.prog 21 bound_Bound_or_R1 (retK Tryz.prog [ResultVar.cell 4 42] R)) (retK Tryz.prog [ResultVar.cell 4 42] R)) (up (up (up (rho0 [a0, a1]) 2 x2) 3 x3) 4 x4) w
theorem bound_Bound_or_eq (a0 a1 : Value) (w : World) (R : Value → World → Prop) : sx fn_ Tryz.prog 21 bound_Bound_or_b (retK Tryz.prog Tryz.f77.results.toList R) (rho0 [a0, a1]) w = bound_Bound_or_F a0 a1 w R := by kernel_rfl
theorem bound_Bound_or_calls {a0 a1 : Value} {w : World} {R : Value → World → Prop} (h : bound_Bound_or_F a0 a1 w R) : Calls Tryz.prog 77 #[a0, a1] w fun e w' => ∃ v, e = .returned v ∧ R v w' :=
  Go.X.calls_of_sx (n := 21) (c := bound_Bound_or_b) Tryz.func77 (by kernel_rfl) (by kernel_rfl) (Nat.le_of_ble_eq_true rfl) (by kernel_rfl) (Eq.mpr (bound_Bound_or_eq a0 a1 w R) h)
/-- (dispatcher/bound.Bound).times -/
noncomputable def bound_Bound_times_b : Code := (Tryz.f78.body).getD .skip
noncomputable def bound_Bound_times_F (a0 a1 : Value) (w : World) (R : Value → World → Prop) : Prop :=
  VK Tryz.prog (Instr.box 42 a0) w fun x2 w => VK Tryz.prog (Instr.alloc 42 true (.tuple #[])) w fun x4 w => VK Tryz.prog (Instr.fieldAt 42 x2 0) w fun x5 w => VK Tryz.prog (Instr.loadAt 3 x5) w fun x6 w => BK Tryz.prog BinOp.mul 3 (Operand.tmp 6) (Operand.tmp 7) x6 a1 w fun x8 w => VK Tryz.prog (Instr.fieldAt 42 x2 1) w fun x9 w => VK Tryz.prog (Instr.loadAt 3 x9) w fun x10 w => BK Tryz.prog BinOp.mul 3 (Operand.tmp 10) (Operand.tmp 11) x10 a1 w fun x12 w => VK Tryz.prog (Instr.fieldAt 42 x2 2) w fun x13 w => VK Tryz.prog (Instr.loadAt 3 x13) w fun x14 w => BK Tryz.prog BinOp.mul 3 (Operand.tmp 14) (Operand.tmp 15) x14 a1 w fun x16 w => VK Tryz.prog (Instr.build 42 [(0, x8), (1, x12), (2, x16)].toArray) w fun x17 w => UK Tryz.prog (Instr.storeAt 42 x4 x17) w fun _ w => ∃ x4_1, (do loadVar 42 (← asAddr x4) : Sem Value).run Tryz.prog w = .ok x4_1 w ∧ R x4_1 w
theorem bound_Bound_times_eq (a0 a1 : Value) (w : World) (R : Value → World → Prop) : sx fn_ Tryz.prog 18 bound_Bound_times_b (retK Tryz.prog Tryz.f78.results.toList R) (rho0 [a0, a1]) w = bound_Bound_times_F a0 a1 w R := by kernel_rfl
theorem bound_Bound_times_calls {a0 a1 : Value} {w : World} {R : Value → World → Prop} (h : bound_Bound_times_F a0 a1 w R) : Calls Tryz.prog 78 #[a0, a1] w fun e w' => ∃ v, e = .returned v ∧ R v w' :=
  Go.X.calls_of_sx (n := 18) (c := bound_Bound_times_b) Tryz.func78 (by kernel_rfl) (by kernel_rfl) (Nat.le_of_ble_eq_true rfl) (by kernel_rfl) (Eq.mpr (bound_Bound_times_eq a0 a1 w R) h)
/-- dispatcher/bound.Decides -/
noncomputable def bound_Decides_b : Code := (Tryz.f79.body).getD .skip
noncomputable def bound_Decides_R0 : Code := cAt [1, 1, 0, 1, 0, 1] bound_Decides_b
noncomputable def bound_Decides_R1 : Code := cAt [1, 1, 1] bound_Decides_b
noncomputable def bound_Decides_R2 : Code := cAt [1, 1, 0, 1, 0, 1, 1, 1] bound_Decides_b
noncomputable def bound_Decides_R0_F (z : At) (K : Exit → Sl → World → Prop) (ρ : Sl) (w : World) : Prop :=
  CondK (ρ 8) (VK Tryz.prog (Instr.fieldAt 62 (ρ 1) 5) w fun x12 w => VK Tryz.prog (Instr.loadAt 60 x12) w fun x13 w => IK Tryz.prog Builtin.len #[60] 3 [false] [x13] w fun x14 w => BK Tryz.prog BinOp.lss 3 (Operand.tmp 14) (Operand.const (Value.int IntKind.i64 2)) x14 (Value.int IntKind.i64 2) w fun x15 w => VG Tryz.prog x15 false (Instr.fieldAt 62 (ρ 1) 5) w fun x17 w => VG Tryz.prog x15 false (Instr.loadAt 60 x17) w fun x18 w => VG Tryz.prog x15 false (Instr.indexAt 60 x18 (Value.int IntKind.i64 1)) w fun x19 w => VG Tryz.prog x15 false (Instr.fieldAt 85 x19 0) w fun x20 w => VG Tryz.prog x15 false (Instr.loadAt 5 x20) w fun x21 w => BG Tryz.prog x15 false BinOp.neq 5 (Operand.tmp 21) (Operand.const (Value.int IntKind.u8 1)) x21 (Value.int IntKind.u8 1) w fun x22 w => PK Tryz.prog x15 (Value.bool true) x22 w fun x23 w => K Exit.ret (up (up (up (up (up (up (up (up (up (up (up (up (up ρ 12 x12) 13 x13) 14 x14) 15 x15) 16 x15) 17 x17) 18 x18) 19 x19) 20 x20) 21 x21) 22 x22) 23 x23) 2 x23) w) (BK Tryz.prog BinOp.eql 5 (Operand.tmp 7) (Operand.const (Value.int IntKind.u8 14)) (ρ 7) (Value.int IntKind.u8 14) w fun x25 w => CondK x25 (sx z Tryz.prog 29 bound_Decides_R2 K (up (up ρ 25 x25) 24 x25) w) (BK Tryz.prog BinOp.eql 5 (Operand.tmp 7) (Operand.const (Value.int IntKind.u8 10)) (ρ 7) (Value.int IntKind.u8 10) w fun x26 w => CondK x26 (sx z Tryz.prog 29 bound_Decides_R2 K (up (up (up (up ρ 25 x25) 24 x25) 26 x26) 24 x26) w) (BK Tryz.prog BinOp.eql 5 (Operand.tmp 7) (Operand.const (Value.int IntKind.u8 11)) (ρ 7) (Value.int IntKind.u8 11) w fun x27 w => CondK x27 (sx z Tryz.prog 29 bound_Decides_R2 K (up (up (up (up (up (up ρ 25 x25) 24 x25) 26 x26) 24 x26) 27 x27) 24 x27) w) (BK Tryz.prog BinOp.eql 5 (Operand.tmp 7) (Operand.const (Value.int IntKind.u8 12)) (ρ 7) (Value.int IntKind.u8 12) w fun x28 w => sx z Tryz.prog 29 bound_Decides_R2 K (up (up (up (up (up (up (up (up ρ 25 x25) 24 x25) 26 x26) 24 x26) 27 x27) 24 x27) 28 x28) 24 x28) w))))
theorem bound_Decides_R0_eq (z : At) (K : Exit → Sl → World → Prop) (ρ : Sl) (w : World) : sx z Tryz.prog 29 bound_Decides_R0 K ρ w = bound_Decides_R0_F z K ρ w := by kernel_rfl
noncomputable def bound_Decides_R1_F (z : At) (K : Exit → Sl → World → Prop) (ρ : Sl) (w : World) : Prop :=
  K Exit.ret (up ρ 2 (Value.bool false)) w
theorem bound_Decides_R1_eq (z : At) (K : Exit → Sl → World → Prop) (ρ : Sl) (w : World) : sx z Tryz.prog 29 bound_Decides_R1 K ρ w = bound_Decides_R1_F z K ρ w := by kernel_rfl
noncomputable def bound_Decides_R2_F (z : At) (K : Exit → Sl → World → Prop) (ρ : Sl) (w : World) : Prop :=
  CondK (ρ 24) (K Exit.ret (up ρ 2 (Value.bool true)) w) (K Exit.normal ρ w)
theorem bound_Decides_R2_eq (z : At) (K : Exit → Sl → World → Prop) (ρ : Sl) (w : World) : sx z Tryz.prog 29 bound_Decides_R2 K ρ w = bound_Decides_R2_F z K ρ w := by kernel_rfl
noncomputable def bound_Decides_F (a0 : Value) (w : World) (R : Value → World → Prop) : Prop :=
  VK Tryz.prog (Instr.box 62 a0) w fun x1 w => VK Tryz.prog (Instr.fieldAt 62 x1 0) w fun x3 w => VK Tryz.prog (Instr.loadAt 5 x3) w fun x4 w => BK Tryz.prog BinOp.neq 5 (Operand.tmp 4) (Operand.const (Value.int IntKind.u8 8)) x4 (Value.int IntKind.u8 8) w fun x5 w => CondK x5 (R (Value.bool false) w) (VK Tryz.prog (Instr.fieldAt 62 x1 1) w fun x6 w => VK Tryz.prog (Instr.loadAt 5 x6) w fun x7 w => BK Tryz.prog BinOp.eql 5 (Operand.tmp 7) (Operand.const (Value.int IntKind.u8 6)) x7 (Value.int IntKind.u8 6) w fun x9 w => CondK x9 (sx fn_ Tryz.prog 29 bound_Decides_R0 (blkK 0 (seqK (sx fn_ Tryz.prog 29 bound_Decides_R1 (retK Tryz.prog [ResultVar.tmp 2] R)) (retK Tryz.prog [ResultVar.tmp 2] R))) (up (up (up (up (up (up (up (up (up (rho0 [a0]) 1 x1) 2 (Value.bool false)) 3 x3) 4 x4) 5 x5) 6 x6) 7 x7) 9 x9) 8 x9) w) (BK Tryz.prog BinOp.eql 5 (Operand.tmp 7) (Operand.const (Value.int IntKind.u8 7)) x7 (Value.int IntKind.u8 7) w fun x10 w => CondK x10 (sx fn_ Tryz.prog 29 bound_Decides_R0 (blkK 0 (seqK (sx fn_ Tryz.prog 29 bound_Decides_R1 (retK Tryz.prog [ResultVar.tmp 2] R)) (retK Tryz.prog [ResultVar.tmp 2] R))) (up (up (up (up (up (up (up (up (up (up (up (rho0 [a0]) 1 x1) 2 (Value.bool false)) 3 x3) 4 x4) 5 x5) 6 x6) 7 x7) 9 x9) 8 x9) 10 x10) 8 x10) w) (BK Tryz.prog BinOp.eql 5 (Operand.tmp 7) (Operand.const (Value.int IntKind.u8 13)) x7 (Value.int IntKind.u8 13) w fun x11 w => sx fn_ Tryz.prog 29 bound_Decides_R0 (blkK 0 (seqK (sx fn_ Tryz.prog 29 bound_Decides_R1 (retK Tryz.prog [ResultVar.tmp 2] R)) (retK Tryz.prog [ResultVar.tmp 2] R))) (up (up (up (up (up (up (up (up (up (up (up (up (up (rho0 [a0]) 1 x1) 2 (Value.bool false)) 3 x3) 4 x4) 5 x5) 6 x6) 7 x7) 9 x9) 8 x9) 10 x10) 8 x10) 11 x11) 8 x11) w)))
theorem bound_Decides_eq (a0 : Value) (w : World) (R : Value → World → Prop) : sx fn_ Tryz.prog 29 bound_Decides_b (retK Tryz.prog Tryz.f79.results.toList R) (rho0 [a0]) w = bound_Decides_F a0 w R := by kernel_rfl
theorem bound_Decides_calls {a0 : Value} {w : World} {R : Value → World → Prop} (h : bound_Decides_F a0 w R) : Calls Tryz.prog 79 #[a0] w fun e w' => ∃ v, e = .returned v ∧ R v w' :=
  Go.X.calls_of_sx (n := 29) (c := bound_Decides_b) Tryz.func79 (by kernel_rfl) (by kernel_rfl) (Nat.le_of_ble_eq_true rfl) (by kernel_rfl) (Eq.mpr (bound_Decides_eq a0 w R) h)
/-- dispatcher/dispatcherref09.Decides -/
noncomputable def dispatcherref09_Decides_b : Code := (Tryz.f56.body).getD .skip
noncomputable def dispatcherref09_Decides_R0 : Code := cAt [1, 1, 0, 1, 0, 1] dispatcherref09_Decides_b
noncomputable def dispatcherref09_Decides_R1 : Code := cAt [1, 1, 1] dispatcherref09_Decides_b
noncomputable def dispatcherref09_Decides_R2 : Code := cAt [1, 1, 0, 1, 0, 1, 1, 1] dispatcherref09_Decides_b
noncomputable def dispatcherref09_Decides_R0_F (z : At) (K : Exit → Sl → World → Prop) (ρ : Sl) (w : World) : Prop :=
  CondK (ρ 8) (K Exit.ret (up ρ 2 (Value.bool true)) w) (BK Tryz.prog BinOp.eql 5 (Operand.tmp 7) (Operand.const (Value.int IntKind.u8 6)) (ρ 7) (Value.int IntKind.u8 6) w fun x14 w => CondK x14 (sx z Tryz.prog 29 dispatcherref09_Decides_R2 K (up (up ρ 14 x14) 13 x14) w) (BK Tryz.prog BinOp.eql 5 (Operand.tmp 7) (Operand.const (Value.int IntKind.u8 7)) (ρ 7) (Value.int IntKind.u8 7) w fun x15 w => CondK x15 (sx z Tryz.prog 29 dispatcherref09_Decides_R2 K (up (up (up (up ρ 14 x14) 13 x14) 15 x15) 13 x15) w) (BK Tryz.prog BinOp.eql 5 (Operand.tmp 7) (Operand.const (Value.int IntKind.u8 13)) (ρ 7) (Value.int IntKind.u8 13) w fun x16 w => sx z Tryz.prog 29 dispatcherref09_Decides_R2 K (up (up (up (up (up (up ρ 14 x14) 13 x14) 15 x15) 13 x15) 16 x16) 13 x16) w)))
theorem dispatcherref09_Decides_R0_eq (z : At) (K : Exit → Sl → World → Prop) (ρ : Sl) (w : World) : sx z Tryz.prog 29 dispatcherref09_Decides_R0 K ρ w = dispatcherref09_Decides_R0_F z K ρ w := by kernel_rfl
noncomputable def dispatcherref09_Decides_R1_F (z : At) (K : Exit → Sl → World → Prop) (ρ : Sl) (w : World) : Prop :=
  K Exit.ret (up ρ 2 (Value.bool false)) w
theorem dispatcherref09_Decides_R1_eq (z : At) (K : Exit → Sl → World → Prop) (ρ : Sl) (w : World) : sx z Tryz.prog 29 dispatcherref09_Decides_R1 K ρ w = dispatcherref09_Decides_R1_F z K ρ w := by kernel_rfl
noncomputable def dispatcherref09_Decides_R2_F (z : At) (K : Exit → Sl → World → Prop) (ρ : Sl) (w : World) : Prop :=
  CondK (ρ 13) (VK Tryz.prog (Instr.fieldAt 62 (ρ 1) 5) w fun x17 w => VK Tryz.prog (Instr.loadAt 60 x17) w fun x18 w => IK Tryz.prog Builtin.len #[60] 3 [false] [x18] w fun x19 w => BK Tryz.prog BinOp.lss 3 (Operand.tmp 19) (Operand.const (Value.int IntKind.i64 2)) x19 (Value.int IntKind.i64 2) w fun x20 w => VG Tryz.prog x20 false (Instr.fieldAt 62 (ρ 1) 5) w fun x22 w => VG Tryz.prog x20 false (Instr.loadAt 60 x22) w fun x23 w => VG Tryz.prog x20 false (Instr.indexAt 60 x23 (Value.int IntKind.i64 1)) w fun x24 w => VG Tryz.prog x20 false (Instr.fieldAt 85 x24 0) w fun x25 w => VG Tryz.prog x20 false (Instr.loadAt 5 x25) w fun x26 w => BG Tryz.prog x20 false BinOp.neq 5 (Operand.tmp 26) (Operand.const (Value.int IntKind.u8 1)) x26 (Value.int IntKind.u8 1) w fun x27 w => PK Tryz.prog x20 (Value.bool true) x27 w fun x28 w => K Exit.ret (up (up (up (up (up (up (up (up (up (up (up (up (up ρ 17 x17) 18 x18) 19 x19) 20 x20) 21 x20) 22 x22) 23 x23) 24 x24) 25 x25) 26 x26) 27 x27) 28 x28) 2 x28) w) (K Exit.normal ρ w)
theorem dispatcherref09_Decides_R2_eq (z : At) (K : Exit → Sl → World → Prop) (ρ : Sl) (w : World) : sx z Tryz.prog 29 dispatcherref09_Decides_R2 K ρ w = dispatcherref09_Decides_R2_F z K ρ w := by kernel_rfl
noncomputable def dispatcherref09_Decides_F (a0 : Value) (w : World) (R : Value → World → Prop) : Prop :=
  VK Tryz.prog (Instr.box 62 a0) w fun x1 w => VK Tryz.prog (Instr.fieldAt 62 x1 0) w fun x3 w => VK Tryz.prog (Instr.loadAt 5 x3) w fun x4 w => BK Tryz.prog BinOp.neq 5 (Operand.tmp 4) (Operand.const (Value.int IntKind.u8 8)) x4 (Value.int IntKind.u8 8) w fun x5 w => CondK x5 (R (Value.bool false) w) (VK Tryz.prog (Instr.fieldAt 62 x1 1) w fun x6 w => VK Tryz.prog (Instr.loadAt 5 x6) w fun x7 w => BK Tryz.prog BinOp.eql 5 (Operand.tmp 7) (Operand.const (Value.int IntKind.u8 14)) x7 (Value.int IntKind.u8 14) w fun x9 w => CondK x9 (sx fn_ Tryz.prog 29 dispatcherref09_Decides_R0 (blkK 0 (seqK (sx fn_ Tryz.prog 29 dispatcherref09_Decides_R1 (retK Tryz.prog [ResultVar.tmp 2] R)) (retK Tryz.prog [ResultVar.tmp 2] R))) (up (up (up (up (up (up (up (up (up (rho0 [a0]) 1 x1) 2 (Value.bool false)) 3 x3) 4 x4) 5 x5) 6 x6) 7 x7) 9 x9) 8 x9) w) (BK Tryz.prog BinOp.eql 5 (Operand.tmp 7) (Operand.const (Value.int IntKind.u8 10)) x7 (Value.int IntKind.u8 10) w fun x10 w => CondK x10 (sx fn_ Tryz.prog 29 dispatcherref09_Decides_R0 (blkK 0 (seqK (sx fn_ Tryz.prog 29 dispatcherref09_Decides_R1 (retK Tryz.prog [ResultVar.tmp 2] R)) (retK Tryz.prog [ResultVar.tmp 2] R))) (up (up (up (up (up (up (up (up (up (up (up (rho0 [a0]) 1 x1) 2 (Value.bool false)) 3 x3) 4 x4) 5 x5) 6 x6) 7 x7) 9 x9) 8 x9) 10 x10) 8 x10) w) (BK Tryz.prog BinOp.eql 5 (Operand.tmp 7) (Operand.const (Value.int IntKind.u8 11)) x7 (Value.int IntKind.u8 11) w fun x11 w => CondK x11 (sx fn_ Tryz.prog 29 dispatcherref09_Decides_R0 (blkK 0 (seqK (sx fn_ Tryz.prog 29 dispatcherref09_Decides_R1 (retK Tryz.prog [ResultVar.tmp 2] R)) (retK Tryz.prog [ResultVar.tmp 2] R))) (up (up (up (up (up (up (up (up (up (up (up (up (up (rho0 [a0]) 1 x1) 2 (Value.bool false)) 3 x3) 4 x4) 5 x5) 6 x6) 7 x7) 9 x9) 8 x9) 10 x10) 8 x10) 11 x11) 8 x11) w) (BK Tryz.prog BinOp.eql 5 (Operand.tmp 7) (Operand.const (Value.int IntKind.u8 12)) x7 (Value.int IntKind.u8 12) w fun x12 w => sx fn_ Tryz.prog 29 dispatcherref09_Decides_R0 (blkK 0 (seqK (sx fn_ Tryz.prog 29 dispatcherref09_Decides_R1 (retK Tryz.prog [ResultVar.tmp 2] R)) (retK Tryz.prog [ResultVar.tmp 2] R))) (up (up (up (up (up (up (up (up (up (up (up (up (up (up (up (rho0 [a0]) 1 x1) 2 (Value.bool false)) 3 x3) 4 x4) 5 x5) 6 x6) 7 x7) 9 x9) 8 x9) 10 x10) 8 x10) 11 x11) 8 x11) 12 x12) 8 x12) w))))
theorem dispatcherref09_Decides_eq (a0 : Value) (w : World) (R : Value → World → Prop) : sx fn_ Tryz.prog 29 dispatcherref09_Decides_b (retK Tryz.prog Tryz.f56.results.toList R) (rho0 [a0]) w = dispatcherref09_Decides_F a0 w R := by kernel_rfl
theorem dispatcherref09_Decides_calls {a0 : Value} {w : World} {R : Value → World → Prop} (h : dispatcherref09_Decides_F a0 w R) : Calls Tryz.prog 56 #[a0] w fun e w' => ∃ v, e = .returned v ∧ R v w' :=
  Go.X.calls_of_sx (n := 29) (c := dispatcherref09_Decides_b) Tryz.func56 (by kernel_rfl) (by kernel_rfl) (Nat.le_of_ble_eq_true rfl) (by kernel_rfl) (Eq.mpr (dispatcherref09_Decides_eq a0 w R) h)
/-- dispatcher/dispatcherref09.most -/
noncomputable def dispatcherref09_most_b : Code := (Tryz.f84.body).getD .skip
noncomputable def dispatcherref09_most_F (a0 : Value) (w : World) (R : Value → World → Prop) : Prop :=
  IK Tryz.prog Builtin.min #[3, 3] 3 [false, true] [a0, (Value.int IntKind.i64 1048577)] w fun x4 w => R x4 w
theorem dispatcherref09_most_eq (a0 : Value) (w : World) (R : Value → World → Prop) : sx fn_ Tryz.prog 5 dispatcherref09_most_b (retK Tryz.prog Tryz.f84.results.toList R) (rho0 [a0]) w = dispatcherref09_most_F a0 w R := by kernel_rfl
theorem dispatcherref09_most_calls {a0 : Value} {w : World} {R : Value → World → Prop} (h : dispatcherref09_most_F a0 w R) : Calls Tryz.prog 84 #[a0] w fun e w' => ∃ v, e = .returned v ∧ R v w' :=
  Go.X.calls_of_sx (n := 5) (c := dispatcherref09_most_b) Tryz.func84 (by kernel_rfl) (by kernel_rfl) (Nat.le_of_ble_eq_true rfl) (by kernel_rfl) (Eq.mpr (dispatcherref09_most_eq a0 w R) h)
/-- dispatcher/bound.greater[int] -/
noncomputable def bound_greater_int_b : Code := (Tryz.f108.body).getD .skip
noncomputable def bound_greater_int_F (a0 a1 : Value) (w : World) (R : Value → World → Prop) : Prop :=
  CK Tryz.prog (Value.func (Fn.func 126) #[] #[]) [a0, a1] w fun x7 w => CondK x7 (R a1 w) (R a0 w)
theorem bound_greater_int_eq (a0 a1 : Value) (w : World) (R : Value → World → Prop) : sx fn_ Tryz.prog 10 bound_greater_int_b (retK Tryz.prog Tryz.f108.results.toList R) (rho0 [a0, a1]) w = bound_greater_int_F a0 a1 w R := by kernel_rfl
theorem bound_greater_int_calls {a0 a1 : Value} {w : World} {R : Value → World → Prop} (h : bound_greater_int_F a0 a1 w R) : Calls Tryz.prog 108 #[a0, a1] w fun e w' => ∃ v, e = .returned v ∧ R v w' :=
  Go.X.calls_of_sx (n := 10) (c := bound_greater_int_b) Tryz.func108 (by kernel_rfl) (by kernel_rfl) (Nat.le_of_ble_eq_true rfl) (by kernel_rfl) (Eq.mpr (bound_greater_int_eq a0 a1 w R) h)
/-- cmp.Less[int] -/
noncomputable def cmp_Less_int_b : Code := (Tryz.f126.body).getD .skip
noncomputable def cmp_Less_int_F (a0 a1 : Value) (w : World) (R : Value → World → Prop) : Prop :=
  CK Tryz.prog (Value.func (Fn.func 134) #[] #[]) [a0] w fun x6 w => MG Tryz.prog x6 true a1 w fun x8 w => CG Tryz.prog x6 true (Value.func (Fn.func 134) #[] #[]) [x8] w fun x9 w => VG Tryz.prog x6 true (Op.unary UnOp.not x9) w fun x10 w => PK Tryz.prog x6 x10 (Value.bool false) w fun x11 w => MG Tryz.prog x11 false a0 w fun x13 w => MG Tryz.prog x11 false a1 w fun x14 w => BG Tryz.prog x11 false BinOp.lss 3 (Operand.tmp 13) (Operand.tmp 14) x13 x14 w fun x15 w => PK Tryz.prog x11 (Value.bool true) x15 w fun x16 w => R x16 w
theorem cmp_Less_int_eq (a0 a1 : Value) (w : World) (R : Value → World → Prop) : sx fn_ Tryz.prog 17 cmp_Less_int_b (retK Tryz.prog Tryz.f126.results.toList R) (rho0 [a0, a1]) w = cmp_Less_int_F a0 a1 w R := by kernel_rfl
theorem cmp_Less_int_calls {a0 a1 : Value} {w : World} {R : Value → World → Prop} (h : cmp_Less_int_F a0 a1 w R) : Calls Tryz.prog 126 #[a0, a1] w fun e w' => ∃ v, e = .returned v ∧ R v w' :=
  Go.X.calls_of_sx (n := 17) (c := cmp_Less_int_b) Tryz.func126 (by kernel_rfl) (by kernel_rfl) (Nat.le_of_ble_eq_true rfl) (by kernel_rfl) (Eq.mpr (cmp_Less_int_eq a0 a1 w R) h)
/-- cmp.isNaN[int] -/
noncomputable def cmp_isNaN_int_b : Code := (Tryz.f134.body).getD .skip
noncomputable def cmp_isNaN_int_F (a0 : Value) (w : World) (R : Value → World → Prop) : Prop :=
  BK Tryz.prog BinOp.neq 3 (Operand.tmp 3) (Operand.tmp 4) a0 a0 w fun x5 w => R x5 w
theorem cmp_isNaN_int_eq (a0 : Value) (w : World) (R : Value → World → Prop) : sx fn_ Tryz.prog 6 cmp_isNaN_int_b (retK Tryz.prog Tryz.f134.results.toList R) (rho0 [a0]) w = cmp_isNaN_int_F a0 w R := by kernel_rfl
theorem cmp_isNaN_int_calls {a0 : Value} {w : World} {R : Value → World → Prop} (h : cmp_isNaN_int_F a0 w R) : Calls Tryz.prog 134 #[a0] w fun e w' => ∃ v, e = .returned v ∧ R v w' :=
  Go.X.calls_of_sx (n := 6) (c := cmp_isNaN_int_b) Tryz.func134 (by kernel_rfl) (by kernel_rfl) (Nat.le_of_ble_eq_true rfl) (by kernel_rfl) (Eq.mpr (cmp_isNaN_int_eq a0 w R) h)
end Go.Proofs.YtpkfbaagpjdifaaGreatDoor.XH
set_option linter.unusedVariables false
set_option linter.unusedSimpArgs false
set_option maxRecDepth 4000
namespace Go.Proofs.YtpkfbaagpjdifaaGreatDoor.Tr
open Go Go.X Go.RowKit Go.Proofs.YtpkfbaagpjdifaaGreatDoor.XH Go.Proofs.YtpkfbaagpjdifaaGreatDoor.XK
structure Bd where
  s : Int
  c : Int
  d : Int
deriving DecidableEq
def Bd.cells (e : Bd) : List Value := [.int .i64 e.s, .int .i64 e.c, .int .i64 e.d]
def Bd.v (e : Bd) : Value := .agg e.cells.toArray
def zBd : Bd := ⟨0, 0, 0⟩
def cut1 (n : Int) : Int := if 1048577 < n then 1048577 else n
def Bd.cut (b : Bd) : Bd := ⟨cut1 b.s, cut1 b.c, cut1 b.d⟩
def Bd.and (a b : Bd) : Bd := ⟨a.s + b.s, a.c + b.c, a.d + b.d⟩
def mx (a b : Int) : Int := if b > a then b else a
def Bd.or (a b : Bd) : Bd := ⟨mx a.s b.s, mx a.c b.c, mx a.d b.d⟩
def Bd.times (a : Bd) (n : Int) : Bd := ⟨a.s * n, a.c * n, a.d * n⟩
/-- No less than 0, no more than so much. -/
def Bd.In (b : Bd) (m : Int) : Prop := (0 ≤ b.s ∧ b.s ≤ m) ∧ (0 ≤ b.c ∧ b.c ≤ m) ∧ (0 ≤ b.d ∧ b.d ≤ m)
theorem cut1_in {n m : Int} (h : 0 ≤ n ∧ n ≤ m) : 0 ≤ cut1 n ∧ cut1 n ≤ 1048577 := by unfold cut1; split <;> omega
theorem Bd.In.cut {b : Bd} {m : Int} (h : b.In m) : b.cut.In 1048577 := ⟨cut1_in h.1, cut1_in h.2.1, cut1_in h.2.2⟩
theorem Bd.In.and {a b : Bd} {m k : Int} (h : a.In m) (h2 : b.In k) : (a.and b).In (m + k) := by
  obtain ⟨⟨a1, a2⟩, ⟨a3, a4⟩, a5, a6⟩ := h
  obtain ⟨⟨b1, b2⟩, ⟨b3, b4⟩, b5, b6⟩ := h2
  unfold Bd.and Bd.In
  dsimp only
  omega
theorem mx_in {a b m : Int} (h : 0 ≤ a ∧ a ≤ m) (h2 : 0 ≤ b ∧ b ≤ m) : 0 ≤ mx a b ∧ mx a b ≤ m := by unfold mx; split <;> omega
theorem Bd.In.or {a b : Bd} {m : Int} (h : a.In m) (h2 : b.In m) : (a.or b).In m := ⟨mx_in h.1 h2.1, mx_in h.2.1 h2.2.1, mx_in h.2.2 h2.2.2⟩
theorem Bd.In.mono {b : Bd} {m k : Int} (h : b.In m) (hk : m ≤ k) : b.In k := by
  obtain ⟨⟨a1, a2⟩, ⟨a3, a4⟩, a5, a6⟩ := h
  unfold Bd.In
  omega
theorem mul_in {a m n k : Int} (h : 0 ≤ a ∧ a ≤ m) (h2 : 0 ≤ n ∧ n ≤ k) : 0 ≤ a * n ∧ a * n ≤ m * k := ⟨Int.mul_nonneg h.1 h2.1, Int.mul_le_mul h.2 h2.2 h2.1 (by omega)⟩
theorem Bd.In.times {b : Bd} {m n k : Int} (h : b.In m) (h2 : 0 ≤ n ∧ n ≤ k) : (b.times n).In (m * k) := ⟨mul_in h.1 h2, mul_in h.2.1 h2, mul_in h.2.2 h2⟩
theorem zBd_in (m : Int) (h : 0 ≤ m) : zBd.In m := ⟨⟨Int.le_refl _, h⟩, ⟨Int.le_refl _, h⟩, Int.le_refl _, h⟩
theorem zBnd : (Tryz.prog.info? 42).bind (·.zero) = some (.agg zBd.cells.toArray) := by kernel_rfl
theorem iBnd : (Tryz.prog.info? 42).map (·.size) = some 3 := by kernel_rfl
theorem bBd0 : Tryz.prog.built 42 [] = some zBd.cells.toArray := by kernel_rfl
theorem bBd1 (n : Int) : Tryz.prog.built 42 [(0, .int .i64 n)] = some (Bd.mk n 0 0).cells.toArray := by kernel_rfl
theorem bBd3 (n a b : Int) : Tryz.prog.built 42 [(0, .int .i64 n), (1, .int .i64 a), (2, .int .i64 b)] = some (Bd.mk n a b).cells.toArray := by kernel_rfl
theorem bd_one (e : Bd) : (e.cells.toArray.all (·.oneCell')) = true := by simp [Bd.cells, Value.oneCell']
/-- A bound's field, in a variable of its own. -/
theorem bdF {w : World} {b : Nat} {e : Bd} {ty : TypeId} (h : w.heap[b]? = some (.cells e.cells.toArray ty (0, 0))) : FAt Tryz.prog w 42 0 ⟨b, 0, none⟩ 3 (.int .i64 e.s) ∧ FAt Tryz.prog w 42 1 ⟨b, 0, none⟩ 3 (.int .i64 e.c) ∧ FAt Tryz.prog w 42 2 ⟨b, 0, none⟩ 3 (.int .i64 e.d) :=
  ⟨FAt.mk' (off := 0) (by kernel_rfl) uI rfl (by rw [add_pl, cell_blk h]; rfl), FAt.mk' (off := 1) (by kernel_rfl) uI rfl (by rw [add_pl, cell_blk h]; rfl), FAt.mk' (off := 2) (by kernel_rfl) uI rfl (by rw [add_pl, cell_blk h]; rfl)⟩
theorem wrap_in {n m : Int} (h : 0 ≤ n ∧ n ≤ m) (hm : m < 9223372036854775808) : IntKind.i64.wrap n = n := wrap_i (by omega) (by omega)
theorem And_ok {w : World} {a b : Bd} {m : Int} (hi : (a.and b).In m) (hm : m < 9223372036854775808) : Rt Tryz.prog 29 #[a.v, b.v] w fun v w' => v = (a.and b).v ∧ Mod none_ w w' := by
  refine bound_Bound_and_calls ?_
  unfold bound_Bound_and_F
  refine box_k (cs := a.cells.toArray) rfl fun w1 hb1 hm1 hz1 => ?_
  refine box_k (cs := b.cells.toArray) rfl fun w2 hb2 hm2 hz2 => ?_
  refine al_k zBnd rfl _ fun w3 hb3 hm3 hz3 => ?_
  obtain ⟨a0, a1, a2⟩ := bdF ((hm2.trans hm3).blk hb1 id)
  obtain ⟨b0, b1, b2⟩ := bdF (hm3.blk hb2 id)
  refine a0.vk' fun _ => b0.vk' fun _ => ?_
  rw [BK_add, wrap_in (n := a.s + b.s) hi.1 hm]
  refine a1.vk' fun _ => b1.vk' fun _ => ?_
  rw [BK_add, wrap_in (n := a.c + b.c) hi.2.1 hm]
  refine a2.vk' fun _ => b2.vk' fun _ => ?_
  rw [BK_add, wrap_in (n := a.d + b.d) hi.2.2 hm, build_ok (bBd3 _ _ _)]
  refine stS (old := zBd.cells.toArray) (cs := (a.and b).cells.toArray) rfl rfl iBnd rfl (bd_one _) hb3 fun w4 hb4 hm4 _ => ?_
  exact ⟨_, res_ld (run_ldB (cs := (a.and b).cells.toArray) Tryz.underlying42 rfl iBnd hb4), rfl, ((hm1.trans hm2).trans hm3).then hm4 (fun i hi q => absurd q (by omega))⟩
theorem Cut_ok {w : World} (a : Bd) : Rt Tryz.prog 45 #[a.v] w fun v w' => v = a.cut.v ∧ Mod none_ w w' := by
  refine bound_Bound_cut_calls ?_
  unfold bound_Bound_cut_F
  refine box_k (cs := a.cells.toArray) rfl fun w1 hb1 hm1 hz1 => ?_
  refine al_k zBnd rfl _ fun w3 hb3 hm3 hz3 => ?_
  obtain ⟨a0, a1, a2⟩ := bdF (hm3.blk hb1 id)
  refine a0.vk' fun _ => ?_
  rw [min_i]
  refine a1.vk' fun _ => ?_
  rw [min_i]
  refine a2.vk' fun _ => ?_
  rw [min_i, build_ok (bBd3 _ _ _)]
  refine stS (old := zBd.cells.toArray) (cs := a.cut.cells.toArray) rfl rfl iBnd rfl (bd_one _) hb3 fun w4 hb4 hm4 _ => ?_
  exact ⟨_, res_ld (run_ldB (cs := a.cut.cells.toArray) Tryz.underlying42 rfl iBnd hb4), rfl, (hm1.trans hm3).then hm4 (fun i hi q => absurd q (by omega))⟩
theorem Times_ok {w : World} {a : Bd} {n m : Int} (hi : (a.times n).In m) (hm : m < 9223372036854775808) : Rt Tryz.prog 78 #[a.v, .int .i64 n] w fun v w' => v = (a.times n).v ∧ Mod none_ w w' := by
  refine bound_Bound_times_calls ?_
  unfold bound_Bound_times_F
  refine box_k (cs := a.cells.toArray) rfl fun w1 hb1 hm1 hz1 => ?_
  refine al_k zBnd rfl _ fun w3 hb3 hm3 hz3 => ?_
  obtain ⟨a0, a1, a2⟩ := bdF (hm3.blk hb1 id)
  refine a0.vk' fun _ => ?_
  rw [BK_mul, wrap_in (n := a.s * n) hi.1 hm]
  refine a1.vk' fun _ => ?_
  rw [BK_mul, wrap_in (n := a.c * n) hi.2.1 hm]
  refine a2.vk' fun _ => ?_
  rw [BK_mul, wrap_in (n := a.d * n) hi.2.2 hm, build_ok (bBd3 _ _ _)]
  refine stS (old := zBd.cells.toArray) (cs := (a.times n).cells.toArray) rfl rfl iBnd rfl (bd_one _) hb3 fun w4 hb4 hm4 _ => ?_
  exact ⟨_, res_ld (run_ldB (cs := (a.times n).cells.toArray) Tryz.underlying42 rfl iBnd hb4), rfl, (hm1.trans hm3).then hm4 (fun i hi q => absurd q (by omega))⟩
theorem isNaN_ok {w : World} (a : Int) : Rt Tryz.prog 134 #[.int .i64 a] w fun v w' => v = .bool false ∧ w' = w := by
  refine cmp_isNaN_int_calls ?_
  unfold cmp_isNaN_int_F
  rw [BK_neq]
  exact ⟨by simp, rfl⟩
theorem Less_ok {w : World} (a b : Int) : Rt Tryz.prog 126 #[.int .i64 a, .int .i64 b] w fun v w' => v = .bool (decide (a < b)) ∧ w' = w := by
  refine cmp_Less_int_calls ?_
  unfold cmp_Less_int_F
  refine CK_st Tryz.func134 rfl rfl (isNaN_ok a) ?_
  rintro v w' ⟨rfl, rfl⟩
  simp only [CondK_bool, MG_u, NG_u, VG_u, UG_u, PG_u, BG_u, CG_u, IG_u, MG_b, NG_b, VG_b, UG_b, PG_b, BG_b, CG_b, IG_b, PK_bool, NK_ptr, not_ok, reduceCtorEq, if_true, if_false, Bool.true_eq_false, Bool.false_eq_true, Bool.not_true, Bool.not_false]
  rw [BK_lss]
  exact ⟨rfl, rfl⟩
theorem greater_ok {w : World} (a b : Int) : Rt Tryz.prog 108 #[.int .i64 a, .int .i64 b] w fun v w' => v = .int .i64 (mx a b) ∧ w' = w := by
  refine bound_greater_int_calls ?_
  unfold bound_greater_int_F
  refine CK_st Tryz.func126 rfl rfl (Less_ok a b) ?_
  rintro v w' ⟨rfl, rfl⟩
  unfold mx
  refine caseC (fun h => ?_) (fun h => ?_)
  · rw [if_pos (of_decide_eq_true h)]; exact ⟨rfl, rfl⟩
  · rw [if_neg (of_decide_eq_false h)]; exact ⟨rfl, rfl⟩
theorem Or_ok {w : World} (a b : Bd) : Rt Tryz.prog 77 #[a.v, b.v] w fun v w' => v = (a.or b).v ∧ Mod none_ w w' := by
  refine bound_Bound_or_calls ?_
  unfold bound_Bound_or_F
  refine box_k (cs := a.cells.toArray) rfl fun w1 hb1 hm1 hz1 => ?_
  refine box_k (cs := b.cells.toArray) rfl fun w2 hb2 hm2 hz2 => ?_
  refine al_k zBnd rfl _ fun w3 hb3 hm3 hz3 => ?_
  have hba := (hm2.trans hm3).blk hb1 id
  have hbb := hm3.blk hb2 id
  refine bound_Bound_or_R0_tail (D := []) ?_
  unfold bound_Bound_or_R0_T
  have hm03 : Mod none_ w { w3 with drawn := w3.drawn + 1 } := ((hm1.trans hm2).trans hm3).drawn _
  have hbd : ({ w3 with drawn := w3.drawn + 1 } : World).heap[w2.heap.size]? = some (.cells zBd.cells.toArray 42 (0, 0)) := hb3
  have hbda : ({ w3 with drawn := w3.drawn + 1 } : World).heap[w.heap.size]? = some (.cells a.cells.toArray 42 (0, 0)) := hba
  have hbdb : ({ w3 with drawn := w3.drawn + 1 } : World).heap[w1.heap.size]? = some (.cells b.cells.toArray 42 (0, 0)) := hbb
  generalize ({ w3 with drawn := w3.drawn + 1 } : World) = wd at hm03 hbd hbda hbdb ⊢
  dsimp only
  have ga : ∀ (x y : Int), ∀ {K : Value → Prop}, K (.int .i64 (mx x y)) → QK Tryz.prog (fun w' => w' = wd) (do let d ← Deferred.ofValue (.func (.func 108) #[] #[]) [.int .i64 x, .int .i64 y].toArray; invoke d.target d.args) K := fun x y K hk =>
    QC_rt (R := fun w' v w'' => v = .int .i64 (mx x y) ∧ w'' = w') Tryz.func108 rfl rfl (v := .int .i64 (mx x y)) (fun w' hw => greater_ok x y) (fun w' u w'' hw hu => ⟨hu.1, hu.2.trans hw⟩) hk
  refine Qfo (off := 0) (a := ⟨w.heap.size, 0, none⟩) (by kernel_rfl) (Qld uI rfl (v := .int .i64 a.s) (fun w' hw => by rw [hw, add_pl, cell_blk hbda]; rfl) ?_)
  refine Qfo (off := 0) (a := ⟨w1.heap.size, 0, none⟩) (by kernel_rfl) (Qld uI rfl (v := .int .i64 b.s) (fun w' hw => by rw [hw, add_pl, cell_blk hbdb]; rfl) ?_)
  refine ga _ _ ?_
  refine Qfo (off := 1) (a := ⟨w.heap.size, 0, none⟩) (by kernel_rfl) (Qld uI rfl (v := .int .i64 a.c) (fun w' hw => by rw [hw, add_pl, cell_blk hbda]; rfl) ?_)
  refine Qfo (off := 1) (a := ⟨w1.heap.size, 0, none⟩) (by kernel_rfl) (Qld uI rfl (v := .int .i64 b.c) (fun w' hw => by rw [hw, add_pl, cell_blk hbdb]; rfl) ?_)
  refine ga _ _ ?_
  refine Qfo (off := 2) (a := ⟨w.heap.size, 0, none⟩) (by kernel_rfl) (Qld uI rfl (v := .int .i64 a.d) (fun w' hw => by rw [hw, add_pl, cell_blk hbda]; rfl) ?_)
  refine Qfo (off := 2) (a := ⟨w1.heap.size, 0, none⟩) (by kernel_rfl) (Qld uI rfl (v := .int .i64 b.d) (fun w' hw => by rw [hw, add_pl, cell_blk hbdb]; rfl) ?_)
  refine CK_st Tryz.func108 rfl rfl (greater_ok a.d b.d) ?_
  rintro v w' ⟨rfl, rfl⟩
  rw [build_ok (bBd3 _ _ _)]
  refine stS (b := w2.heap.size) (old := zBd.cells.toArray) (cs := (a.or b).cells.toArray) rfl rfl iBnd rfl (bd_one _) hbd fun w4 hb4 hm4 _ => ?_
  rw [sq_n, bound_Bound_or_R1_eq]
  unfold bound_Bound_or_R1_F
  refine rtCell (b := w2.heap.size) (cs := (a.or b).cells.toArray) rfl Tryz.underlying42 rfl iBnd hb4 ⟨rfl, hm03.then hm4 fun i hi q => absurd q (by omega)⟩
theorem Most_ok {w : World} (a : Int) : Rt Tryz.prog 84 #[.int .i64 a] w fun v w' => v = .int .i64 (cut1 a) ∧ w' = w := by
  refine dispatcherref09_most_calls ?_
  unfold dispatcherref09_most_F
  rw [min_i]
  exact ⟨rfl, rfl⟩
theorem CutR_ok {w : World} (a : Bd) : Rt Tryz.prog 55 #[a.v] w fun v w' => v = a.cut.v ∧ Mod none_ w w' := by
  refine dispatcherref09_cut_calls ?_
  unfold dispatcherref09_cut_F
  refine box_k (cs := a.cells.toArray) rfl fun w1 hb1 hm1 hz1 => ?_
  refine al_k zBnd rfl _ fun w3 hb3 hm3 hz3 => ?_
  have hba := hm3.blk hb1 id
  refine dispatcherref09_cut_R0_tail (D := []) ?_
  unfold dispatcherref09_cut_R0_T
  have hm03 : Mod none_ w { w3 with drawn := w3.drawn + 1 } := (hm1.trans hm3).drawn _
  have hbd : ({ w3 with drawn := w3.drawn + 1 } : World).heap[w1.heap.size]? = some (.cells zBd.cells.toArray 42 (0, 0)) := hb3
  have hbda : ({ w3 with drawn := w3.drawn + 1 } : World).heap[w.heap.size]? = some (.cells a.cells.toArray 42 (0, 0)) := hba
  generalize ({ w3 with drawn := w3.drawn + 1 } : World) = wd at hm03 hbd hbda ⊢
  dsimp only
  have ga : ∀ (x : Int), ∀ {K : Value → Prop}, K (.int .i64 (cut1 x)) → QK Tryz.prog (fun w' => w' = wd) (do let d ← Deferred.ofValue (.func (.func 84) #[] #[]) [.int .i64 x].toArray; invoke d.target d.args) K := fun x K hk =>
    QC_rt (R := fun w' v w'' => v = .int .i64 (cut1 x) ∧ w'' = w') Tryz.func84 rfl rfl (v := .int .i64 (cut1 x)) (fun w' hw => Most_ok x) (fun w' u w'' hw hu => ⟨hu.1, hu.2.trans hw⟩) hk
  refine Qfo (off := 0) (a := ⟨w.heap.size, 0, none⟩) (by kernel_rfl) (Qld uI rfl (v := .int .i64 a.s) (fun w' hw => by rw [hw, add_pl, cell_blk hbda]; rfl) ?_)
  refine ga _ ?_
  refine Qfo (off := 1) (a := ⟨w.heap.size, 0, none⟩) (by kernel_rfl) (Qld uI rfl (v := .int .i64 a.c) (fun w' hw => by rw [hw, add_pl, cell_blk hbda]; rfl) ?_)
  refine ga _ ?_
  refine Qfo (off := 2) (a := ⟨w.heap.size, 0, none⟩) (by kernel_rfl) (Qld uI rfl (v := .int .i64 a.d) (fun w' hw => by rw [hw, add_pl, cell_blk hbda]; rfl) ?_)
  refine CK_st Tryz.func84 rfl rfl (Most_ok a.d) ?_
  rintro v w' ⟨rfl, rfl⟩
  rw [build_ok (bBd3 _ _ _)]
  refine stS (b := w1.heap.size) (old := zBd.cells.toArray) (cs := a.cut.cells.toArray) rfl rfl iBnd rfl (bd_one _) hbd fun w4 hb4 hm4 _ => ?_
  rw [sq_n, dispatcherref09_cut_R1_eq]
  unfold dispatcherref09_cut_R1_F
  refine rtCell (b := w1.heap.size) (cs := a.cut.cells.toArray) rfl Tryz.underlying42 rfl iBnd hb4 ⟨rfl, hm03.then hm4 fun i hi q => absurd q (by omega)⟩
end Go.Proofs.YtpkfbaagpjdifaaGreatDoor.Tr
set_option linter.unusedVariables false
set_option linter.unusedSimpArgs false
set_option maxRecDepth 4000
namespace Go.X
open Go
mutual
/-- Has a statement a while? -/
def St.lp : St → Bool
  | ⟨op, _, _, _, _, _, _, _, body, _, els, _, _⟩ => (op == 4 || St.lpL body) || St.lpL els
def St.lpL : List St → Bool
  | [] => false
  | e :: r => St.lp e || St.lpL r
end
theorem St.lp_eq (e : St) : e.lp = ((e.op == 4 || St.lpL e.body) || St.lpL e.els) := by obtain ⟨op, kind, red, name, turns, es, exprs, bs, body, ls, els, line, col⟩ := e; rw [St.lp]
theorem St.lpL_eq : ∀ l : List St, St.lpL l = l.any St.lp
  | [] => by simp [St.lpL]
  | e :: r => by simp [St.lpL, St.lpL_eq r]
/-- Is a statement a call that decides? -/
def St.dec (e : St) : Bool := decide (e.op = 8) && (if e.kind = 6 ∨ e.kind = 7 ∨ e.kind = 13 then (decide (e.exprs.length < 2) || (e.exprs[1]?).any fun x => x.op != 1) else decide (e.kind = 10 ∨ e.kind = 11 ∨ e.kind = 12 ∨ e.kind = 14))
end Go.X
namespace Go.Proofs.YtpkfbaagpjdifaaGreatDoor.Tr
open Go Go.X Go.RowKit Go.Proofs.YtpkfbaagpjdifaaGreatDoor.XH Go.Proofs.YtpkfbaagpjdifaaGreatDoor.XK
def LoopsOk (l : List St) : Prop := ∀ (w : World) (s : Value), StsOk w s l → St.szL l ≤ 1099511627776 → Rt Tryz.prog 43 #[s] w fun v w' => v = .bool (St.lpL l) ∧ Mod none_ w w'
theorem loops_row {l : List St} (ih : ∀ a ∈ l, LoopsOk a.body ∧ LoopsOk a.els) : LoopsOk l := by
  intro w s hok hsz
  have hlen := St.len_sz l
  refine bound_loops_calls ?_
  unfold bound_loops_F
  rw [St.lpL_eq]
  refine CK_st Tryz.func74 rfl rfl (ContainsFuncSt_ok (p := St.lp) hok (by omega) ?_) (fun v w' h => h)
  intro a ha w1 hm1 K hk
  obtain ⟨ihB, ihE⟩ := ih a ha
  obtain ⟨n, hx⟩ := List.getElem?_of_mem ha
  have hsn := St.szL_at hx
  have hsz2 := St.sz_eq a
  refine CK_st (R := fun v w' => v = .bool a.lp ∧ Mod none_ w1 w') Tryz.func75 rfl rfl ?_ (fun v w' h => by rw [h.1]; exact hk _ h.2)
  refine bound_loops_1_calls ?_
  unfold bound_loops_1_F
  have hoka := (hok.2 a ha).mod hm1
  refine box_k (cs := a.cells.toArray) rfl fun w2 hb2 hm2 hz2 => ?_
  have d0 : FAt Tryz.prog w2 62 0 ⟨w1.heap.size, 0, none⟩ 5 (.int .u8 a.op) := FAt.mk' (off := 0) (by kernel_rfl) uU8 rfl (by rw [add_pl, cell_blk hb2]; rfl)
  have f6 : FAt Tryz.prog w2 62 6 ⟨w1.heap.size, 0, none⟩ 23 a.bs := FAt.mk' (off := 6) (by kernel_rfl) uSts rfl (by rw [add_pl, cell_blk hb2]; rfl)
  have hlp := St.lp_eq a
  refine d0.vk' fun _ => ?_
  refine BKeqI (a := a.op) (b := 4) rfl rfl (fun q => ?_) (fun q => ?_)
  · simp only [CondK_bool, MG_u, NG_u, VG_u, UG_u, PG_u, BG_u, CG_u, IG_u, MG_b, NG_b, VG_b, UG_b, PG_b, BG_b, CG_b, IG_b, PK_bool, NK_ptr, not_ok, reduceCtorEq, if_true, if_false, Bool.true_eq_false, Bool.false_eq_true, Bool.not_true, Bool.not_false]
    refine ⟨?_, hm2⟩
    rw [hlp, q]; rfl
  · simp only [CondK_bool, MG_u, NG_u, VG_u, UG_u, PG_u, BG_u, CG_u, IG_u, MG_b, NG_b, VG_b, UG_b, PG_b, BG_b, CG_b, IG_b, PK_bool, NK_ptr, not_ok, reduceCtorEq, if_true, if_false, Bool.true_eq_false, Bool.false_eq_true, Bool.not_true, Bool.not_false]
    rw [show (a.op == 4) = false by simp [q], Bool.false_or] at hlp
    refine f6.vk' fun _ => ?_
    refine CK_st Tryz.func43 rfl rfl (ihB w2 _ (hoka.mod hm2).body (by omega)) ?_
    rintro _ w3 ⟨rfl, hm3⟩
    have f7 : FAt Tryz.prog w3 62 7 ⟨w1.heap.size, 0, none⟩ 23 a.ls := FAt.mk' (off := 7) (by kernel_rfl) uSts rfl (by rw [add_pl, cell_blk (hm3.blk hb2 id)]; rfl)
    cases hB : St.lpL a.body with
    | true =>
      simp only [CondK_bool, MG_u, NG_u, VG_u, UG_u, PG_u, BG_u, CG_u, IG_u, MG_b, NG_b, VG_b, UG_b, PG_b, BG_b, CG_b, IG_b, PK_bool, NK_ptr, not_ok, reduceCtorEq, if_true, if_false, Bool.true_eq_false, Bool.false_eq_true, Bool.not_true, Bool.not_false]
      refine ⟨?_, hm2.trans hm3⟩
      rw [hlp, hB]; rfl
    | false =>
      simp only [CondK_bool, MG_u, NG_u, VG_u, UG_u, PG_u, BG_u, CG_u, IG_u, MG_b, NG_b, VG_b, UG_b, PG_b, BG_b, CG_b, IG_b, PK_bool, NK_ptr, not_ok, reduceCtorEq, if_true, if_false, Bool.true_eq_false, Bool.false_eq_true, Bool.not_true, Bool.not_false]
      rw [hB, Bool.false_or] at hlp
      refine f7.vk' fun _ => ?_
      refine CK_st Tryz.func43 rfl rfl (ihE w3 _ ((hoka.mod hm2).mod hm3).els (by omega)) ?_
      rintro _ w4 ⟨rfl, hm4⟩
      refine ⟨?_, (hm2.trans hm3).trans hm4⟩
      rw [hlp]
theorem loops_all : ∀ e : St, LoopsOk e.body ∧ LoopsOk e.els := by
  intro e
  induction e using St.ind with
  | h e ih1 ih2 => exact ⟨loops_row ih1, loops_row ih2⟩
theorem Loops_ok (l : List St) : LoopsOk l := loops_row fun a _ => loops_all a
def CountR (l : List St) : Prop := ∀ (w : World) (s : Value), StsOk w s l → St.szL l ≤ 1099511627776 → Rt Tryz.prog 53 #[s] w fun v w' => v = .bool (!St.lpL l) ∧ Mod none_ w w'
theorem countR_row {l : List St} (ih : ∀ a ∈ l, CountR a.body ∧ CountR a.els) : CountR l := by
  intro w s hok hsz
  obtain ⟨A, c, hs, _⟩ := reads_cap hok.1
  have hlen := St.len_sz l
  rw [St.lpL_eq]
  refine dispatcherref09_counted_calls ?_
  unfold dispatcherref09_counted_F
  refine W_loop dispatcherref09_counted_L0_ok (fun ρ w' => ∃ (n : Nat), n ≤ l.length ∧ ρ 3 = .int .i64 n ∧ ρ 0 = .slice A l.length c ∧ ((l.take n).any St.lp) = false ∧ Mod none_ w w') (fun ρ _ => l.length - (intOf (ρ 3)).toNat)
    ⟨0, Nat.zero_le _, rfl, hs, rfl, Mod.refl _ _⟩ ?_
  rintro ρ w1 ⟨n, hn, h3, h0, hno, hm⟩
  rw [dispatcherref09_counted_L0_eq]
  unfold dispatcherref09_counted_L0_F
  rw [h0, h3, len23]
  refine BKlss (a := n) (b := l.length) rfl rfl ?_
  by_cases hlt : n < l.length
  · rw [show decide ((n : Int) < (l.length : Int)) = true by rw [decide_eq_true_eq]; omega]
    refine condT ?_
    have hx : l[n]? = some l[n] := List.getElem?_eq_getElem hlt
    have hmem : l[n] ∈ l := List.getElem_mem hlt
    obtain ⟨ihB, ihE⟩ := ih _ hmem
    have hsn := St.szL_at hx
    have hsz2 := St.sz_eq l[n]
    have hlp := St.lp_eq l[n]
    have hok1 := hok.mod hm
    rw [hs] at hok1
    have bad : l[n].lp = true → (l.any St.lp) = true := fun q => List.any_eq_true.2 ⟨_, hmem, q⟩
    have htake : l[n].lp = false → ((l.take (n + 1)).any St.lp) = false := fun q => by
      rw [List.take_add_one, hx, Option.toList_some, List.any_append, hno]
      simp [q]
    refine ixStA hok1 hx fun a ha => ?_
    have d0 : FAt Tryz.prog w1 62 0 a 5 (.int .u8 l[n].op) := FAt.mk' (off := 0) (by kernel_rfl) uU8 rfl (ha 0 _ rfl)
    refine d0.vk' fun _ => ?_
    refine BKeqI (a := l[n].op) (b := 4) rfl rfl (fun q => ?_) (fun q => ?_)
    · simp only [CondK_bool, MG_u, NG_u, VG_u, UG_u, PG_u, BG_u, CG_u, IG_u, MG_b, NG_b, VG_b, UG_b, PG_b, BG_b, CG_b, IG_b, PK_bool, NK_ptr, not_ok, reduceCtorEq, if_true, if_false, Bool.true_eq_false, Bool.false_eq_true, Bool.not_true, Bool.not_false]
      refine ⟨?_, hm⟩
      show Value.bool false = _
      rw [bad (by rw [hlp, q]; rfl)]; rfl
    · simp only [CondK_bool, MG_u, NG_u, VG_u, UG_u, PG_u, BG_u, CG_u, IG_u, MG_b, NG_b, VG_b, UG_b, PG_b, BG_b, CG_b, IG_b, PK_bool, NK_ptr, not_ok, reduceCtorEq, if_true, if_false, Bool.true_eq_false, Bool.false_eq_true, Bool.not_true, Bool.not_false]
      rw [show (l[n].op == 4) = false by simp [q], Bool.false_or] at hlp
      refine ixStA hok1 hx fun a ha => ?_
      have f6 : FAt Tryz.prog w1 62 6 a 23 l[n].bs := FAt.mk' (off := 6) (by kernel_rfl) uSts rfl (ha 6 _ rfl)
      refine f6.vk' fun _ => ?_
      refine CK_st Tryz.func53 rfl rfl (ihB w1 _ (hok1.at hx).body (by omega)) ?_
      rintro _ w3 ⟨rfl, hm3⟩
      rw [not_ok]
      cases hB : St.lpL l[n].body with
      | true =>
        simp only [CondK_bool, MG_u, NG_u, VG_u, UG_u, PG_u, BG_u, CG_u, IG_u, MG_b, NG_b, VG_b, UG_b, PG_b, BG_b, CG_b, IG_b, PK_bool, NK_ptr, not_ok, reduceCtorEq, if_true, if_false, Bool.true_eq_false, Bool.false_eq_true, Bool.not_true, Bool.not_false]
        refine ⟨?_, hm.trans hm3⟩
        show Value.bool false = _
        rw [bad (by rw [hlp, hB]; rfl)]; rfl
      | false =>
        simp only [CondK_bool, MG_u, NG_u, VG_u, UG_u, PG_u, BG_u, CG_u, IG_u, MG_b, NG_b, VG_b, UG_b, PG_b, BG_b, CG_b, IG_b, PK_bool, NK_ptr, not_ok, reduceCtorEq, if_true, if_false, Bool.true_eq_false, Bool.false_eq_true, Bool.not_true, Bool.not_false]
        rw [hB, Bool.false_or] at hlp
        have hok3 := hok1.mod hm3
        refine ixStA hok3 hx fun a ha => ?_
        have f7 : FAt Tryz.prog w3 62 7 a 23 l[n].ls := FAt.mk' (off := 7) (by kernel_rfl) uSts rfl (ha 7 _ rfl)
        refine f7.vk' fun _ => ?_
        refine CK_st Tryz.func53 rfl rfl (ihE w3 _ (hok3.at hx).els (by omega)) ?_
        rintro _ w4 ⟨rfl, hm4⟩
        rw [not_ok]
        cases hE : St.lpL l[n].els with
        | true =>
          refine condT ⟨?_, (hm.trans hm3).trans hm4⟩
          show Value.bool false = _
          rw [bad (by rw [hlp, hE])]; rfl
        | false =>
          refine condF ?_
          refine BKadd (a := n) (b := 1) rfl rfl (by omega) (by omega) ?_
          refine ⟨⟨n + 1, hlt, rfl, ?_, htake (by rw [hlp, hE]), (hm.trans hm3).trans hm4⟩, ?_⟩
          · exact h0
          · show l.length - (intOf (Value.int .i64 ((n : Int) + 1))).toNat < _
            simp only [intOf]; omega
  · obtain rfl : n = l.length := by omega
    rw [show decide (((l.length : Nat) : Int) < (l.length : Int)) = false by simp]
    refine condF ?_
    rw [sq_x, bk_x, sq_n, dispatcherref09_counted_R1_eq]
    unfold dispatcherref09_counted_R1_F
    rw [List.take_length] at hno
    rw [hno]
    exact ⟨rfl, hm⟩
theorem countR_all : ∀ e : St, CountR e.body ∧ CountR e.els := by
  intro e
  induction e using St.ind with
  | h e ih1 ih2 => exact ⟨countR_row ih1, countR_row ih2⟩
theorem countedR_ok (l : List St) : CountR l := countR_row fun a _ => countR_all a
theorem CountedR_ok {w : World} {p : Pr} (h : p.Ok w) (hf : p.fits) : Rt Tryz.prog 35 #[.agg p.cells.toArray] w fun v w' => v = .bool (!St.lpL p.body) ∧ Mod none_ w w' := by
  refine dispatcherref09_Counted_calls ?_
  unfold dispatcherref09_Counted_F
  refine box_k (cs := p.cells.toArray) rfl fun w1 hb1 hm1 hz1 => ?_
  have f1 : FAt Tryz.prog w1 25 1 ⟨w.heap.size, 0, none⟩ 23 p.bs := FAt.mk' (off := 1) (by kernel_rfl) uSts rfl (by rw [add_pl, cell_blk hb1]; rfl)
  refine f1.vk' fun _ => ?_
  refine CK_st Tryz.func53 rfl rfl (countedR_ok p.body w1 _ (h.mod hm1).b hf.2) ?_
  rintro _ w2 ⟨rfl, hm2⟩
  exact ⟨rfl, hm1.trans hm2⟩
theorem Counted_ok {w : World} {p : Pr} (h : p.Ok w) (hf : p.fits) : Rt Tryz.prog 27 #[.agg p.cells.toArray] w fun v w' => v = .bool (!St.lpL p.body) ∧ Mod none_ w w' := by
  refine bound_Counted_calls ?_
  unfold bound_Counted_F
  refine box_k (cs := p.cells.toArray) rfl fun w1 hb1 hm1 hz1 => ?_
  have f1 : FAt Tryz.prog w1 25 1 ⟨w.heap.size, 0, none⟩ 23 p.bs := FAt.mk' (off := 1) (by kernel_rfl) uSts rfl (by rw [add_pl, cell_blk hb1]; rfl)
  refine f1.vk' fun _ => ?_
  refine CK_st Tryz.func43 rfl rfl (Loops_ok p.body w1 _ (h.mod hm1).b hf.2) ?_
  rintro _ w2 ⟨rfl, hm2⟩
  rw [not_ok]
  exact ⟨rfl, hm1.trans hm2⟩
end Go.Proofs.YtpkfbaagpjdifaaGreatDoor.Tr
set_option linter.unusedVariables false
set_option linter.unusedSimpArgs false
set_option maxRecDepth 4000
namespace Go.Proofs.YtpkfbaagpjdifaaGreatDoor.Tr
open Go Go.X Go.RowKit Go.Proofs.YtpkfbaagpjdifaaGreatDoor.XH Go.Proofs.YtpkfbaagpjdifaaGreatDoor.XK
theorem dec_no {e : St} (h : e.op ≠ 8) : e.dec = false := by unfold St.dec; rw [decide_eq_false h]; rfl
theorem dec_ex {e : St} (h : e.op = 8) (hk : e.kind = 6 ∨ e.kind = 7 ∨ e.kind = 13) : e.dec = (decide (e.exprs.length < 2) || (e.exprs[1]?).any fun x => x.op != 1) := by unfold St.dec; rw [decide_eq_true h, if_pos hk]; rfl
theorem dec_else {e : St} (h : e.op = 8) (hk : ¬(e.kind = 6 ∨ e.kind = 7 ∨ e.kind = 13)) : e.dec = decide (e.kind = 10 ∨ e.kind = 11 ∨ e.kind = 12 ∨ e.kind = 14) := by unfold St.dec; rw [decide_eq_true h, if_neg hk]; rfl
theorem Decides_ok {w : World} {e : St} (hok : e.Ok w) : Rt Tryz.prog 79 #[.agg e.cells.toArray] w fun v w' => v = .bool e.dec ∧ Mod none_ w w' := by
  obtain ⟨A, c, hs, _⟩ := reads_cap hok.exprs.1
  refine bound_Decides_calls ?_
  unfold bound_Decides_F
  refine box_k (cs := e.cells.toArray) rfl fun w1 hb1 hm1 hz1 => ?_
  have hrow : ExsOk w1 (.slice A e.exprs.length c) e.exprs := by rw [← hs]; exact hok.exprs.mod hm1
  generalize w.heap.size = b at *
  have d0 : FAt Tryz.prog w1 62 0 ⟨b, 0, none⟩ 5 (.int .u8 e.op) := FAt.mk' (off := 0) (by kernel_rfl) uU8 rfl (by rw [add_pl, cell_blk hb1]; rfl)
  have d1 : FAt Tryz.prog w1 62 1 ⟨b, 0, none⟩ 5 (.int .u8 e.kind) := FAt.mk' (off := 1) (by kernel_rfl) uU8 rfl (by rw [add_pl, cell_blk hb1]; rfl)
  have d5 : FAt Tryz.prog w1 62 5 ⟨b, 0, none⟩ 60 (.slice A e.exprs.length c) := FAt.mk' (off := 5) (by kernel_rfl) uExs rfl (by rw [add_pl, cell_blk hb1, ← hs]; rfl)
  refine d0.vk' fun _ => ?_
  refine BKneI (a := e.op) (b := 8) rfl rfl (fun h8 => condF ?_) (fun h8 => condT ?_)
  rotate_left
  · rw [dec_no h8]; exact ⟨rfl, hm1⟩
  have r2 : ∀ (ρ' : Sl) (t : Bool), ρ' 24 = .bool t → t = e.dec → sx fn_ Tryz.prog 29 bound_Decides_R2 (blkK 0 (seqK (sx fn_ Tryz.prog 29 bound_Decides_R1 (retK Tryz.prog [ResultVar.tmp 2] fun v w' => v = .bool e.dec ∧ Mod none_ w w')) (retK Tryz.prog [ResultVar.tmp 2] fun v w' => v = .bool e.dec ∧ Mod none_ w w'))) ρ' w1 := by
    intro ρ' t q24 ht
    rw [bound_Decides_R2_eq]
    unfold bound_Decides_R2_F
    refine caseN q24 (fun h => ?_) (fun h => ?_)
    · rw [bk_r, sq_r]
      rw [← ht, h]
      exact ⟨rfl, hm1⟩
    · rw [bk_n, sq_n, bound_Decides_R1_eq]
      unfold bound_Decides_R1_F
      rw [← ht, h]
      exact ⟨rfl, hm1⟩
  have r0 : ∀ (ρ' : Sl) (t : Bool), ρ' 8 = .bool t → t = decide (e.kind = 6 ∨ e.kind = 7 ∨ e.kind = 13) → ρ' 1 = .pointer (some ⟨b, 0, none⟩) → ρ' 7 = .int .u8 e.kind → sx fn_ Tryz.prog 29 bound_Decides_R0 (blkK 0 (seqK (sx fn_ Tryz.prog 29 bound_Decides_R1 (retK Tryz.prog [ResultVar.tmp 2] fun v w' => v = .bool e.dec ∧ Mod none_ w w')) (retK Tryz.prog [ResultVar.tmp 2] fun v w' => v = .bool e.dec ∧ Mod none_ w w'))) ρ' w1 := by
    intro ρ' t q8 ht q1 q7
    rw [bound_Decides_R0_eq]
    unfold bound_Decides_R0_F
    refine caseN q8 (fun h => ?_) (fun h => ?_)
    · have hk := of_decide_eq_true (ht.symm.trans h)
      have hd := dec_ex h8 hk
      refine d5.vs q1 fun _ => ?_
      rw [len60]
      refine BKlss (a := e.exprs.length) (b := 2) rfl rfl ?_
      by_cases hl : e.exprs.length < 2
      · rw [show decide ((e.exprs.length : Int) < 2) = true by rw [decide_eq_true_eq]; omega]
        simp only [CondK_bool, MG_u, NG_u, VG_u, UG_u, PG_u, BG_u, CG_u, IG_u, MG_b, NG_b, VG_b, UG_b, PG_b, BG_b, CG_b, IG_b, PK_bool, NK_ptr, not_ok, reduceCtorEq, if_true, if_false, Bool.true_eq_false, Bool.false_eq_true, Bool.not_true, Bool.not_false]
        rw [bk_r, sq_r]
        refine ⟨?_, hm1⟩
        show Value.bool true = _
        rw [hd, decide_eq_true hl]; rfl
      · rw [show decide ((e.exprs.length : Int) < 2) = false by rw [decide_eq_false_iff_not]; omega]
        simp only [CondK_bool, MG_u, NG_u, VG_u, UG_u, PG_u, BG_u, CG_u, IG_u, MG_b, NG_b, VG_b, UG_b, PG_b, BG_b, CG_b, IG_b, PK_bool, NK_ptr, not_ok, reduceCtorEq, if_true, if_false, Bool.true_eq_false, Bool.false_eq_true, Bool.not_true, Bool.not_false]
        have hx : e.exprs[1]? = some e.exprs[1] := List.getElem?_eq_getElem (by omega)
        refine d5.vs q1 fun _ => ?_
        refine ixExA (i := 1) hrow hx fun a ha => ?_
        have g0 : FAt Tryz.prog w1 85 0 a 5 (.int .u8 e.exprs[1].op) := FAt.mk' (off := 0) (by kernel_rfl) uU8 rfl (ha 0 _ rfl)
        refine g0.vk' fun _ => ?_
        rw [BK_neq, bk_r, sq_r]
        refine ⟨?_, hm1⟩
        show Value.bool _ = _
        rw [hd, decide_eq_false hl, hx]; rfl
    · have hk := of_decide_eq_false (ht.symm.trans h)
      have hd := dec_else h8 hk
      refine BKeqI (a := e.kind) (b := 14) q7 rfl (fun h1 => condT ?_) (fun h1 => condF ?_)
      · exact r2 _ true rfl (by rw [hd, decide_eq_true (by omega)])
      refine BKeqI (a := e.kind) (b := 10) ?_ rfl (fun h2 => condT ?_) (fun h2 => condF ?_)
      · exact q7
      · exact r2 _ true rfl (by rw [hd, decide_eq_true (by omega)])
      refine BKeqI (a := e.kind) (b := 11) ?_ rfl (fun h3 => condT ?_) (fun h3 => condF ?_)
      · exact q7
      · exact r2 _ true rfl (by rw [hd, decide_eq_true (by omega)])
      refine BKeqI (a := e.kind) (b := 12) ?_ rfl (fun h4 => ?_) (fun h4 => ?_)
      · exact q7
      · exact r2 _ true rfl (by rw [hd, decide_eq_true (by omega)])
      · exact r2 _ false rfl (by rw [hd, decide_eq_false (by omega)])
  refine d1.vk' fun _ => ?_
  refine BKeqI (a := e.kind) (b := 6) rfl rfl (fun h1 => condT ?_) (fun h1 => condF ?_)
  · exact r0 _ true rfl (by rw [decide_eq_true (by omega)]) rfl rfl
  refine BKeqI (a := e.kind) (b := 7) rfl rfl (fun h2 => condT ?_) (fun h2 => condF ?_)
  · exact r0 _ true rfl (by rw [decide_eq_true (by omega)]) rfl rfl
  refine BKeqI (a := e.kind) (b := 13) rfl rfl (fun h3 => ?_) (fun h3 => ?_)
  · exact r0 _ true rfl (by rw [decide_eq_true (by omega)]) rfl rfl
  · exact r0 _ false rfl (by rw [decide_eq_false (by omega)]) rfl rfl
theorem DecidesR_ok {w : World} {e : St} (hok : e.Ok w) : Rt Tryz.prog 56 #[.agg e.cells.toArray] w fun v w' => v = .bool e.dec ∧ Mod none_ w w' := by
  obtain ⟨A, c, hs, _⟩ := reads_cap hok.exprs.1
  refine dispatcherref09_Decides_calls ?_
  unfold dispatcherref09_Decides_F
  refine box_k (cs := e.cells.toArray) rfl fun w1 hb1 hm1 hz1 => ?_
  have hrow : ExsOk w1 (.slice A e.exprs.length c) e.exprs := by rw [← hs]; exact hok.exprs.mod hm1
  generalize w.heap.size = b at *
  have d0 : FAt Tryz.prog w1 62 0 ⟨b, 0, none⟩ 5 (.int .u8 e.op) := FAt.mk' (off := 0) (by kernel_rfl) uU8 rfl (by rw [add_pl, cell_blk hb1]; rfl)
  have d1 : FAt Tryz.prog w1 62 1 ⟨b, 0, none⟩ 5 (.int .u8 e.kind) := FAt.mk' (off := 1) (by kernel_rfl) uU8 rfl (by rw [add_pl, cell_blk hb1]; rfl)
  have d5 : FAt Tryz.prog w1 62 5 ⟨b, 0, none⟩ 60 (.slice A e.exprs.length c) := FAt.mk' (off := 5) (by kernel_rfl) uExs rfl (by rw [add_pl, cell_blk hb1, ← hs]; rfl)
  refine d0.vk' fun _ => ?_
  refine BKneI (a := e.op) (b := 8) rfl rfl (fun h8 => condF ?_) (fun h8 => condT ?_)
  rotate_left
  · rw [dec_no h8]; exact ⟨rfl, hm1⟩
  have r2 : ∀ (ρ' : Sl) (t : Bool), ρ' 13 = .bool t → t = decide (e.kind = 6 ∨ e.kind = 7 ∨ e.kind = 13) → ¬ (e.kind = 10 ∨ e.kind = 11 ∨ e.kind = 12 ∨ e.kind = 14) → ρ' 1 = .pointer (some ⟨b, 0, none⟩) → sx fn_ Tryz.prog 29 dispatcherref09_Decides_R2 (blkK 0 (seqK (sx fn_ Tryz.prog 29 dispatcherref09_Decides_R1 (retK Tryz.prog [ResultVar.tmp 2] fun v w' => v = .bool e.dec ∧ Mod none_ w w')) (retK Tryz.prog [ResultVar.tmp 2] fun v w' => v = .bool e.dec ∧ Mod none_ w w'))) ρ' w1 := by
    intro ρ' t q13 ht hno q1
    rw [dispatcherref09_Decides_R2_eq]
    unfold dispatcherref09_Decides_R2_F
    refine caseN q13 (fun h => ?_) (fun h => ?_)
    · have hk := of_decide_eq_true (ht.symm.trans h)
      have hd := dec_ex h8 hk
      refine d5.vs q1 fun _ => ?_
      rw [len60]
      refine BKlss (a := e.exprs.length) (b := 2) rfl rfl ?_
      by_cases hl : e.exprs.length < 2
      · rw [show decide ((e.exprs.length : Int) < 2) = true by rw [decide_eq_true_eq]; omega]
        simp only [CondK_bool, MG_u, NG_u, VG_u, UG_u, PG_u, BG_u, CG_u, IG_u, MG_b, NG_b, VG_b, UG_b, PG_b, BG_b, CG_b, IG_b, PK_bool, NK_ptr, not_ok, reduceCtorEq, if_true, if_false, Bool.true_eq_false, Bool.false_eq_true, Bool.not_true, Bool.not_false]
        rw [bk_r, sq_r]
        refine ⟨?_, hm1⟩
        show Value.bool true = _
        rw [hd, decide_eq_true hl]; rfl
      · rw [show decide ((e.exprs.length : Int) < 2) = false by rw [decide_eq_false_iff_not]; omega]
        simp only [CondK_bool, MG_u, NG_u, VG_u, UG_u, PG_u, BG_u, CG_u, IG_u, MG_b, NG_b, VG_b, UG_b, PG_b, BG_b, CG_b, IG_b, PK_bool, NK_ptr, not_ok, reduceCtorEq, if_true, if_false, Bool.true_eq_false, Bool.false_eq_true, Bool.not_true, Bool.not_false]
        have hx : e.exprs[1]? = some e.exprs[1] := List.getElem?_eq_getElem (by omega)
        refine d5.vs q1 fun _ => ?_
        refine ixExA (i := 1) hrow hx fun a ha => ?_
        have g0 : FAt Tryz.prog w1 85 0 a 5 (.int .u8 e.exprs[1].op) := FAt.mk' (off := 0) (by kernel_rfl) uU8 rfl (ha 0 _ rfl)
        refine g0.vk' fun _ => ?_
        rw [BK_neq, bk_r, sq_r]
        refine ⟨?_, hm1⟩
        show Value.bool _ = _
        rw [hd, decide_eq_false hl, hx]; rfl
    · have hk := of_decide_eq_false (ht.symm.trans h)
      have hd := dec_else h8 hk
      rw [bk_n, sq_n, dispatcherref09_Decides_R1_eq]
      unfold dispatcherref09_Decides_R1_F
      rw [hd, decide_eq_false hno]
      exact ⟨rfl, hm1⟩
  have r0 : ∀ (ρ' : Sl) (t : Bool), ρ' 8 = .bool t → t = decide (e.kind = 10 ∨ e.kind = 11 ∨ e.kind = 12 ∨ e.kind = 14) → ρ' 1 = .pointer (some ⟨b, 0, none⟩) → ρ' 7 = .int .u8 e.kind → sx fn_ Tryz.prog 29 dispatcherref09_Decides_R0 (blkK 0 (seqK (sx fn_ Tryz.prog 29 dispatcherref09_Decides_R1 (retK Tryz.prog [ResultVar.tmp 2] fun v w' => v = .bool e.dec ∧ Mod none_ w w')) (retK Tryz.prog [ResultVar.tmp 2] fun v w' => v = .bool e.dec ∧ Mod none_ w w'))) ρ' w1 := by
    intro ρ' t q8 ht q1 q7
    rw [dispatcherref09_Decides_R0_eq]
    unfold dispatcherref09_Decides_R0_F
    refine caseN q8 (fun h => ?_) (fun h => ?_)
    · have hk := of_decide_eq_true (ht.symm.trans h)
      rw [bk_r, sq_r, dec_else h8 (by omega), decide_eq_true hk]
      exact ⟨rfl, hm1⟩
    · have hk := of_decide_eq_false (ht.symm.trans h)
      refine BKeqI (a := e.kind) (b := 6) q7 rfl (fun h1 => condT ?_) (fun h1 => condF ?_)
      · exact r2 _ true rfl (by rw [decide_eq_true (by omega)]) hk q1
      refine BKeqI (a := e.kind) (b := 7) ?_ rfl (fun h2 => condT ?_) (fun h2 => condF ?_)
      · exact q7
      · exact r2 _ true rfl (by rw [decide_eq_true (by omega)]) hk q1
      refine BKeqI (a := e.kind) (b := 13) ?_ rfl (fun h3 => ?_) (fun h3 => ?_)
      · exact q7
      · exact r2 _ true rfl (by rw [decide_eq_true (by omega)]) hk q1
      · exact r2 _ false rfl (by rw [decide_eq_false (by omega)]) hk q1
  refine d1.vk' fun _ => ?_
  refine BKeqI (a := e.kind) (b := 14) rfl rfl (fun h1 => condT ?_) (fun h1 => condF ?_)
  · exact r0 _ true rfl (by rw [decide_eq_true (by omega)]) rfl rfl
  refine BKeqI (a := e.kind) (b := 10) rfl rfl (fun h2 => condT ?_) (fun h2 => condF ?_)
  · exact r0 _ true rfl (by rw [decide_eq_true (by omega)]) rfl rfl
  refine BKeqI (a := e.kind) (b := 11) rfl rfl (fun h3 => condT ?_) (fun h3 => condF ?_)
  · exact r0 _ true rfl (by rw [decide_eq_true (by omega)]) rfl rfl
  refine BKeqI (a := e.kind) (b := 12) rfl rfl (fun h4 => ?_) (fun h4 => ?_)
  · exact r0 _ true rfl (by rw [decide_eq_true (by omega)]) rfl rfl
  · exact r0 _ false rfl (by rw [decide_eq_false (by omega)]) rfl rfl
end Go.Proofs.YtpkfbaagpjdifaaGreatDoor.Tr
set_option linter.unusedVariables false
set_option linter.unusedSimpArgs false
set_option maxRecDepth 4000
namespace Go.X
open Go Go.Proofs.YtpkfbaagpjdifaaGreatDoor.Tr
def oneB (n op turns st : Int) (ln : Nat) (dec : Bool) (B E : Bd) : Bd :=
  if op = 3 then ⟨1 + st + mx (B.s + (if 0 < ln then 1 else 0)) E.s, mx B.c E.c, mx B.d E.d⟩
  else if op = 5 then ⟨(B.s + 9) * (if turns = 0 then n else turns) + 6, B.c * (if turns = 0 then n else turns), B.d * (if turns = 0 then n else turns)⟩
  else if op = 8 then ⟨1 + st, 1, if dec then 1 else 0⟩
  else ⟨1 + st, 0, 0⟩
mutual
def St.bd (n : Int) : St → Bd
  | ⟨op, kind, red, name, turns, es, exprs, bs, body, ls, els, line, col⟩ => (oneB n op turns (Ex.stepsL exprs) els.length (St.dec ⟨op, kind, red, name, turns, es, exprs, bs, body, ls, els, line, col⟩) (St.bdF n zBd body) (St.bdF n zBd els)).cut
def St.bdF (n : Int) (acc : Bd) : List St → Bd
  | [] => acc
  | e :: r => St.bdF n ((acc.and (St.bd n e)).cut) r
end
def St.bdO (n : Int) (e : St) : Bd := oneB n e.op e.turns (Ex.stepsL e.exprs) e.els.length e.dec (St.bdF n zBd e.body) (St.bdF n zBd e.els)
theorem St.bd_eq (n : Int) (e : St) : e.bd n = (e.bdO n).cut := by obtain ⟨op, kind, red, name, turns, es, exprs, bs, body, ls, els, line, col⟩ := e; rw [St.bd]; rfl
theorem St.bdF_snoc (n : Int) : ∀ (l : List St) (acc : Bd) (e : St), St.bdF n acc (l ++ [e]) = ((St.bdF n acc l).and (e.bd n)).cut
  | [], acc, e => by simp [St.bdF]
  | a :: r, acc, e => by rw [List.cons_append, St.bdF, St.bdF, St.bdF_snoc n r]
theorem may_turns {e : St} (h : e.may = true) : 0 ≤ e.turns ∧ e.turns ≤ 1000 := by
  rw [St.may_eq] at h
  simp only [Bool.and_eq_true] at h
  have := h.1.1.1
  unfold St.own at this
  simp only [Bool.and_eq_true, decide_eq_true_eq] at this
  exact ⟨this.1.1.1.1.2, this.1.1.1.2⟩
theorem may_parts {e : St} (h : e.may = true) : (∀ a ∈ e.exprs, a.may = true) ∧ (∀ a ∈ e.body, a.may = true) ∧ ∀ a ∈ e.els, a.may = true := by
  rw [St.may_eq] at h
  simp only [Bool.and_eq_true, Ex.mayL_eq, St.mayL_eq, List.all_eq_true] at h
  exact ⟨h.1.1.2, h.1.2, h.2⟩
theorem oneB_in {n op turns st : Int} {ln : Nat} {dec : Bool} {B E : Bd} (hB : B.In 1048577) (hE : E.In 1048577) (hst : 0 ≤ st ∧ st ≤ 4398046511104) (hn : 1 ≤ n ∧ n ≤ 64) (ht : 0 ≤ turns ∧ turns ≤ 1000) : (oneB n op turns st ln dec B E).In 4398047560000 ∧ 0 ≤ (if turns = 0 then n else turns) ∧ (if turns = 0 then n else turns) ≤ 1000 := by
  have ht2 : 0 ≤ (if turns = 0 then n else turns) ∧ (if turns = 0 then n else turns) ≤ 1000 := by split <;> omega
  refine ⟨?_, ht2⟩
  obtain ⟨⟨b1, b2⟩, b3, b4⟩ := id hB
  unfold oneB
  split
  · have h1 := mx_in (a := B.s + (if 0 < ln then 1 else 0)) (b := E.s) (m := 1048578) (by split <;> omega) ⟨hE.1.1, by have := hE.1.2; omega⟩
    have h2 := mx_in hB.2.1 hE.2.1
    have h3 := mx_in hB.2.2 hE.2.2
    refine ⟨⟨?_, ?_⟩, ⟨?_, ?_⟩, ?_, ?_⟩ <;> dsimp only <;> omega
  · split
    · have h1 := mul_in (a := B.s + 9) (m := 1048586) (by omega) ht2
      have h2 := mul_in b3 ht2
      have h3 := mul_in b4 ht2
      refine ⟨⟨?_, ?_⟩, ⟨?_, ?_⟩, ?_, ?_⟩ <;> dsimp only <;> omega
    · split
      · refine ⟨⟨?_, ?_⟩, ⟨?_, ?_⟩, ?_, ?_⟩ <;> dsimp only <;> first | omega | (split <;> omega)
      · refine ⟨⟨?_, ?_⟩, ⟨?_, ?_⟩, ?_, ?_⟩ <;> dsimp only <;> omega
theorem bdF_in {n : Int} : ∀ {l : List St} {acc : Bd}, (∀ a ∈ l, (a.bd n).In 1048577) → acc.In 1048577 → (St.bdF n acc l).In 1048577
  | [], acc, _, h => by rw [St.bdF]; exact h
  | a :: r, acc, hl, h => by
    rw [St.bdF]
    exact bdF_in (fun b hb => hl b (List.mem_cons_of_mem _ hb)) (h.and (hl a (by simp))).cut
/-- Of a tree that may be, of so many ranks. -/
theorem bd_in {n : Int} (hn : 1 ≤ n ∧ n ≤ 64) : ∀ e : St, e.may = true → e.sz ≤ 1099511627776 → (e.bd n).In 1048577 ∧ (e.bdO n).In 4398047560000 ∧ (St.bdF n zBd e.body).In 1048577 ∧ (St.bdF n zBd e.els).In 1048577 := by
  intro e
  induction e using St.ind with
  | h e ih1 ih2 =>
    intro hm hsz
    obtain ⟨m1, m2, m3⟩ := may_parts hm
    rw [St.sz_eq] at hsz
    have sb : ∀ (l : List St), ∀ a ∈ l, a.sz ≤ St.szL l := fun l a ha => by
      obtain ⟨i, hi⟩ := List.getElem?_of_mem ha
      have := St.szL_at hi
      omega
    have hB := bdF_in (n := n) (acc := zBd) (fun a ha => (ih1 a ha (m2 a ha) (by have := sb _ a ha; omega)).1) (zBd_in _ (by decide))
    have hE := bdF_in (n := n) (acc := zBd) (fun a ha => (ih2 a ha (m3 a ha) (by have := sb _ a ha; omega)).1) (zBd_in _ (by decide))
    have hst := Ex.stepsL_sz e.exprs
    have hO := (oneB_in (n := n) (op := e.op) (ln := e.els.length) (dec := e.dec) hB hE (st := Ex.stepsL e.exprs) (by omega) hn (may_turns hm)).1
    exact ⟨by rw [St.bd_eq]; exact Bd.In.cut hO, hO, hB, hE⟩
end Go.X
namespace Go.Proofs.YtpkfbaagpjdifaaGreatDoor.Tr
open Go Go.X Go.RowKit Go.Proofs.YtpkfbaagpjdifaaGreatDoor.XH Go.Proofs.YtpkfbaagpjdifaaGreatDoor.XK
def OneOk (n : Int) (e : St) : Prop := ∀ w : World, e.Ok w → e.sz ≤ 1099511627776 → e.may = true → Rt Tryz.prog 44 #[.int .i64 n, .agg e.cells.toArray] w fun v w' => v = (e.bd n).v ∧ Mod none_ w w'
def AllOk (n : Int) (l : List St) : Prop := ∀ (w : World) (s : Value), StsOk w s l → St.szL l ≤ 1099511627776 → (∀ a ∈ l, a.may = true) → Rt Tryz.prog 28 #[.int .i64 n, s] w fun v w' => v = (St.bdF n zBd l).v ∧ Mod none_ w w'
theorem FnOne (n : Int) : FnL Tryz.prog (.func (.func 44) #[.int .i64 n] #[]) := ⟨_, _, _, _, rfl, Tryz.func44, rfl, rfl⟩
theorem all_row {n : Int} (hn : 1 ≤ n ∧ n ≤ 64) {l : List St} (ih : ∀ a ∈ l, OneOk n a) : AllOk n l := by
  intro w s hok hsz hmay
  obtain ⟨A, c, hs, _⟩ := reads_cap hok.1
  have hlen := St.len_sz l
  refine bound_size_all_calls ?_
  unfold bound_size_all_F
  refine al_k zBnd rfl _ fun w1 hb1 hm1 hz1 => ?_
  refine al_k zBnd rfl _ fun w2 hb2 hm2 hz2 => ?_
  rw [mkFunc, hs, len23]
  have hb12 := hm2.blk hb1 id
  have hm02 := hm1.trans hm2
  generalize hb4 : w.heap.size = b4 at *
  generalize hb5 : w1.heap.size = b5 at *
  have hin : ∀ m : Nat, (St.bdF n zBd (l.take m)).In 1048577 := fun m => bdF_in (fun a ha => by
    obtain ⟨i, hi⟩ := List.getElem?_of_mem (List.mem_of_mem_take ha)
    have := St.szL_at hi
    exact (bd_in hn a (hmay a (List.mem_of_mem_take ha)) (by omega)).1) (zBd_in _ (by decide))
  refine W_loop bound_size_all_L0_ok (fun ρ w' => ∃ m : Nat, m ≤ l.length ∧ ρ 13 = .int .i64 m ∧ ρ 12 = .int .i64 l.length ∧ ρ 11 = .slice A l.length c ∧ ρ 4 = pt b4 ∧ ρ 5 = pt b5 ∧ ρ 6 = .func (.func 44) #[.int .i64 n] #[] ∧ w'.heap[b5]? = some (.cells (St.bdF n zBd (l.take m)).cells.toArray 42 (0, 0)) ∧ Mod (fun i => i = b5) w2 w') (fun ρ _ => l.length - (intOf (ρ 13)).toNat)
    ⟨0, Nat.zero_le _, rfl, rfl, rfl, rfl, rfl, rfl, hb2, Mod.refl _ _⟩ ?_
  rintro ρ w3 ⟨m, hmn, h13, h12, h11, h4, h5, h6, hb53, hm3⟩
  have hm03 : Mod none_ w w3 := hm02.then hm3 fun i hi q => absurd q (by omega)
  rw [bound_size_all_L0_eq]
  unfold bound_size_all_L0_F
  rw [h13, h12, h11]
  refine BKlss (a := m) (b := l.length) rfl rfl ?_
  by_cases hlt : m < l.length
  · rw [show decide ((m : Int) < (l.length : Int)) = true by rw [decide_eq_true_eq]; omega]
    refine condT ?_
    have hx : l[m]? = some l[m] := List.getElem?_eq_getElem hlt
    have hmem : l[m] ∈ l := List.getElem_mem hlt
    have hok3 := hok.mod hm03
    rw [hs] at hok3
    have hsn := St.szL_at hx
    refine ixSt hok3 hx fun y => ?_
    refine lcl_k (cs := l[m].cells.toArray) zSt _ iSt rfl (st_one (hok3.at hx)) fun w4 hb8 hm4 hz4 => ?_
    have hb54 := hm4.blk hb53 id
    have hlt5 : b5 < w3.heap.size := X.blk_lt hb53
    have hm24 : Mod (fun i => i = b5) w2 w4 := hm3.trans (up0 hm4)
    have hok4 := (hok3.at hx).mod hm4
    have hbd := bd_in hn l[m] (hmay _ hmem) (by omega)
    have hsum := (hin m).and hbd.1
    generalize w3.heap.size = b8 at *
    have e2 : ∀ (KK : Exit → Sl → World → Prop), (∀ (ρ3 : Sl) (w9 : World), ρ3 13 = .int .i64 m → ρ3 12 = .int .i64 l.length → ρ3 11 = .slice A l.length c → ρ3 4 = pt b4 → ρ3 5 = pt b5 → ρ3 6 = .func (.func 44) #[.int .i64 n] #[] → w9.heap[b5]? = some (.cells (((St.bdF n zBd (l.take m)).and (l[m].bd n)).cut).cells.toArray 42 (0, 0)) → Mod (fun i => i = b5) w4 w9 → KK .normal ρ3 w9) →
        ∀ (ρ2 : Sl), ρ2 13 = .int .i64 m → ρ2 12 = .int .i64 l.length → ρ2 11 = .slice A l.length c → ρ2 4 = pt b4 → ρ2 5 = pt b5 → ρ2 6 = .func (.func 44) #[.int .i64 n] #[] → ρ2 8 = pt b8 → W fn_ Tryz.prog 25 bound_size_all_R2 KK ρ2 w4 := by
      intro KK kN ρ2 q13 q12 q11 q4 q5 q6 q8
      refine bound_size_all_R2_held (D := []) (fun w' => w'.heap[b8]? = some (.cells l[m].cells.toArray 62 (0, 0))) hb8 ?_
      unfold bound_size_all_R2_H
      have hbd8 : ({ w4 with drawn := w4.drawn + 1 } : World).heap[b8]? = some (.cells l[m].cells.toArray 62 (0, 0)) := hb8
      have hbd5 : ({ w4 with drawn := w4.drawn + 1 } : World).heap[b5]? = some (.cells (St.bdF n zBd (l.take m)).cells.toArray 42 (0, 0)) := hb54
      have hmd : Mod (fun i => i = b5) w4 { w4 with drawn := w4.drawn + 1 } := (Mod.refl _ w4).drawn _
      have hokd : l[m].Ok { w4 with drawn := w4.drawn + 1 } := hok4.mod ((Mod.refl none_ w4).drawn _)
      generalize ({ w4 with drawn := w4.drawn + 1 } : World) = wd at hbd8 hbd5 hmd hokd ⊢
      rw [q6, q5, q8]
      have fin : ∀ (w5 : World) (x y : Value) (N : Value → Value → World → Prop), Mod none_ wd w5 → x = (St.bdF n zBd (l.take m)).v → y = (l[m].bd n).v → (∀ u v w9, w9.heap[b5]? = some (.cells (((St.bdF n zBd (l.take m)).and (l[m].bd n)).cut).cells.toArray 42 (0, 0)) → Mod (fun i => i = b5) w4 w9 → N u v w9) →
          CK Tryz.prog (.func (.func 29) #[] #[]) [x, y] w5 fun u w => w.heap[b8]? = some (.cells l[m].cells.toArray 62 (0, 0)) ∧ (CK Tryz.prog (.func (.func 45) #[] #[]) [u] w fun v w => w.heap[b8]? = some (.cells l[m].cells.toArray 62 (0, 0)) ∧ (UK Tryz.prog (Instr.storeAt 42 (pt b5) v) w fun _ w => w.heap[b8]? = some (.cells l[m].cells.toArray 62 (0, 0)) ∧ N u v w)) := by
        rintro w5 _ _ N hm5 rfl rfl hN
        refine CK_st Tryz.func29 rfl rfl (And_ok hsum (by decide)) ?_
        rintro _ w6 ⟨rfl, hm6⟩
        refine ⟨(hm5.trans hm6).blk hbd8 id, ?_⟩
        refine CK_st Tryz.func45 rfl rfl (Cut_ok _) ?_
        rintro _ w7 ⟨rfl, hm7⟩
        have hm57 := (hm5.trans hm6).trans hm7
        refine ⟨hm57.blk hbd8 id, ?_⟩
        refine stS (b := b5) (old := (St.bdF n zBd (l.take m)).cells.toArray) (cs := (((St.bdF n zBd (l.take m)).and (l[m].bd n)).cut).cells.toArray) rfl rfl iBnd rfl (bd_one _) (hm57.blk hbd5 id) fun w9 hb9 hm9 _ => ?_
        exact ⟨hm9.blk (hm57.blk hbd8 id) (by omega), hN _ _ w9 hb9 ((hmd.trans (up0 hm57)).trans hm9)⟩
      refine HV_of (v := .agg l[m].cells.toArray) (fun w' hw => run_ldB (cs := l[m].cells.toArray) Tryz.underlying62 rfl iSt hw) ⟨?_, ?_⟩
      · refine ldS (b := b5) (cs := (St.bdF n zBd (l.take m)).cells.toArray) rfl Tryz.underlying42 rfl iBnd hbd5 ⟨hbd8, FnOne n, ?_⟩
        refine CK_fn (f := 44) (first := #[.int .i64 n]) (cap := #[]) (args := [.agg l[m].cells.toArray]) Tryz.func44 rfl rfl (ih _ hmem wd hokd (by omega) (hmay _ hmem)) ?_
        rintro _ w5 ⟨rfl, hm5⟩
        refine ⟨hm5.blk hbd8 id, fin w5 _ _ _ hm5 rfl rfl fun u v w9 hb9 hm9 => kN _ w9 ?_ ?_ ?_ ?_ ?_ ?_ hb9 hm9⟩
        · exact q13
        · exact q12
        · exact q11
        · exact q4
        · exact q5
        · exact q6
      · refine ⟨FnOne n, ?_⟩
        refine CK_fn (f := 44) (first := #[.int .i64 n]) (cap := #[]) (args := [.agg l[m].cells.toArray]) Tryz.func44 rfl rfl (ih _ hmem wd hokd (by omega) (hmay _ hmem)) ?_
        rintro _ w5 ⟨rfl, hm5⟩
        refine ⟨hm5.blk hbd8 id, ?_⟩
        refine ldS (b := b5) (cs := (St.bdF n zBd (l.take m)).cells.toArray) rfl Tryz.underlying42 rfl iBnd (hm5.blk hbd5 id) ⟨hm5.blk hbd8 id, fin w5 _ _ _ hm5 rfl rfl fun u v w9 hb9 hm9 => kN _ w9 ?_ ?_ ?_ ?_ ?_ ?_ hb9 hm9⟩
        · exact q13
        · exact q12
        · exact q11
        · exact q4
        · exact q5
        · exact q6
    refine e2 _ (fun ρ3 w9 q13 q12 q11 q4 q5 q6 hb9 hm9 => ?_) _ ?_ ?_ ?_ ?_ ?_ ?_ ?_
    · rw [bk_n, sq_n, bound_size_all_R3_eq]
      unfold bound_size_all_R3_F
      refine BKadd (a := m) (b := 1) q13 rfl (by omega) (by omega) ?_
      refine ⟨⟨m + 1, hlt, rfl, q12, q11, q4, q5, q6, ?_, hm24.trans hm9⟩, ?_⟩
      · rw [List.take_add_one, hx, Option.toList_some, St.bdF_snoc]; exact hb9
      · show l.length - (intOf (Value.int .i64 ((m : Int) + 1))).toNat < _
        simp only [intOf]; omega
    · exact h13
    · exact h12
    · exact h11
    · exact h4
    · exact h5
    · exact h6
    · rfl
  · obtain rfl : m = l.length := by omega
    rw [show decide (((l.length : Nat) : Int) < (l.length : Int)) = false by simp]
    refine condF ?_
    rw [List.take_length] at hb53
    rw [sq_x, bk_x, sq_n, bound_size_all_R1_eq]
    unfold bound_size_all_R1_F
    refine ldS (b := b5) (cs := (St.bdF n zBd l).cells.toArray) h5 Tryz.underlying42 rfl iBnd hb53 ?_
    refine stS (b := b4) (old := zBd.cells.toArray) (cs := (St.bdF n zBd l).cells.toArray) h4 rfl iBnd rfl (bd_one _) (hm3.blk hb12 (by omega)) fun w4 hb4' hm4 _ => ?_
    refine rtCell (b := b4) (cs := (St.bdF n zBd l).cells.toArray) ?_ Tryz.underlying42 rfl iBnd hb4' ⟨rfl, hm03.then hm4 fun i hi q => absurd q (by omega)⟩
    exact h4
theorem bd_set0 (e : Bd) (n : Int) : e.cells.toArray.setIfInBounds 0 (.int .i64 n) = (Bd.mk n e.c e.d).cells.toArray := by simp [Bd.cells]
theorem bd_set1 (e : Bd) (n : Int) : e.cells.toArray.setIfInBounds 1 (.int .i64 n) = (Bd.mk e.s n e.d).cells.toArray := by simp [Bd.cells]
theorem bd_set2 (e : Bd) (n : Int) : e.cells.toArray.setIfInBounds 2 (.int .i64 n) = (Bd.mk e.s e.c n).cells.toArray := by simp [Bd.cells]
/-- A bound's field, stored. -/
theorem bdSt {w : World} {b : Nat} {e : Bd} {ty : TypeId} (h : w.heap[b]? = some (.cells e.cells.toArray ty (0, 0))) {x : Value} {n : Int} {j : Nat} (hj : j < 3) (hx : x = .pointer (some ⟨b, j, none⟩)) {K : Value → World → Prop}
    (hk : ∀ w', w'.heap[b]? = some (.cells (e.cells.toArray.setIfInBounds j (.int .i64 n)) ty (0, 0)) → Mod (fun i => i = b) w w' → K undef w') : UK Tryz.prog (Instr.storeAt 3 x (.int .i64 n)) w K :=
  stC (o := j) hx (by kernel_rfl) rfl h (by simpa [Bd.cells] using hj) fun w' h1 h2 _ => hk w' h1 h2
theorem foBd {w : World} {K : Value → World → Prop} {x : Value} {b j : Nat} (hj : j < 3) (hx : x = .pointer (some ⟨b, 0, none⟩)) (hk : K (.pointer (some ⟨b, j, none⟩)) w) : VK Tryz.prog (Instr.fieldAt 42 x j) w K := by
  rw [hx]
  have : fieldOff Tryz.prog 42 j = some j := by
    match j, hj with
    | 0, _ => exact (show fieldOff Tryz.prog 42 0 = some 0 by kernel_rfl)
    | 1, _ => exact (show fieldOff Tryz.prog 42 1 = some 1 by kernel_rfl)
    | 2, _ => exact (show fieldOff Tryz.prog 42 2 = some 2 by kernel_rfl)
  rw [fo this, add_pl, Nat.zero_add]
  exact hk
theorem R5_W (z : Go.X.At) (K : Exit → Sl → World → Prop) (ρ : Sl) (w : World) : sx z Tryz.prog 74 bound_size_one_R5 K ρ w = W z Tryz.prog 74 bound_size_one_R5 K ρ w := by kernel_rfl
theorem one_of {n : Int} (hn : 1 ≤ n ∧ n ≤ 64) {e : St} (ihB : AllOk n e.body) (ihE : AllOk n e.els) : OneOk n e := by
  intro w hok hsz hmay
  obtain ⟨A, c, hs, _⟩ := reads_cap hok.exprs.1
  obtain ⟨hA, hO, hB, hE⟩ := bd_in hn e hmay hsz
  obtain ⟨_, mB, mE⟩ := may_parts hmay
  have htn := may_turns hmay
  rw [St.sz_eq] at hsz
  have hlx := Ex.len_sz e.exprs
  have hstx := Ex.stepsL_sz e.exprs
  refine bound_size_one_calls ?_
  unfold bound_size_one_F
  refine box_k (cs := e.cells.toArray) rfl fun w1 hb1 hm1 hz1 => ?_
  refine al_k zBnd rfl _ fun w2 hb2 hm2 hz2 => ?_
  rw [build_ok (bBd1 1)]
  refine lcl_k (cs := (Bd.mk 1 0 0).cells.toArray) zBnd _ iBnd rfl (bd_one _) fun w3 hb3 hm3 hz3 => ?_
  have h13 := (hm2.trans hm3).blk hb1 id
  have h23 := hm3.blk hb2 id
  have hm03 := (hm1.trans hm2).trans hm3
  have hf1 : w.heap.size < w1.heap.size := by omega
  have hf2 : w1.heap.size < w2.heap.size := by omega
  clear hm1 hb1 hm2 hb2 hm3 hz1 hz2 hz3
  generalize hE3 : w.heap.size = b3 at *
  generalize w1.heap.size = b4 at *
  generalize w2.heap.size = b5 at *
  have d5 : FAt Tryz.prog w3 62 5 ⟨b3, 0, none⟩ 60 (.slice A e.exprs.length c) := FAt.mk' (off := 5) (by kernel_rfl) uExs rfl (by rw [add_pl, cell_blk h13, ← hs]; rfl)
  refine d5.vk' fun _ => ?_
  rw [len60]
  -- the end
  have r4 : ∀ (ρ' : Sl) (w' : World) (b : Bd), ρ' 4 = pt b4 → ρ' 5 = pt b5 → w'.heap[b5]? = some (.cells b.cells.toArray 42 (0, 0)) → w'.heap[b4]? = some (.cells zBd.cells.toArray 42 (0, 0)) → b = e.bdO n → Mod none_ w w' →
      sx fn_ Tryz.prog 74 bound_size_one_R4 (retK Tryz.prog [ResultVar.cell 4 42] fun v w' => v = (e.bd n).v ∧ Mod none_ w w') ρ' w' := by
    intro ρ' w' b q4 q5 g5 g4 hb hm
    subst hb
    rw [bound_size_one_R4_eq]
    unfold bound_size_one_R4_F
    refine ldS (b := b5) (cs := (e.bdO n).cells.toArray) q5 Tryz.underlying42 rfl iBnd g5 ?_
    refine CK_st Tryz.func45 rfl rfl (Cut_ok _) ?_
    rintro _ w7 ⟨rfl, hm7⟩
    refine stS (b := b4) (old := zBd.cells.toArray) (cs := ((e.bdO n).cut).cells.toArray) q4 rfl iBnd rfl (bd_one _) (hm7.blk g4 id) fun w9 hb9 hm9 _ => ?_
    refine rtCell (b := b4) (cs := ((e.bdO n).cut).cells.toArray) ?_ Tryz.underlying42 rfl iBnd hb9 ⟨?_, (hm.trans hm7).then hm9 fun i hi q => absurd q (by omega)⟩
    · exact q4
    · rw [St.bd_eq]; rfl
  refine W_loop bound_size_one_L0_ok (fun ρ w' => ∃ m : Nat, m ≤ e.exprs.length ∧ ρ 14 = .int .i64 m ∧ ρ 13 = .int .i64 e.exprs.length ∧ ρ 12 = .slice A e.exprs.length c ∧ ρ 3 = pt b3 ∧ ρ 4 = pt b4 ∧ ρ 5 = pt b5 ∧ ρ 0 = .int .i64 n ∧ w'.heap[b5]? = some (.cells (Bd.mk (1 + Ex.stepsL (e.exprs.take m)) 0 0).cells.toArray 42 (0, 0)) ∧ Mod (fun i => i = b5) w3 w') (fun ρ _ => e.exprs.length - (intOf (ρ 14)).toNat)
    ⟨0, Nat.zero_le _, rfl, rfl, rfl, rfl, rfl, rfl, rfl, (by simpa [Ex.stepsL] using hb3), Mod.refl _ _⟩ ?_
  rintro ρ w4 ⟨m, hmn, h14, h13', h12, q3, q4, q5, q0, hb54, hm4⟩
  have hm04 : Mod none_ w w4 := hm03.then hm4 fun i hi q => by omega
  have h14' := hm4.blk h13 (by omega)
  have h24' := hm4.blk h23 (by omega)
  rw [bound_size_one_L0_eq]
  unfold bound_size_one_L0_F
  rw [h14, h13', h12]
  refine BKlss (a := m) (b := e.exprs.length) rfl rfl ?_
  by_cases hlt : m < e.exprs.length
  · rw [show decide ((m : Int) < (e.exprs.length : Int)) = true by rw [decide_eq_true_eq]; omega]
    refine condT ?_
    have hx : e.exprs[m]? = some e.exprs[m] := List.getElem?_eq_getElem hlt
    have hmem : e.exprs[m] ∈ e.exprs := List.getElem_mem hlt
    have hrow4 := hok.exprs.mod hm04
    rw [hs] at hrow4
    have hsn := Ex.szL_at hx
    have t1 := Ex.stepsL_sz (e.exprs.take m)
    have t2 := Ex.steps_sz e.exprs[m]
    refine ixEx hrow4 hx fun y => ?_
    refine lcl_k (cs := e.exprs[m].cells.toArray) zEx _ iEx rfl (ex_one (hrow4.at hx)) fun w5 hb7 hm5 hz5 => ?_
    have hb55 := hm5.blk hb54 id
    have hlt5 : b5 < w4.heap.size := X.blk_lt hb54
    have hm35 : Mod (fun i => i = b5) w3 w5 := hm4.trans (up0 hm5)
    have hok5 := (hrow4.at hx).mod hm5
    generalize w4.heap.size = b7 at *
    have e2 : ∀ (KK : Exit → Sl → World → Prop), (∀ (ρ3 : Sl) (w9 : World), ρ3 14 = .int .i64 m → ρ3 13 = .int .i64 e.exprs.length → ρ3 12 = .slice A e.exprs.length c → ρ3 3 = pt b3 → ρ3 4 = pt b4 → ρ3 5 = pt b5 → ρ3 0 = .int .i64 n → w9.heap[b5]? = some (.cells (Bd.mk (1 + Ex.stepsL (e.exprs.take m) + e.exprs[m].steps) 0 0).cells.toArray 42 (0, 0)) → Mod (fun i => i = b5) w5 w9 → KK .normal ρ3 w9) →
        ∀ (ρ2 : Sl), ρ2 14 = .int .i64 m → ρ2 13 = .int .i64 e.exprs.length → ρ2 12 = .slice A e.exprs.length c → ρ2 3 = pt b3 → ρ2 4 = pt b4 → ρ2 5 = pt b5 → ρ2 0 = .int .i64 n → ρ2 7 = pt b7 → W fn_ Tryz.prog 74 bound_size_one_R2 KK ρ2 w5 := by
      intro KK kN ρ2 p14 p13 p12 p3 p4 p5 p0 p7
      refine bound_size_one_R2_held (D := []) (fun w' => w'.heap[b7]? = some (.cells e.exprs[m].cells.toArray 85 (0, 0))) hb7 ?_
      unfold bound_size_one_R2_H
      have hbd7 : ({ w5 with drawn := w5.drawn + 1 } : World).heap[b7]? = some (.cells e.exprs[m].cells.toArray 85 (0, 0)) := hb7
      have hbd5 : ({ w5 with drawn := w5.drawn + 1 } : World).heap[b5]? = some (.cells (Bd.mk (1 + Ex.stepsL (e.exprs.take m)) 0 0).cells.toArray 42 (0, 0)) := hb55
      have hmd : Mod (fun i => i = b5) w5 { w5 with drawn := w5.drawn + 1 } := (Mod.refl _ w5).drawn _
      have hokd : e.exprs[m].Ok { w5 with drawn := w5.drawn + 1 } := hok5.mod ((Mod.refl none_ w5).drawn _)
      generalize ({ w5 with drawn := w5.drawn + 1 } : World) = wd at hbd7 hbd5 hmd hokd ⊢
      rw [p5, p7]
      have ad : ∀ w6 : World, Mod none_ wd w6 → ∀ (KN : Value → Value → World → Prop), (∀ u v w9, w9.heap[b5]? = some (.cells (Bd.mk (1 + Ex.stepsL (e.exprs.take m) + e.exprs[m].steps) 0 0).cells.toArray 42 (0, 0)) → Mod (fun i => i = b5) w5 w9 → KN u v w9) →
          HK Tryz.prog (fun w' => w'.heap[b7]? = some (.cells e.exprs[m].cells.toArray 85 (0, 0))) (do pure (Next.value (← (do eqGuard .add 3 (.tmp 19) (.tmp 21) (.int .i64 (1 + Ex.stepsL (e.exprs.take m))) (.int .i64 e.exprs[m].steps); binOp .add 3 (.int .i64 (1 + Ex.stepsL (e.exprs.take m))) (.int .i64 e.exprs[m].steps))))) fun x22 => HK Tryz.prog (fun w' => w'.heap[b7]? = some (.cells e.exprs[m].cells.toArray 85 (0, 0))) (do pure (Next.value (← Instr.fieldAt 42 (pt b5) 0))) fun x23 => UK Tryz.prog (Instr.storeAt 3 x23 x22) w6 fun _ w => w.heap[b7]? = some (.cells e.exprs[m].cells.toArray 85 (0, 0)) ∧ KN x22 x23 w := by
        intro w6 hm6 KN hk
        refine HB_of (v := .int .i64 (1 + Ex.stepsL (e.exprs.take m) + e.exprs[m].steps)) (fun _ => rfl) (fun w => by have := wrap_i (n := 1 + (Ex.stepsL (e.exprs.take m) : Int) + (e.exprs[m].steps : Int)) (by omega) (by omega); simp [go_sem, this]) ?_
        refine HV_of (fun w' _ => run_fo (off := 0) (by kernel_rfl) _ w') ?_
        rw [add_pl]
        refine bdSt (hm6.blk hbd5 id) (j := 0) (by decide) rfl fun w9 hb9 hm9 => ?_
        rw [bd_set0] at hb9
        exact ⟨hm9.blk (hm6.blk hbd7 id) (by omega), hk _ _ w9 hb9 ((hmd.trans (up0 hm6)).trans hm9)⟩
      refine HV_of (fun w' _ => run_fo (off := 0) (by kernel_rfl) _ w') (HV_of (v := .agg e.exprs[m].cells.toArray) (fun w' hw => run_ldB (cs := e.exprs[m].cells.toArray) Tryz.underlying85 rfl iEx hw) ⟨?_, ?_⟩)
      · refine ld1 (v := .int .i64 (1 + Ex.stepsL (e.exprs.take m))) uI rfl (by rw [add_pl, cell_blk hbd5]; rfl) ⟨hbd7, ?_⟩
        refine CK_st Tryz.func76 rfl rfl (bexpr_ok _ wd hokd (by omega)) ?_
        rintro _ w6 ⟨rfl, hm6⟩
        refine ⟨hm6.blk hbd7 id, ad w6 hm6 _ fun u v w9 hb9 hm9 => kN _ w9 ?_ ?_ ?_ ?_ ?_ ?_ ?_ hb9 hm9⟩
        · exact p14
        · exact p13
        · exact p12
        · exact p3
        · exact p4
        · exact p5
        · exact p0
      · refine CK_st Tryz.func76 rfl rfl (bexpr_ok _ wd hokd (by omega)) ?_
        rintro _ w6 ⟨rfl, hm6⟩
        refine ⟨hm6.blk hbd7 id, ?_⟩
        refine ld1 (v := .int .i64 (1 + Ex.stepsL (e.exprs.take m))) uI rfl (by rw [add_pl, cell_blk (hm6.blk hbd5 id)]; rfl) ⟨hm6.blk hbd7 id, ?_⟩
        refine ad w6 hm6 _ fun u v w9 hb9 hm9 => kN _ w9 ?_ ?_ ?_ ?_ ?_ ?_ ?_ hb9 hm9
        · exact p14
        · exact p13
        · exact p12
        · exact p3
        · exact p4
        · exact p5
        · exact p0
    refine e2 _ (fun ρ3 w9 p14 p13 p12 p3 p4 p5 p0 hb9 hm9 => ?_) _ ?_ ?_ ?_ ?_ ?_ ?_ ?_ ?_
    · rw [bk_n, sq_n, bound_size_one_R3_eq]
      unfold bound_size_one_R3_F
      refine BKadd (a := m) (b := 1) p14 rfl (by omega) (by omega) ?_
      refine ⟨⟨m + 1, hlt, rfl, p13, p12, p3, p4, p5, p0, ?_, hm35.trans hm9⟩, ?_⟩
      · rw [List.take_add_one, hx, Option.toList_some, Ex.stepsL_snoc]
        rw [show (1 : Int) + ((Ex.stepsL (e.exprs.take m) + e.exprs[m].steps : Nat) : Int) = 1 + Ex.stepsL (e.exprs.take m) + e.exprs[m].steps by omega]
        exact hb9
      · show e.exprs.length - (intOf (Value.int .i64 ((m : Int) + 1))).toNat < _
        simp only [intOf]; omega
    · exact h14
    · exact h13'
    · exact h12
    · exact q3
    · exact q4
    · exact q5
    · exact q0
    · rfl
  · obtain rfl : m = e.exprs.length := by omega
    rw [show decide (((e.exprs.length : Nat) : Int) < (e.exprs.length : Int)) = false by simp]
    refine condF ?_
    rw [List.take_length] at hb54
    rw [sq_x, bk_x, sq_n, bound_size_one_R1_eq]
    unfold bound_size_one_R1_F
    have hok4 := hok.mod hm04
    have d0 : FAt Tryz.prog w4 62 0 ⟨b3, 0, none⟩ 5 (.int .u8 e.op) := FAt.mk' (off := 0) (by kernel_rfl) uU8 rfl (by rw [add_pl, cell_blk h14']; rfl)
    have d4 : FAt Tryz.prog w4 62 4 ⟨b3, 0, none⟩ 3 (.int .i64 e.turns) := FAt.mk' (off := 4) (by kernel_rfl) uI rfl (by rw [add_pl, cell_blk h14']; rfl)
    have d6 : FAt Tryz.prog w4 62 6 ⟨b3, 0, none⟩ 23 e.bs := FAt.mk' (off := 6) (by kernel_rfl) uSts rfl (by rw [add_pl, cell_blk h14']; rfl)
    have hst1 : (Ex.stepsL e.exprs : Int) = Ex.stepsL e.exprs := rfl
    -- if: both blocks
    have r5 : ∀ (ρ' : Sl) (w5 : World) (b8 : Nat) (B' : Bd), e.op = 3 → B' = ⟨(St.bdF n zBd e.body).s + (if 0 < e.els.length then 1 else 0), (St.bdF n zBd e.body).c, (St.bdF n zBd e.body).d⟩ → w5.heap[b8]? = some (.cells B'.cells.toArray 42 (0, 0)) → b8 ≠ b5 → b8 ≠ b4 → Mod none_ w4 w5 ∨ True → w5.heap[b5]? = some (.cells (Bd.mk (1 + Ex.stepsL e.exprs) 0 0).cells.toArray 42 (0, 0)) → w5.heap[b4]? = some (.cells zBd.cells.toArray 42 (0, 0)) → w5.heap[b3]? = some (.cells e.cells.toArray 62 (0, 0)) → Mod none_ w w5 → ρ' 0 = .int .i64 n → ρ' 3 = pt b3 → ρ' 4 = pt b4 → ρ' 5 = pt b5 → ρ' 8 = pt b8 →
        sx fn_ Tryz.prog 74 bound_size_one_R5 (blkK 2 (seqK (sx fn_ Tryz.prog 74 bound_size_one_R4 (retK Tryz.prog [ResultVar.cell 4 42] fun v w' => v = (e.bd n).v ∧ Mod none_ w w')) (retK Tryz.prog [ResultVar.cell 4 42] fun v w' => v = (e.bd n).v ∧ Mod none_ w w'))) ρ' w5 := by
      intro ρ' w5 b8 B' k3 hB' g8 n85 n84 _ g5 g4 g3 hm05 p0 p3 p4 p5 p8
      have hB'in : B'.In 1048578 := by
        subst hB'
        obtain ⟨⟨x1, x2⟩, ⟨x3, x4⟩, x5, x6⟩ := hB
        refine ⟨⟨?_, ?_⟩, ⟨?_, ?_⟩, ?_, ?_⟩ <;> dsimp only <;> first | omega | (split <;> omega)
      have hor := hB'in.or (hE.mono (k := 1048578) (by decide))
      have hand : (Bd.and (Bd.mk (1 + Ex.stepsL e.exprs) 0 0) (B'.or (St.bdF n zBd e.els))).In 4398047560000 := by
        obtain ⟨⟨x1, x2⟩, ⟨x3, x4⟩, x5, x6⟩ := hor
        unfold Bd.and
        refine ⟨⟨?_, ?_⟩, ⟨?_, ?_⟩, ?_, ?_⟩ <;> dsimp only <;> omega
      have hres : Bd.and (Bd.mk (1 + Ex.stepsL e.exprs) 0 0) (B'.or (St.bdF n zBd e.els)) = e.bdO n := by
        unfold St.bdO oneB
        rw [if_pos k3, hB']
        simp [Bd.and, Bd.or]
      rw [R5_W]
      let S : World → Prop := fun w' => w'.heap[b8]? = some (.cells B'.cells.toArray 42 (0, 0)) ∧ w'.heap[b3]? = some (.cells e.cells.toArray 62 (0, 0))
      refine bound_size_one_R5_held (D := []) S ⟨g8, g3⟩ ?_
      unfold bound_size_one_R5_H
      have gd8 : ({ w5 with drawn := w5.drawn + 1 } : World).heap[b8]? = some (.cells B'.cells.toArray 42 (0, 0)) := g8
      have gd5 : ({ w5 with drawn := w5.drawn + 1 } : World).heap[b5]? = some (.cells (Bd.mk (1 + Ex.stepsL e.exprs) 0 0).cells.toArray 42 (0, 0)) := g5
      have gd4 : ({ w5 with drawn := w5.drawn + 1 } : World).heap[b4]? = some (.cells zBd.cells.toArray 42 (0, 0)) := g4
      have gd3 : ({ w5 with drawn := w5.drawn + 1 } : World).heap[b3]? = some (.cells e.cells.toArray 62 (0, 0)) := g3
      have hmd : Mod none_ w { w5 with drawn := w5.drawn + 1 } := hm05.drawn _
      generalize ({ w5 with drawn := w5.drawn + 1 } : World) = wd at gd8 gd5 gd4 gd3 hmd ⊢
      have hSd : ∀ w', Mod none_ wd w' → S w' := fun w' hw => ⟨hw.blk gd8 id, hw.blk gd3 id⟩
      rw [p8, p3, p5, p0]
      have hels := (hok.mod hmd).els
      have fin : ∀ (w6 : World) (x y : Value) (N : Value → World → Prop), Mod none_ wd w6 → x = (Bd.mk (1 + Ex.stepsL e.exprs) 0 0).v → y = (B'.or (St.bdF n zBd e.els)).v → (∀ u w9, w9.heap[b5]? = some (.cells (e.bdO n).cells.toArray 42 (0, 0)) → w9.heap[b4]? = some (.cells zBd.cells.toArray 42 (0, 0)) → Mod none_ w w9 → N u w9) →
          CK Tryz.prog (.func (.func 29) #[] #[]) [x, y] w6 fun u w => S w ∧ (UK Tryz.prog (Instr.storeAt 42 (pt b5) u) w fun _ w => S w ∧ N u w) := by
        rintro w6 _ _ N hm6 rfl rfl hN
        refine CK_st Tryz.func29 rfl rfl (And_ok hand (by decide)) ?_
        rintro _ w7 ⟨rfl, hm7⟩
        have hm67 := hm6.trans hm7
        refine ⟨hSd _ hm67, ?_⟩
        refine stS (b := b5) (old := (Bd.mk (1 + Ex.stepsL e.exprs) 0 0).cells.toArray) (cs := (e.bdO n).cells.toArray) rfl (by rw [hres]; rfl) iBnd rfl (bd_one _) (hm67.blk gd5 id) fun w9 hb9 hm9 _ => ?_
        exact ⟨⟨hm9.blk (hm67.blk gd8 id) n85, hm9.blk (hm67.blk gd3 id) (by omega)⟩, hN _ w9 hb9 (hm9.blk (hm67.blk gd4 id) (by omega)) ((hmd.trans hm67).then hm9 fun i hi q => absurd q (by omega))⟩
      have end_ : ∀ (ρ5 : Sl) (w9 : World), ρ5 4 = pt b4 → ρ5 5 = pt b5 → w9.heap[b5]? = some (.cells (e.bdO n).cells.toArray 42 (0, 0)) → w9.heap[b4]? = some (.cells zBd.cells.toArray 42 (0, 0)) → Mod none_ w w9 →
          blkK 2 (seqK (sx fn_ Tryz.prog 74 bound_size_one_R4 (retK Tryz.prog [ResultVar.cell 4 42] fun v w' => v = (e.bd n).v ∧ Mod none_ w w')) (retK Tryz.prog [ResultVar.cell 4 42] fun v w' => v = (e.bd n).v ∧ Mod none_ w w')) .normal ρ5 w9 := by
        intro ρ5 w9 t4 t5 h5 h4 hm
        rw [bk_n, sq_n]
        exact r4 _ w9 _ t4 t5 h5 h4 rfl hm
      have lx : ∀ w6, Mod none_ wd w6 → ∀ (KN : Value → World → Prop), KN (Bd.mk (1 + Ex.stepsL e.exprs) 0 0).v w6 → VK Tryz.prog (Instr.loadAt 42 (pt b5)) w6 KN := fun w6 hm6 KN hk =>
        ldS (b := b5) (cs := (Bd.mk (1 + Ex.stepsL e.exprs) 0 0).cells.toArray) rfl Tryz.underlying42 rfl iBnd (hm6.blk gd5 id) hk
      refine HV_of (v := B'.v) (fun w' hw => run_ldB (cs := B'.cells.toArray) Tryz.underlying42 rfl iBnd hw.1) ?_
      refine HV_of (fun w' _ => run_fo (off := 7) (by kernel_rfl) _ w') (HV_of (v := e.ls) (fun w' hw => run_ld1 uSts rfl (by rw [add_pl, cell_blk hw.2]; rfl)) ⟨?_, ?_⟩)
      · refine lx wd (Mod.refl _ _) _ ⟨hSd _ (Mod.refl _ _), ?_⟩
        refine CK_st Tryz.func28 rfl rfl (ihE wd _ hels (by omega) mE) ?_
        rintro _ w6 ⟨rfl, hm6⟩
        refine ⟨hSd _ hm6, ?_⟩
        refine CK_st Tryz.func77 rfl rfl (Or_ok _ _) ?_
        rintro _ w7 ⟨rfl, hm7⟩
        refine ⟨hSd _ (hm6.trans hm7), fin w7 _ _ _ (hm6.trans hm7) rfl rfl fun u w9 h5 h4 hm => end_ _ w9 ?_ ?_ h5 h4 hm⟩
        · exact p4
        · exact p5
      · refine CK_st Tryz.func28 rfl rfl (ihE wd _ hels (by omega) mE) ?_
        rintro _ w6 ⟨rfl, hm6⟩
        refine ⟨hSd _ hm6, ?_, ?_⟩
        · refine lx w6 hm6 _ ⟨hSd _ hm6, ?_⟩
          refine CK_st Tryz.func77 rfl rfl (Or_ok _ _) ?_
          rintro _ w7 ⟨rfl, hm7⟩
          refine ⟨hSd _ (hm6.trans hm7), fin w7 _ _ _ (hm6.trans hm7) rfl rfl fun u w9 h5 h4 hm => end_ _ w9 ?_ ?_ h5 h4 hm⟩
          · exact p4
          · exact p5
        · refine CK_st Tryz.func77 rfl rfl (Or_ok _ _) ?_
          rintro _ w7 ⟨rfl, hm7⟩
          refine ⟨hSd _ (hm6.trans hm7), ?_⟩
          refine lx w7 (hm6.trans hm7) _ ⟨hSd _ (hm6.trans hm7), ?_⟩
          refine fin w7 _ _ _ (hm6.trans hm7) rfl rfl fun u w9 h5 h4 hm => end_ _ w9 ?_ ?_ h5 h4 hm
          · exact p4
          · exact p5
    have r6 : ∀ (ρ' : Sl) (t : Int), e.op = 5 → ρ' 9 = .int .i64 t → t = (if e.turns = 0 then n else e.turns) → ρ' 0 = .int .i64 n → ρ' 3 = pt b3 → ρ' 4 = pt b4 → ρ' 5 = pt b5 →
        sx fn_ Tryz.prog 74 bound_size_one_R6 (blkK 2 (seqK (sx fn_ Tryz.prog 74 bound_size_one_R4 (retK Tryz.prog [ResultVar.cell 4 42] fun v w' => v = (e.bd n).v ∧ Mod none_ w w')) (retK Tryz.prog [ResultVar.cell 4 42] fun v w' => v = (e.bd n).v ∧ Mod none_ w w'))) ρ' w4 := by
      intro ρ' t k5 p9 ht p0 p3 p4 p5
      have ht2 : 0 ≤ t ∧ t ≤ 1000 := by rw [ht]; split <;> omega
      rw [bound_size_one_R6_eq]
      unfold bound_size_one_R6_F
      rw [p0, p9]
      refine d6.vs p3 fun _ => ?_
      refine CK_st Tryz.func28 rfl rfl (ihB w4 _ hok4.body (by omega) mB) ?_
      rintro _ w5 ⟨rfl, hm5⟩
      rw [build_ok (bBd1 9)]
      have i1 : ((St.bdF n zBd e.body).and (Bd.mk 9 0 0)).In 1048586 := by
        obtain ⟨⟨x1, x2⟩, ⟨x3, x4⟩, x5, x6⟩ := hB
        unfold Bd.and
        refine ⟨⟨?_, ?_⟩, ⟨?_, ?_⟩, ?_, ?_⟩ <;> dsimp only <;> omega
      have i2 := i1.times ht2
      have i3 : ((((St.bdF n zBd e.body).and (Bd.mk 9 0 0)).times t).and (Bd.mk 6 0 0)).In 1048586006 := by
        obtain ⟨⟨x1, x2⟩, ⟨x3, x4⟩, x5, x6⟩ := i2
        unfold Bd.and at *
        refine ⟨⟨?_, ?_⟩, ⟨?_, ?_⟩, ?_, ?_⟩ <;> dsimp only at * <;> omega
      refine CK_st Tryz.func29 rfl rfl (And_ok (b := Bd.mk 9 0 0) i1 (by decide)) ?_
      rintro _ w6 ⟨rfl, hm6⟩
      refine CK_st Tryz.func78 rfl rfl (Times_ok i2 (by decide)) ?_
      rintro _ w7 ⟨rfl, hm7⟩
      rw [build_ok (bBd1 6)]
      refine CK_st Tryz.func29 rfl rfl (And_ok (b := Bd.mk 6 0 0) i3 (by decide)) ?_
      rintro _ w8 ⟨rfl, hm8⟩
      have hm48 := ((hm5.trans hm6).trans hm7).trans hm8
      have hres : ((((St.bdF n zBd e.body).and (Bd.mk 9 0 0)).times t).and (Bd.mk 6 0 0)) = e.bdO n := by
        unfold St.bdO oneB
        rw [if_neg (by omega), if_pos k5, ← ht]
        simp [Bd.and, Bd.times]
      refine stS (b := b5) (old := (Bd.mk (1 + Ex.stepsL e.exprs) 0 0).cells.toArray) (cs := (e.bdO n).cells.toArray) p5 (by rw [hres]; rfl) iBnd rfl (bd_one _) (hm48.blk hb54 id) fun w9 hb9 hm9 _ => ?_
      rw [bk_n, sq_n]
      refine r4 _ w9 _ ?_ ?_ hb9 (hm9.blk (hm48.blk h24' id) (by omega)) rfl ((hm04.trans hm48).then hm9 fun i hi q => absurd q (by omega))
      · exact p4
      · exact p5
    refine d0.vs q3 fun _ => ?_
    refine BKeqI (a := e.op) (b := 3) rfl rfl (fun k3 => condT ?_) (fun k3 => condF ?_)
    · refine d6.vs ?_ fun _ => ?_
      · exact q3
      refine CK_eq (bs := [.int .i64 n, e.bs]) rfl ?_ (CK_st Tryz.func28 rfl rfl (ihB w4 _ hok4.body (by omega) mB) ?_)
      · exact congrArg (fun z => [z, e.bs]) q0
      rintro _ w5 ⟨rfl, hm5⟩
      refine lcl_k (cs := (St.bdF n zBd e.body).cells.toArray) zBnd _ iBnd rfl (bd_one _) fun w6 hb6 hm6 hz6 => ?_
      have hm46 := hm5.trans hm6
      have l5 : b5 < w5.heap.size := by have := X.blk_lt hb54; have := hm5.size; omega
      generalize w5.heap.size = b8 at *
      obtain ⟨A7, c7, hs7, _⟩ := reads_cap hok4.els.1
      have g3 := hm46.blk h14' id
      have d7 : FAt Tryz.prog w6 62 7 ⟨b3, 0, none⟩ 23 (.slice A7 e.els.length c7) := FAt.mk' (off := 7) (by kernel_rfl) uSts rfl (by rw [add_pl, cell_blk g3, ← hs7]; rfl)
      refine d7.vs ?_ fun _ => ?_
      · exact q3
      rw [len23]
      refine BKgtr (a := e.els.length) (b := 0) rfl rfl ?_
      by_cases hle : 0 < e.els.length
      · rw [show decide ((0 : Int) < (e.els.length : Int)) = true by rw [decide_eq_true_eq]; omega]
        refine condT ?_
        refine (bdF hb6).1.vk' fun _ => ?_
        have := hB.1
        refine BKadd (a := (St.bdF n zBd e.body).s) (b := 1) rfl rfl (by omega) (by omega) ?_
        refine foBd (j := 0) (by decide) rfl ?_
        refine bdSt hb6 (j := 0) (by decide) rfl fun w7 hb7 hm7 => ?_
        rw [bd_set0] at hb7
        refine r5 _ w7 b8 _ k3 (by rw [if_pos hle]) hb7 (by omega) (by omega) (Or.inr trivial) (hm7.blk (hm46.blk hb54 id) (by omega)) (hm7.blk (hm46.blk h24' id) (by omega)) (hm7.blk g3 (by omega)) ((hm04.trans hm46).then hm7 fun i hi q => absurd q (by omega)) ?_ ?_ ?_ ?_ ?_
        · exact q0
        · exact q3
        · exact q4
        · exact q5
        · rfl
      · rw [show decide ((0 : Int) < (e.els.length : Int)) = false by rw [decide_eq_false_iff_not]; omega]
        refine condF ?_
        refine r5 _ w6 b8 (St.bdF n zBd e.body) k3 (by rw [if_neg hle, Int.add_zero]) hb6 (by omega) (by omega) (Or.inr trivial) (hm46.blk hb54 id) (hm46.blk h24' id) g3 (hm04.trans hm46) ?_ ?_ ?_ ?_ ?_
        · exact q0
        · exact q3
        · exact q4
        · exact q5
        · rfl
    refine BKeqI (a := e.op) (b := 5) rfl rfl (fun k5 => condT ?_) (fun k5 => condF ?_)
    · refine d4.vs ?_ fun _ => ?_
      · exact q3
      refine BKeqI (a := e.turns) (b := 0) rfl rfl (fun kt => condT ?_) (fun kt => condF ?_)
      · refine r6 _ n k5 ?_ (by rw [if_pos kt]) ?_ ?_ ?_ ?_
        · exact q0
        · exact q0
        · exact q3
        · exact q4
        · exact q5
      · refine r6 _ e.turns k5 rfl (by rw [if_neg kt]) ?_ ?_ ?_ ?_
        · exact q0
        · exact q3
        · exact q4
        · exact q5
    refine BKeqI (a := e.op) (b := 8) rfl rfl (fun k8 => condT ?_) (fun k8 => condF ?_)
    · refine foBd (j := 1) (by decide) (b := b5) ?_ ?_
      · exact q5
      refine bdSt hb54 (j := 1) (by decide) rfl fun w5 hb5' hm5 => ?_
      rw [bd_set1] at hb5'
      have g3 := hm5.blk h14' (by omega)
      refine ldS (b := b3) (cs := e.cells.toArray) ?_ Tryz.underlying62 rfl iSt g3 ?_
      · exact q3
      have hm05 : Mod none_ w w5 := hm04.then hm5 fun i hi q => absurd q (by omega)
      refine CK_st Tryz.func79 rfl rfl (Decides_ok (hok.mod hm05)) ?_
      rintro _ w6 ⟨rfl, hm6⟩
      have g56 := hm6.blk hb5' id
      have g46 := hm6.blk (hm5.blk h24' (by omega)) id
      refine caseC (fun hd => ?_) (fun hd => ?_)
      · refine foBd (j := 2) (by decide) (b := b5) ?_ ?_
        · exact q5
        refine bdSt g56 (j := 2) (by decide) rfl fun w7 hb7 hm7 => ?_
        rw [bd_set2] at hb7
        refine r4 _ w7 _ ?_ ?_ hb7 (hm7.blk g46 (by omega)) ?_ ((hm05.trans hm6).then hm7 fun i hi q => absurd q (by omega))
        · exact q4
        · exact q5
        · unfold St.bdO oneB
          rw [if_neg k3, if_neg k5, if_pos k8, hd]; rfl
      · refine r4 _ w6 _ ?_ ?_ g56 g46 ?_ (hm05.trans hm6)
        · exact q4
        · exact q5
        · unfold St.bdO oneB
          rw [if_neg k3, if_neg k5, if_pos k8, hd]; rfl
    · refine r4 _ w4 _ ?_ ?_ hb54 h24' ?_ hm04
      · exact q4
      · exact q5
      · unfold St.bdO oneB
        rw [if_neg k3, if_neg k5, if_neg k8]
theorem all_of {n : Int} (hn : 1 ≤ n ∧ n ≤ 64) : ∀ e : St, AllOk n e.body ∧ AllOk n e.els := by
  intro e
  induction e using St.ind with
  | h e ih1 ih2 => exact ⟨all_row hn fun a ha => one_of hn (ih1 a ha).1 (ih1 a ha).2, all_row hn fun a ha => one_of hn (ih2 a ha).1 (ih2 a ha).2⟩
theorem All_ok {n : Int} (hn : 1 ≤ n ∧ n ≤ 64) (l : List St) : AllOk n l := all_row hn fun a _ => one_of hn (all_of hn a).1 (all_of hn a).2
end Go.Proofs.YtpkfbaagpjdifaaGreatDoor.Tr
set_option linter.unusedVariables false
set_option linter.unusedSimpArgs false
set_option maxRecDepth 4000
namespace Go.Proofs.YtpkfbaagpjdifaaGreatDoor.Tr
open Go Go.X Go.RowKit Go.Proofs.YtpkfbaagpjdifaaGreatDoor.XH Go.Proofs.YtpkfbaagpjdifaaGreatDoor.XK
theorem HixEx {C : World → Prop} {s : Value} {l : List Ex} {i : Nat} {e : Ex} {K : Value → Prop} {w0 : World} (hw0 : C w0) (h : ∀ w, C w → ExsOk w s l) (hi : l[i]? = some e) (hk : ∀ a, (∀ w, C w → ∀ j u, e.cells[j]? = some u → w.cell? (a.add j) = some u) → K (.pointer (some a))) :
    HK Tryz.prog C (do pure (Next.value (← Instr.indexAt 60 s (.int .i64 (i : Int))))) K := by
  have hlt : i < l.length := (List.getElem?_eq_some_iff.1 hi).1
  obtain ⟨hl, A, c, hs, hc, hr⟩ := (h w0 hw0).1
  obtain ⟨a, ha | q⟩ := rd_cell (size := 6) (hs ▸ (h w0 hw0).1) hlt
  · subst ha
    subst hs
    refine HV_of (fun w _ => run_ixa uExs cEx (by omega) (by omega) w) (hk _ fun w hw j u hu => ?_)
    obtain ⟨_, A', c', hs', _, hr'⟩ := (h w hw).1
    cases hs'
    have hj : j < 5 + 1 := (List.getElem?_eq_some_iff.1 hu).1
    obtain ⟨a', ha', hcell⟩ := hr' (i * 6 + j) u (by rw [fl_get (k := 5 + 1) Ex.cells_len hi hj]; exact hu)
    cases ha'
    rw [add_add, show ((i : Int).toNat) = i by omega]
    exact hcell
  · omega
def StmtR (n : Int) (e : St) : Prop := ∀ w : World, e.Ok w → e.sz ≤ 1099511627776 → e.may = true → Rt Tryz.prog 54 #[.agg e.cells.toArray, .int .i64 n] w fun v w' => v = (e.bd n).v ∧ Mod none_ w w'
def StmtsR (n : Int) (l : List St) : Prop := ∀ (w : World) (s : Value), StsOk w s l → St.szL l ≤ 1099511627776 → (∀ a ∈ l, a.may = true) → Rt Tryz.prog 36 #[s, .int .i64 n] w fun v w' => v = (St.bdF n zBd l).v ∧ Mod none_ w w'
theorem stmtsR_row {n : Int} (hn : 1 ≤ n ∧ n ≤ 64) {l : List St} (ih : ∀ a ∈ l, StmtR n a) : StmtsR n l := by
  intro w s hok hsz hmay
  obtain ⟨A, c, hs, _⟩ := reads_cap hok.1
  have hlen := St.len_sz l
  refine dispatcherref09_stmts_calls ?_
  unfold dispatcherref09_stmts_F
  refine al_k zBnd rfl _ fun w1 hb1 hm1 hz1 => ?_
  refine al_k zBnd rfl _ fun w2 hb2 hm2 hz2 => ?_
  have hb12 := hm2.blk hb1 id
  have hm02 := hm1.trans hm2
  generalize hb4 : w.heap.size = b4 at *
  generalize hb5 : w1.heap.size = b5 at *
  have hin : ∀ m : Nat, (St.bdF n zBd (l.take m)).In 1048577 := fun m => bdF_in (fun a ha => by
    obtain ⟨i, hi⟩ := List.getElem?_of_mem (List.mem_of_mem_take ha)
    have := St.szL_at hi
    exact (bd_in hn a (hmay a (List.mem_of_mem_take ha)) (by omega)).1) (zBd_in _ (by decide))
  refine W_loop dispatcherref09_stmts_L0_ok (fun ρ w' => ∃ m : Nat, m ≤ l.length ∧ ρ 6 = .int .i64 m ∧ ρ 0 = .slice A l.length c ∧ ρ 1 = .int .i64 n ∧ ρ 4 = pt b4 ∧ ρ 5 = pt b5 ∧ w'.heap[b5]? = some (.cells (St.bdF n zBd (l.take m)).cells.toArray 42 (0, 0)) ∧ Mod (fun i => i = b5) w2 w') (fun ρ _ => l.length - (intOf (ρ 6)).toNat)
    ⟨0, Nat.zero_le _, rfl, hs, rfl, rfl, rfl, hb2, Mod.refl _ _⟩ ?_
  rintro ρ w3 ⟨m, hmn, h6, h0, h1, h4, h5, hb53, hm3⟩
  have hm03 : Mod none_ w w3 := hm02.then hm3 fun i hi q => absurd q (by omega)
  rw [dispatcherref09_stmts_L0_eq]
  unfold dispatcherref09_stmts_L0_F
  rw [h0, h6, h1, h5, len23]
  refine BKlss (a := m) (b := l.length) rfl rfl ?_
  by_cases hlt : m < l.length
  · rw [show decide ((m : Int) < (l.length : Int)) = true by rw [decide_eq_true_eq]; omega]
    refine condT ?_
    have hx : l[m]? = some l[m] := List.getElem?_eq_getElem hlt
    have hmem : l[m] ∈ l := List.getElem_mem hlt
    have hok3 := hok.mod hm03
    rw [hs] at hok3
    have hsn := St.szL_at hx
    refine ixSt hok3 hx fun y => ?_
    refine CK_st Tryz.func54 rfl rfl (ih _ hmem w3 (hok3.at hx) (by omega) (hmay _ hmem)) ?_
    rintro _ w4 ⟨rfl, hm4⟩
    refine lcl_k (cs := (l[m].bd n).cells.toArray) zBnd _ iBnd rfl (bd_one _) fun w5 hb7 hm5 hz5 => ?_
    have hbd := (bd_in hn l[m] (hmay _ hmem) (by omega)).1
    have hsum := (hin m).and hbd
    have g5 := hm5.blk (hm4.blk hb53 id) id
    have l5 : b5 < w4.heap.size := by have := X.blk_lt hb53; have := hm4.size; omega
    have hm25 : Mod (fun i => i = b5) w2 w5 := (hm3.trans (up0 hm4)).trans (up0 hm5)
    generalize w4.heap.size = b7 at *
    generalize hBm : St.bdF n zBd (l.take m) = Bm at *
    generalize hbm : l[m].bd n = bm at *
    refine (bdF g5).1.vk' fun _ => (bdF hb7).1.vk' fun _ => ?_
    refine BKadd (a := Bm.s) (b := bm.s) rfl rfl (by have := hsum.1; unfold Bd.and at this; dsimp only at this; omega) (by have := hsum.1; unfold Bd.and at this; dsimp only at this; omega) ?_
    refine foBd (j := 0) (by decide) rfl ?_
    refine bdSt g5 (j := 0) (by decide) rfl fun w6 g6 hm6 => ?_
    rw [bd_set0] at g6
    have k7 := hm6.blk hb7 (by omega)
    refine (bdF g6).2.1.vk' fun _ => (bdF k7).2.1.vk' fun _ => ?_
    refine BKadd (a := Bm.c) (b := bm.c) rfl rfl (by have := hsum.2.1; unfold Bd.and at this; dsimp only at this; omega) (by have := hsum.2.1; unfold Bd.and at this; dsimp only at this; omega) ?_
    refine foBd (j := 1) (by decide) rfl ?_
    refine bdSt g6 (j := 1) (by decide) rfl fun w7 g7 hm7 => ?_
    rw [bd_set1] at g7
    have k8 := hm7.blk k7 (by omega)
    refine (bdF g7).2.2.vk' fun _ => (bdF k8).2.2.vk' fun _ => ?_
    refine BKadd (a := Bm.d) (b := bm.d) rfl rfl (by have := hsum.2.2; unfold Bd.and at this; dsimp only at this; omega) (by have := hsum.2.2; unfold Bd.and at this; dsimp only at this; omega) ?_
    refine foBd (j := 2) (by decide) rfl ?_
    refine bdSt g7 (j := 2) (by decide) rfl fun w8 g8 hm8 => ?_
    rw [bd_set2] at g8
    have g8' : w8.heap[b5]? = some (.cells (Bm.and bm).cells.toArray 42 (0, 0)) := g8
    refine ldS (b := b5) (cs := (Bm.and bm).cells.toArray) rfl Tryz.underlying42 rfl iBnd g8' ?_
    refine CK_st Tryz.func55 rfl rfl (CutR_ok (Bm.and bm)) ?_
    rintro _ w9 ⟨rfl, hm9⟩
    refine stS (b := b5) (old := (Bm.and bm).cells.toArray) (cs := ((Bm.and bm).cut).cells.toArray) rfl rfl iBnd rfl (bd_one _) (hm9.blk g8' id) fun w10 g10 hm10 _ => ?_
    refine BKadd (a := m) (b := 1) rfl rfl (by omega) (by omega) ?_
    refine ⟨⟨m + 1, hlt, rfl, ?_, ?_, ?_, ?_, ?_, ((((hm25.trans hm6).trans hm7).trans hm8).trans (up0 hm9)).trans hm10⟩, ?_⟩
    · exact h0
    · exact h1
    · exact h4
    · exact h5
    · rw [List.take_add_one, hx, Option.toList_some, St.bdF_snoc, hBm, hbm]; exact g10
    · show l.length - (intOf (Value.int .i64 ((m : Int) + 1))).toNat < _
      simp only [intOf]; omega
  · obtain rfl : m = l.length := by omega
    rw [show decide (((l.length : Nat) : Int) < (l.length : Int)) = false by simp]
    refine condF ?_
    rw [List.take_length] at hb53
    rw [sq_x, bk_x, sq_n, dispatcherref09_stmts_R1_eq]
    unfold dispatcherref09_stmts_R1_F
    refine ldS (b := b5) (cs := (St.bdF n zBd l).cells.toArray) ?_ Tryz.underlying42 rfl iBnd hb53 ?_
    · exact h5
    refine stS (b := b4) (old := zBd.cells.toArray) (cs := (St.bdF n zBd l).cells.toArray) ?_ rfl iBnd rfl (bd_one _) (hm3.blk hb12 (by omega)) fun w4 hb4' hm4 _ => ?_
    · exact h4
    refine rtCell (b := b4) (cs := (St.bdF n zBd l).cells.toArray) ?_ Tryz.underlying42 rfl iBnd hb4' ⟨rfl, hm03.then hm4 fun i hi q => absurd q (by omega)⟩
    exact h4
theorem stmtR_of {n : Int} (hn : 1 ≤ n ∧ n ≤ 64) {e : St} (ihB : StmtsR n e.body) (ihE : StmtsR n e.els) : StmtR n e := by
  intro w hok hsz hmay
  obtain ⟨A, c, hs, _⟩ := reads_cap hok.exprs.1
  obtain ⟨hA, hO, hB, hE⟩ := bd_in hn e hmay hsz
  obtain ⟨mX, mB, mE⟩ := may_parts hmay
  have htn := may_turns hmay
  rw [St.sz_eq] at hsz
  have hlx := Ex.len_sz e.exprs
  have hstx := Ex.stepsL_sz e.exprs
  refine dispatcherref09_stmt_calls ?_
  unfold dispatcherref09_stmt_F
  refine box_k (cs := e.cells.toArray) rfl fun w1 hb1 hm1 hz1 => ?_
  refine al_k zBnd rfl _ fun w2 hb2 hm2 hz2 => ?_
  refine al_k zBnd rfl _ fun w3 hb3 hm3 hz3 => ?_
  have h13 := (hm2.trans hm3).blk hb1 id
  have h23 := hm3.blk hb2 id
  have hm03 := (hm1.trans hm2).trans hm3
  have hf1 : w.heap.size < w1.heap.size := by omega
  have hf2 : w1.heap.size < w2.heap.size := by omega
  clear hm1 hb1 hm2 hb2 hm3 hz1 hz2 hz3
  generalize hE3 : w.heap.size = b3 at *
  generalize w1.heap.size = b4 at *
  generalize w2.heap.size = b5 at *
  -- the end
  have r4 : ∀ (ρ' : Sl) (w' : World) (b : Bd), ρ' 4 = pt b4 → ρ' 5 = pt b5 → w'.heap[b5]? = some (.cells b.cells.toArray 42 (0, 0)) → w'.heap[b4]? = some (.cells zBd.cells.toArray 42 (0, 0)) → b = e.bdO n → Mod none_ w w' →
      sx fn_ Tryz.prog 109 dispatcherref09_stmt_R4 (retK Tryz.prog [ResultVar.cell 4 42] fun v w' => v = (e.bd n).v ∧ Mod none_ w w') ρ' w' := by
    intro ρ' w' b q4 q5 g5 g4 hb hm
    subst hb
    rw [dispatcherref09_stmt_R4_eq]
    unfold dispatcherref09_stmt_R4_F
    refine ldS (b := b5) (cs := (e.bdO n).cells.toArray) q5 Tryz.underlying42 rfl iBnd g5 ?_
    refine CK_st Tryz.func55 rfl rfl (CutR_ok _) ?_
    rintro _ w7 ⟨rfl, hm7⟩
    refine stS (b := b4) (old := zBd.cells.toArray) (cs := ((e.bdO n).cut).cells.toArray) q4 rfl iBnd rfl (bd_one _) (hm7.blk g4 id) fun w9 hb9 hm9 _ => ?_
    refine rtCell (b := b4) (cs := ((e.bdO n).cut).cells.toArray) ?_ Tryz.underlying42 rfl iBnd hb9 ⟨?_, (hm.trans hm7).then hm9 fun i hi q => absurd q (by omega)⟩
    · exact q4
    · rw [St.bd_eq]; rfl
  refine W_loop dispatcherref09_stmt_L0_ok (fun ρ w' => ∃ m : Nat, m ≤ e.exprs.length ∧ ρ 6 = .int .i64 m ∧ ρ 2 = pt b3 ∧ ρ 4 = pt b4 ∧ ρ 5 = pt b5 ∧ ρ 1 = .int .i64 n ∧ w'.heap[b5]? = some (.cells (Bd.mk (Ex.stepsL (e.exprs.take m)) 0 0).cells.toArray 42 (0, 0)) ∧ Mod (fun i => i = b5) w3 w') (fun ρ _ => e.exprs.length - (intOf (ρ 6)).toNat)
    ⟨0, Nat.zero_le _, rfl, rfl, rfl, rfl, rfl, (by rw [List.take_zero]; exact hb3), Mod.refl _ _⟩ ?_
  rintro ρ w4 ⟨m, hmn, h6, q2, q4, q5, q1, hb54, hm4⟩
  have hm04 : Mod none_ w w4 := hm03.then hm4 fun i hi q => by omega
  have h14' := hm4.blk h13 (by omega)
  have h24' := hm4.blk h23 (by omega)
  have d5 : FAt Tryz.prog w4 62 5 ⟨b3, 0, none⟩ 60 (.slice A e.exprs.length c) := FAt.mk' (off := 5) (by kernel_rfl) uExs rfl (by rw [add_pl, cell_blk h14', ← hs]; rfl)
  rw [dispatcherref09_stmt_L0_eq]
  unfold dispatcherref09_stmt_L0_F
  rw [h6]
  refine d5.vs q2 fun _ => ?_
  rw [len60]
  refine BKlss (a := m) (b := e.exprs.length) rfl rfl ?_
  by_cases hlt : m < e.exprs.length
  · rw [show decide ((m : Int) < (e.exprs.length : Int)) = true by rw [decide_eq_true_eq]; omega]
    refine condT ?_
    have hx : e.exprs[m]? = some e.exprs[m] := List.getElem?_eq_getElem hlt
    have hmem : e.exprs[m] ∈ e.exprs := List.getElem_mem hlt
    have hsn := Ex.szL_at hx
    have t1 := Ex.stepsL_sz (e.exprs.take m)
    have t2 := Ex.steps_sz e.exprs[m]
    have e2 : ∀ (KK : Exit → Sl → World → Prop), (∀ (ρ3 : Sl) (w9 : World), ρ3 6 = .int .i64 m → ρ3 2 = pt b3 → ρ3 4 = pt b4 → ρ3 5 = pt b5 → ρ3 1 = .int .i64 n → w9.heap[b5]? = some (.cells (Bd.mk (Ex.stepsL (e.exprs.take m) + e.exprs[m].steps) 0 0).cells.toArray 42 (0, 0)) → Mod (fun i => i = b5) w4 w9 → KK .normal ρ3 w9) →
        ∀ (ρ2 : Sl), ρ2 6 = .int .i64 m → ρ2 2 = pt b3 → ρ2 4 = pt b4 → ρ2 5 = pt b5 → ρ2 1 = .int .i64 n → W fn_ Tryz.prog 109 dispatcherref09_stmt_R2 KK ρ2 w4 := by
      intro KK kN ρ2 p6 p2 p4 p5 p1
      let S : World → Prop := fun w' => Mod none_ w w' ∧ w'.heap[b3]? = some (.cells e.cells.toArray 62 (0, 0))
      have hS0 : S { w4 with drawn := w4.drawn + 1 } := ⟨hm04.drawn _, h14'⟩
      refine dispatcherref09_stmt_R2_held (D := []) S hS0 ?_
      unfold dispatcherref09_stmt_R2_H
      have hbd5 : ({ w4 with drawn := w4.drawn + 1 } : World).heap[b5]? = some (.cells (Bd.mk (Ex.stepsL (e.exprs.take m)) 0 0).cells.toArray 42 (0, 0)) := hb54
      have hmd : Mod (fun i => i = b5) w4 { w4 with drawn := w4.drawn + 1 } := (Mod.refl _ w4).drawn _
      generalize ({ w4 with drawn := w4.drawn + 1 } : World) = wd at hS0 hbd5 hmd ⊢
      rw [p5, p2, p6]
      have hSd : ∀ w', Mod none_ wd w' → S w' := fun w' hw => ⟨hS0.1.trans hw, hw.blk hS0.2 id⟩
      have hrow : ∀ w', S w' → ExsOk w' (.slice A e.exprs.length c) e.exprs := fun w' hw => by rw [← hs]; exact hok.exprs.mod hw.1
      have ad : ∀ w6 : World, Mod none_ wd w6 → ∀ (KN : Value → Value → World → Prop), (∀ u v w9, w9.heap[b5]? = some (.cells (Bd.mk (Ex.stepsL (e.exprs.take m) + e.exprs[m].steps) 0 0).cells.toArray 42 (0, 0)) → Mod (fun i => i = b5) w4 w9 → KN u v w9) →
          HK Tryz.prog S (do pure (Next.value (← (do eqGuard .add 3 (.tmp 18) (.tmp 24) (.int .i64 (Ex.stepsL (e.exprs.take m))) (.int .i64 e.exprs[m].steps); binOp .add 3 (.int .i64 (Ex.stepsL (e.exprs.take m))) (.int .i64 e.exprs[m].steps))))) fun x22 => HK Tryz.prog S (do pure (Next.value (← Instr.fieldAt 42 (pt b5) 0))) fun x23 => UK Tryz.prog (Instr.storeAt 3 x23 x22) w6 fun _ w => S w ∧ KN x22 x23 w := by
        intro w6 hm6 KN hk
        refine HB_of (v := .int .i64 (Ex.stepsL (e.exprs.take m) + e.exprs[m].steps)) (fun _ => rfl) (fun w => by have := wrap_i (n := (Ex.stepsL (e.exprs.take m) : Int) + (e.exprs[m].steps : Int)) (by omega) (by omega); simp [go_sem, this]) ?_
        refine HV_of (fun w' _ => run_fo (off := 0) (by kernel_rfl) _ w') ?_
        rw [add_pl]
        refine bdSt (hm6.blk hbd5 id) (j := 0) (by decide) rfl fun w9 hb9 hm9 => ?_
        rw [bd_set0] at hb9
        have h6 := hSd w6 hm6
        exact ⟨⟨h6.1.then hm9 fun i hi q => absurd q (by omega), hm9.blk h6.2 (by omega)⟩, hk _ _ w9 hb9 ((hmd.trans (up0 hm6)).trans hm9)⟩
      refine HV_of (fun w' _ => run_fo (off := 0) (by kernel_rfl) _ w') ?_
      refine HV_of (fun w' _ => run_fo (off := 5) (by kernel_rfl) _ w') (HV_of (v := .slice A e.exprs.length c) (fun w' hw => run_ld1 uExs rfl (by rw [add_pl, cell_blk hw.2, ← hs]; rfl)) ?_)
      refine HixEx (w0 := wd) hS0 hrow hx fun a ha => ?_
      refine HV_of (v := .agg e.exprs[m].cells.toArray) (fun w' hw => run_ldA (cs := e.exprs[m].cells) Tryz.underlying85 rfl iEx (ha w' hw)) ⟨?_, ?_⟩
      · refine ld1 (v := .int .i64 (Ex.stepsL (e.exprs.take m))) uI rfl (by rw [add_pl, cell_blk hbd5]; rfl) ⟨hS0, ?_⟩
        refine CK_st Tryz.func83 rfl rfl (exprR_ok _ wd ((hrow wd hS0).at hx) (by omega) (mX _ hmem)) ?_
        rintro _ w6 ⟨rfl, hm6⟩
        refine ⟨hSd w6 hm6, ad w6 hm6 _ fun u v w9 hb9 hm9 => kN _ w9 ?_ ?_ ?_ ?_ ?_ hb9 hm9⟩
        · exact p6
        · exact p2
        · exact p4
        · exact p5
        · exact p1
      · refine CK_st Tryz.func83 rfl rfl (exprR_ok _ wd ((hrow wd hS0).at hx) (by omega) (mX _ hmem)) ?_
        rintro _ w6 ⟨rfl, hm6⟩
        refine ⟨hSd w6 hm6, ?_⟩
        refine ld1 (v := .int .i64 (Ex.stepsL (e.exprs.take m))) uI rfl (by rw [add_pl, cell_blk (hm6.blk hbd5 id)]; rfl) ⟨hSd w6 hm6, ?_⟩
        refine ad w6 hm6 _ fun u v w9 hb9 hm9 => kN _ w9 ?_ ?_ ?_ ?_ ?_ hb9 hm9
        · exact p6
        · exact p2
        · exact p4
        · exact p5
        · exact p1
    refine e2 _ (fun ρ3 w9 p6 p2 p4 p5 p1 hb9 hm9 => ?_) _ ?_ ?_ ?_ ?_ ?_
    · rw [bk_n, sq_n, dispatcherref09_stmt_R3_eq]
      unfold dispatcherref09_stmt_R3_F
      refine BKadd (a := m) (b := 1) p6 rfl (by omega) (by omega) ?_
      refine ⟨⟨m + 1, hlt, rfl, p2, p4, p5, p1, ?_, hm4.trans hm9⟩, ?_⟩
      · rw [List.take_add_one, hx, Option.toList_some, Ex.stepsL_snoc]
        rw [show ((Ex.stepsL (e.exprs.take m) + e.exprs[m].steps : Nat) : Int) = Ex.stepsL (e.exprs.take m) + e.exprs[m].steps by omega]
        exact hb9
      · show e.exprs.length - (intOf (Value.int .i64 ((m : Int) + 1))).toNat < _
        simp only [intOf]; omega
    · exact h6
    · exact q2
    · exact q4
    · exact q5
    · exact q1
  · obtain rfl : m = e.exprs.length := by omega
    rw [show decide (((e.exprs.length : Nat) : Int) < (e.exprs.length : Int)) = false by simp]
    refine condF ?_
    rw [List.take_length] at hb54
    rw [sq_x, bk_x, sq_n, dispatcherref09_stmt_R1_eq]
    unfold dispatcherref09_stmt_R1_F
    have hok4 := hok.mod hm04
    have d6 : FAt Tryz.prog w4 62 6 ⟨b3, 0, none⟩ 23 e.bs := FAt.mk' (off := 6) (by kernel_rfl) uSts rfl (by rw [add_pl, cell_blk h14']; rfl)
    refine d6.vs ?_ fun _ => ?_
    · exact q2
    refine CK_eq (bs := [e.bs, .int .i64 n]) rfl ?_ (CK_st Tryz.func36 rfl rfl (ihB w4 _ hok4.body (by omega) mB) ?_)
    · exact congrArg (fun z => [e.bs, z]) q1
    rintro _ w5 ⟨rfl, hm5⟩
    refine lcl_k (cs := (St.bdF n zBd e.body).cells.toArray) zBnd _ iBnd rfl (bd_one _) fun w6 hb6 hm6 hz6 => ?_
    have hm46 := hm5.trans hm6
    have l5 : b5 < w5.heap.size := by have := X.blk_lt hb54; have := hm5.size; omega
    have l6 : w6.heap.size = w5.heap.size + 1 := hz6
    generalize w5.heap.size = b7 at *
    have g36 := hm46.blk h14' id
    have d7 : FAt Tryz.prog w6 62 7 ⟨b3, 0, none⟩ 23 e.ls := FAt.mk' (off := 7) (by kernel_rfl) uSts rfl (by rw [add_pl, cell_blk g36]; rfl)
    refine d7.vs ?_ fun _ => ?_
    · exact q2
    refine CK_eq (bs := [e.ls, .int .i64 n]) rfl ?_ (CK_st Tryz.func36 rfl rfl (ihE w6 _ (hok4.mod hm46).els (by omega) mE) ?_)
    · exact congrArg (fun z => [e.ls, z]) q1
    rintro _ w7 ⟨rfl, hm7⟩
    refine lcl_k (cs := (St.bdF n zBd e.els).cells.toArray) zBnd _ iBnd rfl (bd_one _) fun w8 hb8 hm8 hz8 => ?_
    have l7 : b7 < w7.heap.size := by have := hm7.size; omega
    generalize w7.heap.size = b8 at *
    have hm68 := hm7.trans hm8
    have hm48 := hm46.trans hm68
    have hm08 := hm04.trans hm48
    have g7 := hm68.blk hb6 id
    have g5 := hm48.blk hb54 id
    have g4 := hm48.blk h24' id
    have g3 := hm48.blk h14' id
    have hok8 := hok.mod hm08
    have d0 : FAt Tryz.prog w8 62 0 ⟨b3, 0, none⟩ 5 (.int .u8 e.op) := FAt.mk' (off := 0) (by kernel_rfl) uU8 rfl (by rw [add_pl, cell_blk g3]; rfl)
    have d4 : FAt Tryz.prog w8 62 4 ⟨b3, 0, none⟩ 3 (.int .i64 e.turns) := FAt.mk' (off := 4) (by kernel_rfl) uI rfl (by rw [add_pl, cell_blk g3]; rfl)
    clear hm5 hm6 hm7 hm8 hb6 g36 hz6 hz8 hm46 hm68
    have hbO : e.bdO n = oneB n e.op e.turns (Ex.stepsL e.exprs) e.els.length e.dec (St.bdF n zBd e.body) (St.bdF n zBd e.els) := rfl
    generalize St.bdF n zBd e.body = B at *
    generalize St.bdF n zBd e.els = E at *
    have r5 : ∀ (ρ' : Sl) (w9 : World) (B' : Bd), e.op = 3 → B' = ⟨B.s + (if 0 < e.els.length then 1 else 0), B.c, B.d⟩ → w9.heap[b7]? = some (.cells B'.cells.toArray 42 (0, 0)) → w9.heap[b8]? = some (.cells E.cells.toArray 42 (0, 0)) → w9.heap[b5]? = some (.cells (Bd.mk (Ex.stepsL e.exprs) 0 0).cells.toArray 42 (0, 0)) → w9.heap[b4]? = some (.cells zBd.cells.toArray 42 (0, 0)) → Mod none_ w w9 → ρ' 4 = pt b4 → ρ' 5 = pt b5 → ρ' 7 = pt b7 → ρ' 8 = pt b8 →
        sx fn_ Tryz.prog 109 dispatcherref09_stmt_R5 (blkK 2 (seqK (sx fn_ Tryz.prog 109 dispatcherref09_stmt_R4 (retK Tryz.prog [ResultVar.cell 4 42] fun v w' => v = (e.bd n).v ∧ Mod none_ w w')) (retK Tryz.prog [ResultVar.cell 4 42] fun v w' => v = (e.bd n).v ∧ Mod none_ w w'))) ρ' w9 := by
      intro ρ' w9 B' k3 hB' i7 i8 i5 i4 hm p4 p5 p7 p8
      have hB'in : B'.In 1048578 := by
        subst hB'
        obtain ⟨⟨x1, x2⟩, ⟨x3, x4⟩, x5, x6⟩ := hB
        refine ⟨⟨?_, ?_⟩, ⟨?_, ?_⟩, ?_, ?_⟩ <;> dsimp only <;> first | omega | (split <;> omega)
      have hor := hB'in.or (hE.mono (k := 1048578) (by decide))
      unfold Bd.or Bd.In at hor
      dsimp only at hor
      rw [dispatcherref09_stmt_R5_eq]
      unfold dispatcherref09_stmt_R5_F
      rw [p5, p7, p8]
      refine (bdF i5).1.vk' fun _ => ?_
      refine BKadd (a := Ex.stepsL e.exprs) (b := 1) rfl rfl (by omega) (by omega) ?_
      refine (bdF i7).1.vk' fun _ => (bdF i8).1.vk' fun _ => ?_
      rw [max_i]
      refine BKadd (a := Ex.stepsL e.exprs + 1) (b := mx B'.s E.s) rfl rfl (by omega) (by omega) ?_
      refine foBd (j := 0) (by decide) rfl ?_
      refine bdSt i5 (j := 0) (by decide) rfl fun w10 j5 hm10 => ?_
      rw [bd_set0] at j5
      have j7 := hm10.blk i7 (by omega)
      have j8 := hm10.blk i8 (by omega)
      refine (bdF j7).2.1.vk' fun _ => (bdF j8).2.1.vk' fun _ => ?_
      rw [max_i]
      refine foBd (j := 1) (by decide) rfl ?_
      refine bdSt j5 (j := 1) (n := mx B'.c E.c) (by decide) rfl fun w11 k5 hm11 => ?_
      rw [bd_set1] at k5
      have l7' := hm11.blk j7 (by omega)
      have l8' := hm11.blk j8 (by omega)
      refine (bdF l7').2.2.vk' fun _ => (bdF l8').2.2.vk' fun _ => ?_
      rw [max_i]
      refine foBd (j := 2) (by decide) rfl ?_
      refine bdSt k5 (j := 2) (n := mx B'.d E.d) (by decide) rfl fun w12 m5 hm12 => ?_
      rw [bd_set2] at m5
      rw [bk_n, sq_n]
      refine r4 _ w12 _ ?_ ?_ m5 (hm12.blk (hm11.blk (hm10.blk i4 (by omega)) (by omega)) (by omega)) ?_ (((hm.then hm10 fun i hi q => absurd q (by omega)).then hm11 fun i hi q => absurd q (by omega)).then hm12 fun i hi q => absurd q (by omega))
      · exact p4
      · exact p5
      · rw [hbO]
        unfold oneB
        rw [if_pos k3, hB']
        dsimp only
        rw [show (1 : Int) + Ex.stepsL e.exprs = Ex.stepsL e.exprs + 1 by omega]
    have r6 : ∀ (ρ' : Sl) (t : Int), e.op = 5 → ρ' 9 = .int .i64 t → t = (if e.turns = 0 then n else e.turns) → ρ' 4 = pt b4 → ρ' 5 = pt b5 → ρ' 7 = pt b7 →
        sx fn_ Tryz.prog 109 dispatcherref09_stmt_R6 (blkK 2 (seqK (sx fn_ Tryz.prog 109 dispatcherref09_stmt_R4 (retK Tryz.prog [ResultVar.cell 4 42] fun v w' => v = (e.bd n).v ∧ Mod none_ w w')) (retK Tryz.prog [ResultVar.cell 4 42] fun v w' => v = (e.bd n).v ∧ Mod none_ w w'))) ρ' w8 := by
      intro ρ' t k5 p9 ht p4 p5 p7
      have ht2 : 0 ≤ t ∧ t ≤ 1000 := by rw [ht]; split <;> omega
      have m1 := mul_in (a := B.s + 9) (m := 1048586) (by have := hB.1; omega) ht2
      have m2 := mul_in hB.2.1 ht2
      have m3 := mul_in hB.2.2 ht2
      rw [dispatcherref09_stmt_R6_eq]
      unfold dispatcherref09_stmt_R6_F
      rw [p9, p5, p7]
      refine (bdF g7).1.vk' fun _ => ?_
      refine BKadd (a := 9) (b := B.s) rfl rfl (by have := hB.1; omega) (by have := hB.1; omega) ?_
      rw [BK_mul, show t * (9 + B.s) = (B.s + 9) * t by rw [Int.mul_comm, Int.add_comm 9], wrap_in m1 (by decide)]
      refine BKadd (a := 6) (b := (B.s + 9) * t) rfl rfl (by omega) (by omega) ?_
      refine foBd (j := 0) (by decide) rfl ?_
      refine bdSt g5 (j := 0) (by decide) rfl fun w10 j5 hm10 => ?_
      rw [bd_set0] at j5
      have j7 := hm10.blk g7 (by omega)
      refine (bdF j7).2.1.vk' fun _ => ?_
      rw [BK_mul, Int.mul_comm, wrap_in m2 (by decide)]
      refine foBd (j := 1) (by decide) rfl ?_
      refine bdSt j5 (j := 1) (by decide) rfl fun w11 k5' hm11 => ?_
      rw [bd_set1] at k5'
      have l7' := hm11.blk j7 (by omega)
      refine (bdF l7').2.2.vk' fun _ => ?_
      rw [BK_mul, Int.mul_comm, wrap_in m3 (by decide)]
      refine foBd (j := 2) (by decide) rfl ?_
      refine bdSt k5' (j := 2) (by decide) rfl fun w12 m5 hm12 => ?_
      rw [bd_set2] at m5
      rw [bk_n, sq_n]
      refine r4 _ w12 _ ?_ ?_ m5 (hm12.blk (hm11.blk (hm10.blk g4 (by omega)) (by omega)) (by omega)) ?_ (((hm08.then hm10 fun i hi q => absurd q (by omega)).then hm11 fun i hi q => absurd q (by omega)).then hm12 fun i hi q => absurd q (by omega))
      · exact p4
      · exact p5
      · rw [hbO]
        unfold oneB
        rw [if_neg (by omega), if_pos k5, ← ht]
        dsimp only
        rw [Int.add_comm 6]
    refine d0.vs ?_ fun _ => ?_
    · exact q2
    refine BKeqI (a := e.op) (b := 3) rfl rfl (fun k3 => condT ?_) (fun k3 => condF ?_)
    · obtain ⟨A7, c7, hs7, _⟩ := reads_cap hok8.els.1
      have d7' : FAt Tryz.prog w8 62 7 ⟨b3, 0, none⟩ 23 (.slice A7 e.els.length c7) := FAt.mk' (off := 7) (by kernel_rfl) uSts rfl (by rw [add_pl, cell_blk g3, ← hs7]; rfl)
      refine d7'.vs ?_ fun _ => ?_
      · exact q2
      rw [len23]
      refine BKgtr (a := e.els.length) (b := 0) rfl rfl ?_
      by_cases hle : 0 < e.els.length
      · rw [show decide ((0 : Int) < (e.els.length : Int)) = true by rw [decide_eq_true_eq]; omega]
        refine condT ?_
        refine (bdF g7).1.vk' fun _ => ?_
        have := hB.1
        refine BKadd (a := B.s) (b := 1) rfl rfl (by omega) (by omega) ?_
        refine foBd (j := 0) (by decide) rfl ?_
        refine bdSt g7 (j := 0) (by decide) rfl fun w9 i7 hm9 => ?_
        rw [bd_set0] at i7
        refine r5 _ w9 _ k3 (by rw [if_pos hle]) i7 (hm9.blk hb8 (by omega)) (hm9.blk g5 (by omega)) (hm9.blk g4 (by omega)) (hm08.then hm9 fun i hi q => absurd q (by omega)) ?_ ?_ rfl rfl
        · exact q4
        · exact q5
      · rw [show decide ((0 : Int) < (e.els.length : Int)) = false by rw [decide_eq_false_iff_not]; omega]
        refine condF ?_
        refine r5 _ w8 B k3 (by rw [if_neg hle, Int.add_zero]) g7 hb8 g5 g4 hm08 ?_ ?_ rfl rfl
        · exact q4
        · exact q5
    refine BKeqI (a := e.op) (b := 5) rfl rfl (fun k5 => condT ?_) (fun k5 => condF ?_)
    · refine d4.vs ?_ fun _ => ?_
      · exact q2
      refine BKeqI (a := e.turns) (b := 0) rfl rfl (fun kt => condT ?_) (fun kt => condF ?_)
      · refine r6 _ n k5 ?_ (by rw [if_pos kt]) ?_ ?_ rfl
        · exact q1
        · exact q4
        · exact q5
      · refine r6 _ e.turns k5 rfl (by rw [if_neg kt]) ?_ ?_ rfl
        · exact q4
        · exact q5
    refine BKeqI (a := e.op) (b := 8) rfl rfl (fun k8 => condT ?_) (fun k8 => condF ?_)
    · refine (bdF g5).1.vs ?_ fun _ => ?_
      · exact q5
      refine BKadd (a := Ex.stepsL e.exprs) (b := 1) rfl rfl (by omega) (by omega) ?_
      refine foBd (j := 0) (b := b5) (by decide) ?_ ?_
      · exact q5
      refine bdSt g5 (j := 0) (by decide) rfl fun w9 i5 hm9 => ?_
      rw [bd_set0] at i5
      refine foBd (j := 1) (b := b5) (by decide) ?_ ?_
      · exact q5
      refine bdSt i5 (j := 1) (by decide) rfl fun w10 j5 hm10 => ?_
      rw [bd_set1] at j5
      have g3' := hm10.blk (hm9.blk g3 (by omega)) (by omega)
      have g4' := hm10.blk (hm9.blk g4 (by omega)) (by omega)
      have hm010 : Mod none_ w w10 := (hm08.then hm9 fun i hi q => absurd q (by omega)).then hm10 fun i hi q => absurd q (by omega)
      refine ldS (b := b3) (cs := e.cells.toArray) ?_ Tryz.underlying62 rfl iSt g3' ?_
      · exact q2
      refine CK_st Tryz.func56 rfl rfl (DecidesR_ok (hok.mod hm010)) ?_
      rintro _ w11 ⟨rfl, hm11⟩
      have g511 := hm11.blk j5 id
      have g411 := hm11.blk g4' id
      refine caseC (fun hd => ?_) (fun hd => ?_)
      · refine foBd (j := 2) (b := b5) (by decide) ?_ ?_
        · exact q5
        refine bdSt g511 (j := 2) (by decide) rfl fun w12 k5 hm12 => ?_
        rw [bd_set2] at k5
        refine r4 _ w12 _ ?_ ?_ k5 (hm12.blk g411 (by omega)) ?_ ((hm010.trans hm11).then hm12 fun i hi q => absurd q (by omega))
        · exact q4
        · exact q5
        · rw [hbO]
          unfold oneB
          rw [if_neg k3, if_neg (by omega), if_pos k8, hd]
          dsimp only
          rw [show (1 : Int) + Ex.stepsL e.exprs = Ex.stepsL e.exprs + 1 by omega]; rfl
      · refine r4 _ w11 _ ?_ ?_ g511 g411 ?_ (hm010.trans hm11)
        · exact q4
        · exact q5
        · rw [hbO]
          unfold oneB
          rw [if_neg k3, if_neg k5, if_pos k8, hd]
          dsimp only
          rw [show (1 : Int) + Ex.stepsL e.exprs = Ex.stepsL e.exprs + 1 by omega]; rfl
    · refine (bdF g5).1.vs ?_ fun _ => ?_
      · exact q5
      refine BKadd (a := Ex.stepsL e.exprs) (b := 1) rfl rfl (by omega) (by omega) ?_
      refine foBd (j := 0) (b := b5) (by decide) ?_ ?_
      · exact q5
      refine bdSt g5 (j := 0) (by decide) rfl fun w9 i5 hm9 => ?_
      rw [bd_set0] at i5
      refine r4 _ w9 _ ?_ ?_ i5 (hm9.blk g4 (by omega)) ?_ (hm08.then hm9 fun i hi q => absurd q (by omega))
      · exact q4
      · exact q5
      · rw [hbO]
        unfold oneB
        rw [if_neg k3, if_neg k5, if_neg k8, show (1 : Int) + Ex.stepsL e.exprs = Ex.stepsL e.exprs + 1 by omega]
theorem stmtsR_of {n : Int} (hn : 1 ≤ n ∧ n ≤ 64) : ∀ e : St, StmtsR n e.body ∧ StmtsR n e.els := by
  intro e
  induction e using St.ind with
  | h e ih1 ih2 => exact ⟨stmtsR_row hn fun a ha => stmtR_of hn (ih1 a ha).1 (ih1 a ha).2, stmtsR_row hn fun a ha => stmtR_of hn (ih2 a ha).1 (ih2 a ha).2⟩
theorem StmtsR_ok {n : Int} (hn : 1 ≤ n ∧ n ≤ 64) (l : List St) : StmtsR n l := stmtsR_row hn fun a _ => stmtR_of hn (stmtsR_of hn a).1 (stmtsR_of hn a).2
end Go.Proofs.YtpkfbaagpjdifaaGreatDoor.Tr
