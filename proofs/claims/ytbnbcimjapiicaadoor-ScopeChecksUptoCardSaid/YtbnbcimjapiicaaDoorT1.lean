/- The chapter's MayStmts. -/
import Derived.Test.YtbnbcimjapiicaaDoorS
set_option linter.unusedVariables false
set_option linter.unusedSimpArgs false
set_option maxRecDepth 4000
namespace Go.Proofs.YtbnbcimjapiicaaDoor.Tr
open Go Go.X Go.RowKit Go.Proofs.YtbnbcimjapiicaaDoor.XF Go.Proofs.YtbnbcimjapiicaaDoor.XK

theorem own_eq (e : St) {lo hi : Nat} (hr : e.rng = some (lo, hi)) : e.own = (decide (lo ≤ e.exprs.length) && decide (e.exprs.length ≤ hi) && fieldsB e) := by
  unfold St.own fieldsB
  rw [hr]
  simp only [Bool.and_assoc]
theorem mayL_false {l : List St} {a : St} (h : a ∈ l) (hf : a.may = false) : St.mayL l = false := by
  rw [St.mayL_eq, Bool.eq_false_iff]
  intro q
  have := List.all_eq_true.1 q _ h
  rw [hf] at this
  cases this
def MayStR (l : List St) : Prop := ∀ w s, StsOk w s l → St.szL l ≤ 1099511627776 → Rt Tryd.prog 58 #[s] w fun v w' => v = .bool (St.mayL l) ∧ Mod none_ w w'
theorem mayStR_row {l : List St} (ih : ∀ a ∈ l, MayStR a.body ∧ MayStR a.els) : MayStR l := by
  intro w s hok hsz
  obtain ⟨A, c, hs, _⟩ := reads_cap hok.1
  subst hs
  have hlen := St.len_sz l
  refine dispatcherref02_MayStmts_calls ?_
  unfold dispatcherref02_MayStmts_F
  refine W_loop dispatcherref02_MayStmts_L0_ok (fun ρ w' => ∃ n : Nat, n ≤ l.length ∧ ρ 3 = .int .i64 n ∧ ρ 0 = .slice A l.length c ∧ (∀ a ∈ l.take n, a.may = true) ∧ Mod none_ w w') (fun ρ _ => l.length - (intOf (ρ 3)).toNat)
    ⟨0, Nat.zero_le _, rfl, rfl, by simp, Mod.refl _ _⟩ ?_
  rintro ρ w1 ⟨n, hn, h3, h0, hall, hm⟩
  rw [dispatcherref02_MayStmts_L0_eq]
  unfold dispatcherref02_MayStmts_L0_F
  simp only [h3, h0, fo25_0, fo25_1, fo40_0, fo40_1, fo60_0, fo60_1, fo60_2, fo60_3, fo62_0, fo62_1, fo62_2, fo62_3, fo62_4, fo62_5, fo62_6, fo62_7, ld2, ld3, ld5, ld9, ld22, ld23, ld58, len9, len22, len23, len52, len58, ldK_some, cellE, blkC_c, add_pl, Nat.zero_add, List.getElem?_toArray, List.getElem?_cons_succ, List.getElem?_cons_zero, BK_lss]
  by_cases hlt : n < l.length
  · rw [show decide ((n : Int) < (l.length : Int)) = true by rw [decide_eq_true_eq]; omega]
    refine condT ?_
    have hx : l[n]? = some l[n] := List.getElem?_eq_getElem hlt
    have hmem : l[n] ∈ l := List.getElem_mem hlt
    have hsn := St.szL_at hx
    have hok1 := hok.mod hm
    have he := hok1.at hx
    have hse := St.sz_eq l[n]
    refine ixSt hok1 hx fun y => ?_
    refine lcl_k (cs := l[n].cells.toArray) zSt _ iSt rfl (st_one he) fun w2 hb2 hm2 _ => ?_
    obtain ⟨A1, c1, hs1, _⟩ := reads_cap he.exprs.1
    obtain ⟨A2, c2, hs2, _⟩ := reads_cap he.body.1
    obtain ⟨A3, c3, hs3, _⟩ := reads_cap he.els.1
    simp only [fo25_0, fo25_1, fo40_0, fo40_1, fo60_0, fo60_1, fo60_2, fo60_3, fo62_0, fo62_1, fo62_2, fo62_3, fo62_4, fo62_5, fo62_6, fo62_7, ld2, ld3, ld5, ld9, ld22, ld23, ld58, len9, len22, len23, len52, len58, ldK_some, cellE, blkC_c, add_pl, Nat.zero_add, List.getElem?_toArray, List.getElem?_cons_succ, List.getElem?_cons_zero, Ex.c0, Ex.c1, Ex.c2, Ex.c3, Ex.c4, Ex.c5, St.c0, St.c1, St.c2, St.c3, St.c4, St.c5, St.c6, St.c7, St.c8, St.c9, hb2]
    have hm12 := hm.trans hm2
    have he2 := he.mod hm2
    generalize w1.heap.size = b4 at *
    -- what follows a known range
    have r2 : ∀ (ρ' : Sl) (w3 : World) (lo hi : Nat), Mod none_ w2 w3 → ρ' 0 = .slice A l.length c → ρ' 3 = .int .i64 n → ρ' 4 = .pointer (some ⟨b4, 0, none⟩) → ρ' 5 = .int .i64 lo → ρ' 6 = .int .i64 hi → l[n].rng = some (lo, hi) →
        sx fn_ Tryd.prog 83 dispatcherref02_MayStmts_R2 (blkK 1 (seqK (sx fn_ Tryd.prog 83 dispatcherref02_MayStmts_R4 (seqK (fun ρ' w' => (∃ n, n ≤ l.length ∧ ρ' 3 = Value.int .i64 n ∧ ρ' 0 = Value.slice A l.length c ∧ (∀ a ∈ l.take n, a.may = true) ∧ Mod none_ w w') ∧ l.length - (intOf (ρ' 3)).toNat < l.length - (intOf (Value.int .i64 n)).toNat) (blkK 0 (seqK (sx fn_ Tryd.prog 83 dispatcherref02_MayStmts_R1 (retK Tryd.prog [ResultVar.tmp 2] fun v w' => v = Value.bool (St.mayL l) ∧ Mod none_ w w')) (retK Tryd.prog [ResultVar.tmp 2] fun v w' => v = Value.bool (St.mayL l) ∧ Mod none_ w w'))))) (seqK (fun ρ' w' => (∃ n, n ≤ l.length ∧ ρ' 3 = Value.int .i64 n ∧ ρ' 0 = Value.slice A l.length c ∧ (∀ a ∈ l.take n, a.may = true) ∧ Mod none_ w w') ∧ l.length - (intOf (ρ' 3)).toNat < l.length - (intOf (Value.int .i64 n)).toNat) (blkK 0 (seqK (sx fn_ Tryd.prog 83 dispatcherref02_MayStmts_R1 (retK Tryd.prog [ResultVar.tmp 2] fun v w' => v = Value.bool (St.mayL l) ∧ Mod none_ w w')) (retK Tryd.prog [ResultVar.tmp 2] fun v w' => v = Value.bool (St.mayL l) ∧ Mod none_ w w')))))) ρ' w3 := by
      intro ρ' w3 lo hi hm3 q0 q3 q4 q5 q6 hr
      have hb3 := hm3.blk hb2 id
      have hmay := St.may_eq l[n]
      rw [own_eq _ hr] at hmay
      have hm13 := hm12.trans hm3
      rw [dispatcherref02_MayStmts_R2_eq]
      unfold dispatcherref02_MayStmts_R2_F
      simp only [q4, q5, q6, fo25_0, fo25_1, fo40_0, fo40_1, fo60_0, fo60_1, fo60_2, fo60_3, fo62_0, fo62_1, fo62_2, fo62_3, fo62_4, fo62_5, fo62_6, fo62_7, ld2, ld3, ld5, ld9, ld22, ld23, ld58, len9, len22, len23, len52, len58, ldK_some, cellE, blkC_c, add_pl, Nat.zero_add, List.getElem?_toArray, List.getElem?_cons_succ, List.getElem?_cons_zero, Ex.c0, Ex.c1, Ex.c2, Ex.c3, Ex.c4, Ex.c5, St.c0, St.c1, St.c2, St.c3, St.c4, St.c5, St.c6, St.c7, St.c8, St.c9, hb3, hs1, BK_lss]
      have e1 : decide ((l[n].exprs.length : Int) < (lo : Int)) = !decide (lo ≤ l[n].exprs.length) := by rw [lt_dec]; congr 1; rw [decide_eq_decide]; omega
      have e2 : decide ((hi : Int) < (l[n].exprs.length : Int)) = !decide (l[n].exprs.length ≤ hi) := by rw [lt_dec]; congr 1; rw [decide_eq_decide]; omega
      rw [e1]
      cases k1 : decide (lo ≤ l[n].exprs.length) with
      | false =>
        rw [k1] at hmay
        simp only [CondK_bool, MG_u, NG_u, VG_u, UG_u, PG_u, BG_u, CG_u, IG_u, MG_b, NG_b, VG_b, UG_b, PG_b, BG_b, CG_b, IG_b, PK_bool, NK_ptr, not_ok, reduceCtorEq, if_true, if_false, Bool.true_eq_false, Bool.false_eq_true, Bool.not_true, Bool.not_false]
        exact ⟨by rw [mayL_false hmem (hmay.trans rfl)]; rfl, hm13⟩
      | true =>
        rw [k1] at hmay
        simp only [CondK_bool, MG_u, NG_u, VG_u, UG_u, PG_u, BG_u, CG_u, IG_u, MG_b, NG_b, VG_b, UG_b, PG_b, BG_b, CG_b, IG_b, PK_bool, NK_ptr, not_ok, reduceCtorEq, if_true, if_false, Bool.true_eq_false, Bool.false_eq_true, Bool.not_true, Bool.not_false, fo25_0, fo25_1, fo40_0, fo40_1, fo60_0, fo60_1, fo60_2, fo60_3, fo62_0, fo62_1, fo62_2, fo62_3, fo62_4, fo62_5, fo62_6, fo62_7, ld2, ld3, ld5, ld9, ld22, ld23, ld58, len9, len22, len23, len52, len58, ldK_some, cellE, blkC_c, add_pl, Nat.zero_add, List.getElem?_toArray, List.getElem?_cons_succ, List.getElem?_cons_zero, Ex.c0, Ex.c1, Ex.c2, Ex.c3, Ex.c4, Ex.c5, St.c0, St.c1, St.c2, St.c3, St.c4, St.c5, St.c6, St.c7, St.c8, St.c9, hb3, hs1, BK_gtr, e2]
        cases k2 : decide (l[n].exprs.length ≤ hi) with
        | false =>
          rw [k2] at hmay
          simp only [CondK_bool, MG_u, NG_u, VG_u, UG_u, PG_u, BG_u, CG_u, IG_u, MG_b, NG_b, VG_b, UG_b, PG_b, BG_b, CG_b, IG_b, PK_bool, NK_ptr, not_ok, reduceCtorEq, if_true, if_false, Bool.true_eq_false, Bool.false_eq_true, Bool.not_true, Bool.not_false]
          exact ⟨by rw [mayL_false hmem (hmay.trans rfl)]; rfl, hm13⟩
        | true =>
          rw [k2] at hmay
          simp only [CondK_bool, MG_u, NG_u, VG_u, UG_u, PG_u, BG_u, CG_u, IG_u, MG_b, NG_b, VG_b, UG_b, PG_b, BG_b, CG_b, IG_b, PK_bool, NK_ptr, not_ok, reduceCtorEq, if_true, if_false, Bool.true_eq_false, Bool.false_eq_true, Bool.not_true, Bool.not_false]
          refine ldB (cs := l[n].cells.toArray) Tryd.underlying62 rfl iSt hb3 ?_
          refine CK_st Tryd.func78 rfl rfl (fields_ok (he2.mod hm3)) ?_
          rintro _ w4 ⟨rfl, hm4⟩
          rw [not_ok]
          have hb4 := hm4.blk hb3 id
          cases k3 : fieldsB l[n] with
          | false =>
            rw [k3] at hmay
            simp only [CondK_bool, MG_u, NG_u, VG_u, UG_u, PG_u, BG_u, CG_u, IG_u, MG_b, NG_b, VG_b, UG_b, PG_b, BG_b, CG_b, IG_b, PK_bool, NK_ptr, not_ok, reduceCtorEq, if_true, if_false, Bool.true_eq_false, Bool.false_eq_true, Bool.not_true, Bool.not_false]
            exact ⟨by rw [mayL_false hmem (hmay.trans rfl)]; rfl, hm13.trans hm4⟩
          | true =>
            rw [k3] at hmay
            simp only [CondK_bool, MG_u, NG_u, VG_u, UG_u, PG_u, BG_u, CG_u, IG_u, MG_b, NG_b, VG_b, UG_b, PG_b, BG_b, CG_b, IG_b, PK_bool, NK_ptr, not_ok, reduceCtorEq, if_true, if_false, Bool.true_eq_false, Bool.false_eq_true, Bool.not_true, Bool.not_false, fo25_0, fo25_1, fo40_0, fo40_1, fo60_0, fo60_1, fo60_2, fo60_3, fo62_0, fo62_1, fo62_2, fo62_3, fo62_4, fo62_5, fo62_6, fo62_7, ld2, ld3, ld5, ld9, ld22, ld23, ld58, len9, len22, len23, len52, len58, ldK_some, cellE, blkC_c, add_pl, Nat.zero_add, List.getElem?_toArray, List.getElem?_cons_succ, List.getElem?_cons_zero, Ex.c0, Ex.c1, Ex.c2, Ex.c3, Ex.c4, Ex.c5, St.c0, St.c1, St.c2, St.c3, St.c4, St.c5, St.c6, St.c7, St.c8, St.c9, hb4]
            refine CK_st Tryd.func58 rfl rfl ((ih _ hmem).1 w4 _ (((he2.mod hm3).mod hm4).body) (by omega)) ?_
            rintro _ w5 ⟨rfl, hm5⟩
            rw [not_ok]
            have hb5 := hm5.blk hb4 id
            cases k4 : St.mayL l[n].body with
            | false =>
              rw [k4] at hmay
              simp only [CondK_bool, MG_u, NG_u, VG_u, UG_u, PG_u, BG_u, CG_u, IG_u, MG_b, NG_b, VG_b, UG_b, PG_b, BG_b, CG_b, IG_b, PK_bool, NK_ptr, not_ok, reduceCtorEq, if_true, if_false, Bool.true_eq_false, Bool.false_eq_true, Bool.not_true, Bool.not_false]
              exact ⟨by rw [mayL_false hmem (hmay.trans (by simp))]; rfl, (hm13.trans hm4).trans hm5⟩
            | true =>
              rw [k4] at hmay
              simp only [CondK_bool, MG_u, NG_u, VG_u, UG_u, PG_u, BG_u, CG_u, IG_u, MG_b, NG_b, VG_b, UG_b, PG_b, BG_b, CG_b, IG_b, PK_bool, NK_ptr, not_ok, reduceCtorEq, if_true, if_false, Bool.true_eq_false, Bool.false_eq_true, Bool.not_true, Bool.not_false, fo25_0, fo25_1, fo40_0, fo40_1, fo60_0, fo60_1, fo60_2, fo60_3, fo62_0, fo62_1, fo62_2, fo62_3, fo62_4, fo62_5, fo62_6, fo62_7, ld2, ld3, ld5, ld9, ld22, ld23, ld58, len9, len22, len23, len52, len58, ldK_some, cellE, blkC_c, add_pl, Nat.zero_add, List.getElem?_toArray, List.getElem?_cons_succ, List.getElem?_cons_zero, Ex.c0, Ex.c1, Ex.c2, Ex.c3, Ex.c4, Ex.c5, St.c0, St.c1, St.c2, St.c3, St.c4, St.c5, St.c6, St.c7, St.c8, St.c9, hb5]
              refine CK_st Tryd.func58 rfl rfl ((ih _ hmem).2 w5 _ ((((he2.mod hm3).mod hm4).mod hm5).els) (by omega)) ?_
              rintro _ w6 ⟨rfl, hm6⟩
              rw [not_ok]
              have hb6 := hm6.blk hb5 id
              have hm26 := ((hm3.trans hm4).trans hm5).trans hm6
              have hm16 := hm12.trans hm26
              cases k5 : St.mayL l[n].els with
              | false =>
                rw [k5] at hmay
                simp only [CondK_bool, MG_u, NG_u, VG_u, UG_u, PG_u, BG_u, CG_u, IG_u, MG_b, NG_b, VG_b, UG_b, PG_b, BG_b, CG_b, IG_b, PK_bool, NK_ptr, not_ok, reduceCtorEq, if_true, if_false, Bool.true_eq_false, Bool.false_eq_true, Bool.not_true, Bool.not_false]
                exact ⟨by rw [mayL_false hmem (hmay.trans (by simp))]; rfl, hm16⟩
              | true =>
                rw [k5] at hmay
                simp only [CondK_bool, MG_u, NG_u, VG_u, UG_u, PG_u, BG_u, CG_u, IG_u, MG_b, NG_b, VG_b, UG_b, PG_b, BG_b, CG_b, IG_b, PK_bool, NK_ptr, not_ok, reduceCtorEq, if_true, if_false, Bool.true_eq_false, Bool.false_eq_true, Bool.not_true, Bool.not_false]
                refine W_loop dispatcherref02_MayStmts_L5_ok (fun ρ w' => ∃ j : Nat, j ≤ l[n].exprs.length ∧ ρ 7 = .int .i64 j ∧ ρ 0 = .slice A l.length c ∧ ρ 3 = .int .i64 n ∧ ρ 4 = .pointer (some ⟨b4, 0, none⟩) ∧ (∀ a ∈ l[n].exprs.take j, a.may = true) ∧ Mod none_ w6 w') (fun ρ _ => l[n].exprs.length - (intOf (ρ 7)).toNat)
                  ⟨0, Nat.zero_le _, rfl, q0, q3, q4, by simp, Mod.refl _ _⟩ ?_
                rintro ρ2 w7 ⟨j, hj, g7, g0, g3, g4, gall, hm7⟩
                have hb7 := hm7.blk hb6 id
                have hlenE := Ex.len_sz l[n].exprs
                rw [dispatcherref02_MayStmts_L5_eq]
                unfold dispatcherref02_MayStmts_L5_F
                simp only [g7, g4, fo25_0, fo25_1, fo40_0, fo40_1, fo60_0, fo60_1, fo60_2, fo60_3, fo62_0, fo62_1, fo62_2, fo62_3, fo62_4, fo62_5, fo62_6, fo62_7, ld2, ld3, ld5, ld9, ld22, ld23, ld58, len9, len22, len23, len52, len58, ldK_some, cellE, blkC_c, add_pl, Nat.zero_add, List.getElem?_toArray, List.getElem?_cons_succ, List.getElem?_cons_zero, Ex.c0, Ex.c1, Ex.c2, Ex.c3, Ex.c4, Ex.c5, St.c0, St.c1, St.c2, St.c3, St.c4, St.c5, St.c6, St.c7, St.c8, St.c9, hb7, hs1, BK_lss]
                by_cases hltj : j < l[n].exprs.length
                · rw [show decide ((j : Int) < (l[n].exprs.length : Int)) = true by rw [decide_eq_true_eq]; omega]
                  refine condT ?_
                  have hxj : l[n].exprs[j]? = some l[n].exprs[j] := List.getElem?_eq_getElem hltj
                  have hmemj : l[n].exprs[j] ∈ l[n].exprs := List.getElem_mem hltj
                  have hokE : ExsOk w7 (.slice A1 l[n].exprs.length c1) l[n].exprs := by rw [← hs1]; exact ((he2.mod hm26).mod hm7).exprs
                  refine ixEx hokE hxj fun y2 => ?_
                  have hsj := Ex.szL_at hxj
                  refine CK_st Tryd.func79 rfl rfl (MayExprR_ok _ w7 (hokE.at hxj) (by omega)) ?_
                  rintro _ w8 ⟨rfl, hm8⟩
                  rw [not_ok]
                  cases hp : l[n].exprs[j].may with
                  | false =>
                    refine condT ?_
                    have hE : Ex.mayL l[n].exprs = false := by
                      rw [Ex.mayL_eq, Bool.eq_false_iff]
                      intro q
                      have := List.all_eq_true.1 q _ hmemj
                      rw [hp] at this; cases this
                    rw [hE] at hmay
                    exact ⟨by rw [mayL_false hmem (hmay.trans rfl)]; rfl, (hm16.trans hm7).trans hm8⟩
                  | true =>
                    refine condF ?_
                    rw [BK_add, wrap_i (n := (j : Int) + 1) (by omega) (by omega)]
                    refine ⟨⟨j + 1, hltj, rfl, g0, g3, g4, ?_, hm7.trans hm8⟩, ?_⟩
                    · rw [List.take_add_one, hxj, Option.toList_some]
                      intro a q
                      rcases List.mem_append.1 q with q | q
                      · exact gall a q
                      · rw [List.mem_singleton.1 q]; exact hp
                    · show l[n].exprs.length - (intOf (Value.int .i64 ((j : Int) + 1))).toNat < _
                      simp only [intOf]; omega
                · obtain rfl : j = l[n].exprs.length := by omega
                  rw [show decide (((l[n].exprs.length : Nat) : Int) < (l[n].exprs.length : Int)) = false by simp]
                  refine condF ?_
                  have hE : Ex.mayL l[n].exprs = true := by
                    rw [Ex.mayL_eq, List.all_eq_true]
                    rw [List.take_length] at gall
                    exact gall
                  rw [hE] at hmay
                  rw [sq_x, bk_x, bk_n, sq_n, dispatcherref02_MayStmts_R4_eq]
                  unfold dispatcherref02_MayStmts_R4_F
                  have g3' : ∀ a b d f g : Value, (up (up (up (up (up ρ2 69 a) 70 b) 71 d) 72 f) 73 g) 3 = .int .i64 n := fun _ _ _ _ _ => g3
                  rw [g3', BK_add, wrap_i (n := (n : Int) + 1) (by omega) (by omega)]
                  refine ⟨⟨n + 1, hlt, rfl, g0, ?_, hm16.trans hm7⟩, ?_⟩
                  · rw [List.take_add_one, hx, Option.toList_some]
                    intro a q
                    rcases List.mem_append.1 q with q | q
                    · exact hall a q
                    · rw [List.mem_singleton.1 q, hmay]; rfl
                  · show l.length - (intOf (Value.int .i64 ((n : Int) + 1))).toNat < _
                    simp only [intOf]; omega
    have none_ret : l[n].rng = none → l[n].may = false := fun h => by
      rw [St.may_eq]
      unfold St.own
      rw [h]
      rfl
    have r3 : ∀ (ρ' : Sl) (t : Bool), ρ' 0 = .slice A l.length c → ρ' 3 = .int .i64 n → ρ' 4 = .pointer (some ⟨b4, 0, none⟩) → ρ' 5 = .int .i64 0 → ρ' 6 = .int .i64 0 → ρ' 19 = .int .u8 l[n].op → ρ' 20 = .bool t → t = decide (l[n].op = 1 ∨ l[n].op = 3 ∨ l[n].op = 4 ∨ l[n].op = 6) →
        sx fn_ Tryd.prog 83 dispatcherref02_MayStmts_R3 (blkK 2 (seqK (sx fn_ Tryd.prog 83 dispatcherref02_MayStmts_R2 (blkK 1 (seqK (sx fn_ Tryd.prog 83 dispatcherref02_MayStmts_R4 (seqK (fun ρ' w' => (∃ n, n ≤ l.length ∧ ρ' 3 = Value.int .i64 n ∧ ρ' 0 = Value.slice A l.length c ∧ (∀ a ∈ l.take n, a.may = true) ∧ Mod none_ w w') ∧ l.length - (intOf (ρ' 3)).toNat < l.length - (intOf (Value.int .i64 n)).toNat) (blkK 0 (seqK (sx fn_ Tryd.prog 83 dispatcherref02_MayStmts_R1 (retK Tryd.prog [ResultVar.tmp 2] fun v w' => v = Value.bool (St.mayL l) ∧ Mod none_ w w')) (retK Tryd.prog [ResultVar.tmp 2] fun v w' => v = Value.bool (St.mayL l) ∧ Mod none_ w w'))))) (seqK (fun ρ' w' => (∃ n, n ≤ l.length ∧ ρ' 3 = Value.int .i64 n ∧ ρ' 0 = Value.slice A l.length c ∧ (∀ a ∈ l.take n, a.may = true) ∧ Mod none_ w w') ∧ l.length - (intOf (ρ' 3)).toNat < l.length - (intOf (Value.int .i64 n)).toNat) (blkK 0 (seqK (sx fn_ Tryd.prog 83 dispatcherref02_MayStmts_R1 (retK Tryd.prog [ResultVar.tmp 2] fun v w' => v = Value.bool (St.mayL l) ∧ Mod none_ w w')) (retK Tryd.prog [ResultVar.tmp 2] fun v w' => v = Value.bool (St.mayL l) ∧ Mod none_ w w'))))))) (blkK 1 (seqK (sx fn_ Tryd.prog 83 dispatcherref02_MayStmts_R4 (seqK (fun ρ' w' => (∃ n, n ≤ l.length ∧ ρ' 3 = Value.int .i64 n ∧ ρ' 0 = Value.slice A l.length c ∧ (∀ a ∈ l.take n, a.may = true) ∧ Mod none_ w w') ∧ l.length - (intOf (ρ' 3)).toNat < l.length - (intOf (Value.int .i64 n)).toNat) (blkK 0 (seqK (sx fn_ Tryd.prog 83 dispatcherref02_MayStmts_R1 (retK Tryd.prog [ResultVar.tmp 2] fun v w' => v = Value.bool (St.mayL l) ∧ Mod none_ w w')) (retK Tryd.prog [ResultVar.tmp 2] fun v w' => v = Value.bool (St.mayL l) ∧ Mod none_ w w'))))) (seqK (fun ρ' w' => (∃ n, n ≤ l.length ∧ ρ' 3 = Value.int .i64 n ∧ ρ' 0 = Value.slice A l.length c ∧ (∀ a ∈ l.take n, a.may = true) ∧ Mod none_ w w') ∧ l.length - (intOf (ρ' 3)).toNat < l.length - (intOf (Value.int .i64 n)).toNat) (blkK 0 (seqK (sx fn_ Tryd.prog 83 dispatcherref02_MayStmts_R1 (retK Tryd.prog [ResultVar.tmp 2] fun v w' => v = Value.bool (St.mayL l) ∧ Mod none_ w w')) (retK Tryd.prog [ResultVar.tmp 2] fun v w' => v = Value.bool (St.mayL l) ∧ Mod none_ w w')))))))) ρ' w2 := by
      intro ρ' t q0 q3 q4 q5 q6 q19 q20 ht
      have r0 := Mod.refl none_ w2
      rw [dispatcherref02_MayStmts_R3_eq]
      unfold dispatcherref02_MayStmts_R3_F
      rw [q20, q19, q4]
      subst ht
      refine caseC (fun hp => ?_) (fun hp => ?_)
      · rw [decide_eq_true_eq] at hp
        rw [bk_n, sq_n]
        refine r2 _ w2 1 1 r0 ?_ ?_ ?_ rfl rfl (by unfold St.rng; rw [if_pos hp])
        · exact q0
        · exact q3
        · exact q4
      rw [decide_eq_false_iff_not] at hp
      refine caseI (fun h2 => condT ?_) (fun h2 => condF ?_)
      · rw [bk_n, sq_n]
        refine r2 _ w2 2 2 r0 ?_ ?_ ?_ rfl rfl (by unfold St.rng; rw [if_neg hp, if_pos h2])
        · exact q0
        · exact q3
        · exact q4
      refine caseI (fun h8 => condT ?_) (fun h8 => condF ?_)
      · simp only [fo25_0, fo25_1, fo40_0, fo40_1, fo60_0, fo60_1, fo60_2, fo60_3, fo62_0, fo62_1, fo62_2, fo62_3, fo62_4, fo62_5, fo62_6, fo62_7, ld2, ld3, ld5, ld9, ld22, ld23, ld58, len9, len22, len23, len52, len58, ldK_some, cellE, blkC_c, add_pl, Nat.zero_add, List.getElem?_toArray, List.getElem?_cons_succ, List.getElem?_cons_zero, Ex.c0, Ex.c1, Ex.c2, Ex.c3, Ex.c4, Ex.c5, St.c0, St.c1, St.c2, St.c3, St.c4, St.c5, St.c6, St.c7, St.c8, St.c9, hb2]
        refine CK_st Tryd.func77 rfl rfl (ArgsR_ok l[n].kind w2) ?_
        rintro _ w2' ⟨rfl, rfl⟩
        rw [extract_ok (v := .int .i64 (argsP l[n].kind).1) rfl, extract_ok (v := .int .i64 (argsP l[n].kind).2) rfl]
        refine caseI (fun hz => condT ?_) (fun hz => condF ?_)
        · refine ⟨?_, hm12⟩
          rw [mayL_false hmem (none_ret (by unfold St.rng; rw [if_neg hp, if_neg h2, if_neg (by omega), if_pos h8, if_pos (by omega)]))]
          rfl
        · rw [bk_n, sq_n]
          refine r2 _ w2' (argsP l[n].kind).1 (argsP l[n].kind).2 r0 ?_ ?_ ?_ rfl rfl (by unfold St.rng; rw [if_neg hp, if_neg h2, if_neg (by omega), if_pos h8, if_neg (by omega)])
          · exact q0
          · exact q3
          · exact q4
      have r6 : ∀ (ρ2 : Sl) (t : Bool), ρ2 0 = .slice A l.length c → ρ2 3 = .int .i64 n → ρ2 4 = .pointer (some ⟨b4, 0, none⟩) → ρ2 5 = .int .i64 0 → ρ2 6 = .int .i64 0 → ρ2 37 = .bool t → t = decide (l[n].op = 5 ∨ l[n].op = 7) →
          sx fn_ Tryd.prog 83 dispatcherref02_MayStmts_R6 (blkK 2 (seqK (sx fn_ Tryd.prog 83 dispatcherref02_MayStmts_R2 (blkK 1 (seqK (sx fn_ Tryd.prog 83 dispatcherref02_MayStmts_R4 (seqK (fun ρ' w' => (∃ n, n ≤ l.length ∧ ρ' 3 = Value.int .i64 n ∧ ρ' 0 = Value.slice A l.length c ∧ (∀ a ∈ l.take n, a.may = true) ∧ Mod none_ w w') ∧ l.length - (intOf (ρ' 3)).toNat < l.length - (intOf (Value.int .i64 n)).toNat) (blkK 0 (seqK (sx fn_ Tryd.prog 83 dispatcherref02_MayStmts_R1 (retK Tryd.prog [ResultVar.tmp 2] fun v w' => v = Value.bool (St.mayL l) ∧ Mod none_ w w')) (retK Tryd.prog [ResultVar.tmp 2] fun v w' => v = Value.bool (St.mayL l) ∧ Mod none_ w w'))))) (seqK (fun ρ' w' => (∃ n, n ≤ l.length ∧ ρ' 3 = Value.int .i64 n ∧ ρ' 0 = Value.slice A l.length c ∧ (∀ a ∈ l.take n, a.may = true) ∧ Mod none_ w w') ∧ l.length - (intOf (ρ' 3)).toNat < l.length - (intOf (Value.int .i64 n)).toNat) (blkK 0 (seqK (sx fn_ Tryd.prog 83 dispatcherref02_MayStmts_R1 (retK Tryd.prog [ResultVar.tmp 2] fun v w' => v = Value.bool (St.mayL l) ∧ Mod none_ w w')) (retK Tryd.prog [ResultVar.tmp 2] fun v w' => v = Value.bool (St.mayL l) ∧ Mod none_ w w'))))))) (blkK 1 (seqK (sx fn_ Tryd.prog 83 dispatcherref02_MayStmts_R4 (seqK (fun ρ' w' => (∃ n, n ≤ l.length ∧ ρ' 3 = Value.int .i64 n ∧ ρ' 0 = Value.slice A l.length c ∧ (∀ a ∈ l.take n, a.may = true) ∧ Mod none_ w w') ∧ l.length - (intOf (ρ' 3)).toNat < l.length - (intOf (Value.int .i64 n)).toNat) (blkK 0 (seqK (sx fn_ Tryd.prog 83 dispatcherref02_MayStmts_R1 (retK Tryd.prog [ResultVar.tmp 2] fun v w' => v = Value.bool (St.mayL l) ∧ Mod none_ w w')) (retK Tryd.prog [ResultVar.tmp 2] fun v w' => v = Value.bool (St.mayL l) ∧ Mod none_ w w'))))) (seqK (fun ρ' w' => (∃ n, n ≤ l.length ∧ ρ' 3 = Value.int .i64 n ∧ ρ' 0 = Value.slice A l.length c ∧ (∀ a ∈ l.take n, a.may = true) ∧ Mod none_ w w') ∧ l.length - (intOf (ρ' 3)).toNat < l.length - (intOf (Value.int .i64 n)).toNat) (blkK 0 (seqK (sx fn_ Tryd.prog 83 dispatcherref02_MayStmts_R1 (retK Tryd.prog [ResultVar.tmp 2] fun v w' => v = Value.bool (St.mayL l) ∧ Mod none_ w w')) (retK Tryd.prog [ResultVar.tmp 2] fun v w' => v = Value.bool (St.mayL l) ∧ Mod none_ w w')))))))) ρ2 w2 := by
        intro ρ2 t p0 p3 p4 p5 p6 p37 ht2
        rw [dispatcherref02_MayStmts_R6_eq]
        unfold dispatcherref02_MayStmts_R6_F
        rw [p37]
        subst ht2
        refine caseC (fun h5 => ?_) (fun h5 => ?_)
        · rw [decide_eq_true_eq] at h5
          rw [bk_n, sq_n]
          exact r2 _ w2 0 0 r0 p0 p3 p4 p5 p6 (by unfold St.rng; rw [if_neg hp, if_neg h2, if_pos h5])
        · rw [decide_eq_false_iff_not] at h5
          refine ⟨?_, hm12⟩
          rw [mayL_false hmem (none_ret (by unfold St.rng; rw [if_neg hp, if_neg h2, if_neg h5, if_neg h8]))]
          rfl
      refine caseI (fun h5 => condT ?_) (fun h5 => condF ?_)
      · refine r6 _ true ?_ ?_ ?_ ?_ ?_ rfl (by rw [decide_eq_true (Or.inl h5)])
        · exact q0
        · exact q3
        · exact q4
        · exact q5
        · exact q6
      · rw [BK_eql]
        refine r6 _ (l[n].op == 7) ?_ ?_ ?_ ?_ ?_ rfl ?_
        · exact q0
        · exact q3
        · exact q4
        · exact q5
        · exact q6
        · rw [beq_dec]
          by_cases q : l[n].op = 7
          · rw [decide_eq_true q, decide_eq_true (Or.inr q)]
          · rw [decide_eq_false q, decide_eq_false (by omega)]
    have z0 : ∀ (ρ' : Sl), ρ' 0 = ρ 0 → ρ' 0 = .slice A l.length c := fun ρ' q => q.trans h0
    have z3 : ∀ (ρ' : Sl), ρ' 3 = ρ 3 → ρ' 3 = .int .i64 n := fun ρ' q => q.trans h3
    refine caseI (fun h1 => condT ?_) (fun h1 => condF ?_)
    · exact r3 _ true h0 h3 rfl rfl rfl rfl rfl (by rw [decide_eq_true (Or.inl h1)])
    refine caseI (fun h1' => condT ?_) (fun h1' => condF ?_)
    · exact r3 _ true h0 h3 rfl rfl rfl rfl rfl (by rw [decide_eq_true (Or.inr (Or.inl h1'))])
    refine caseI (fun h4 => condT ?_) (fun h4 => condF ?_)
    · exact r3 _ true h0 h3 rfl rfl rfl rfl rfl (by rw [decide_eq_true (Or.inr (Or.inr (Or.inl h4)))])
    rw [BK_eql]
    refine r3 _ (l[n].op == 6) ?_ ?_ ?_ ?_ ?_ ?_ ?_ ?_
    · exact h0
    · exact h3
    · rfl
    · rfl
    · rfl
    · rfl
    · rfl
    · rw [beq_dec]
      by_cases q : l[n].op = 6
      · rw [decide_eq_true q, decide_eq_true (Or.inr (Or.inr (Or.inr q)))]
      · rw [decide_eq_false q, decide_eq_false (by omega)]
  · obtain rfl : n = l.length := by omega
    rw [show decide (((l.length : Nat) : Int) < (l.length : Int)) = false by simp]
    refine condF ?_
    rw [sq_x, bk_x, sq_n, dispatcherref02_MayStmts_R1_eq]
    unfold dispatcherref02_MayStmts_R1_F
    refine ⟨?_, hm⟩
    rw [List.take_length] at hall
    show Value.bool true = _
    rw [St.mayL_eq, List.all_eq_true.2 hall]
theorem mayStR_all : ∀ e : St, MayStR e.body ∧ MayStR e.els := by
  intro e
  induction e using St.ind with
  | h e ih1 ih2 => exact ⟨mayStR_row ih1, mayStR_row ih2⟩
theorem MayStmtsR_ok (l : List St) : MayStR l := mayStR_row fun a _ => mayStR_all a
end Go.Proofs.YtbnbcimjapiicaaDoor.Tr
