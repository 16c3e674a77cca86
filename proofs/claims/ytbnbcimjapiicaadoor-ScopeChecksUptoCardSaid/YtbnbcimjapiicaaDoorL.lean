/- MayExpr, ManyExprs of the chapter. -/
import Derived.Test.YtbnbcimjapiicaaDoorK
set_option linter.unusedVariables false
set_option linter.unusedSimpArgs false
set_option maxRecDepth 4000
namespace Go.Proofs.YtbnbcimjapiicaaDoor.Tr
open Go Go.X Go.RowKit Go.Proofs.YtbnbcimjapiicaaDoor.XF Go.Proofs.YtbnbcimjapiicaaDoor.XK

theorem MayExprR_ok : ∀ (e : Ex) (w : World), e.Ok w → e.sz ≤ 1099511627776 → Rt Tryd.prog 79 #[.agg e.cells.toArray] w fun v w' => v = .bool e.may ∧ Mod none_ w w' := by
  intro e
  induction e using Ex.ind with
  | h e ih =>
    intro w hok hsz
    obtain ⟨A, c, hs, _⟩ := reads_cap hok.args.1
    have hszL : Ex.szL e.args ≤ 1099511627776 := by rw [Ex.sz_eq] at hsz; omega
    have hlen := Ex.len_sz e.args
    have hmay : e.may = ((Ex.ok1 e) && (if e.op = 1 then decide (0 ≤ e.num) && decide (e.num < 1000000000000000000) && decide (e.name.size = 0) else decide (e.num = 0) && (if e.op = 2 ∨ e.op = 3 then nameP e.name else if e.op = 5 then plainP e.name else decide (e.name.size = 0))) && Ex.mayL e.args) := by
      rw [Ex.may_eq]; rfl
    refine dispatcherref02_MayExpr_calls ?_
    unfold dispatcherref02_MayExpr_F
    refine box_k (cs := e.cells.toArray) rfl fun w1 hb1 hm1 hs1 => ?_
    refine dispatcherref02_MayExpr_R0_quiet (D := []) (fun w' => Mod none_ w1 w') ((Mod.refl _ w1).drawn _) ?_
    unfold dispatcherref02_MayExpr_R0_Q
    have cell : ∀ (w' : World), Mod none_ w1 w' → ∀ (j : Nat) v, e.cells[j]? = some v → w'.cell? ⟨w.heap.size, 0 + j, none⟩ = some v := fun w' hw j v hv => by
      rw [cell_blk (hw.blk hb1 id), Nat.zero_add]
      simpa using hv
    -- behind the first test
    have fin : ∀ (k : Bool) (ρ' : Sl), k = !(Ex.ok1 e) → ρ' 1 = .pointer (some ⟨w.heap.size, 0, none⟩) → ρ' 20 = .bool k → ∀ w', Mod none_ w1 w' →
        sx fn_ Tryd.prog 70 dispatcherref02_MayExpr_R1 (seqK (sx fn_ Tryd.prog 70 dispatcherref02_MayExpr_R2 (retK Tryd.prog [ResultVar.tmp 2] fun v w' => v = .bool e.may ∧ Mod none_ w w')) (retK Tryd.prog [ResultVar.tmp 2] fun v w' => v = .bool e.may ∧ Mod none_ w w')) ρ' w' := by
      intro k ρ' hk q1 q20 w2 hm2
      have hmm := hm1.trans hm2
      rw [dispatcherref02_MayExpr_R1_eq]
      unfold dispatcherref02_MayExpr_R1_F
      rw [q20]
      cases ho : Ex.ok1 e with
      | false =>
        rw [ho] at hk
        subst hk
        refine condT ?_
        exact ⟨by rw [hmay, ho]; rfl, hmm⟩
      | true =>
        rw [ho] at hk
        subst hk
        refine condF ?_
        rw [sq_n, dispatcherref02_MayExpr_R2_eq]
        unfold dispatcherref02_MayExpr_R2_F
        refine W_loop dispatcherref02_MayExpr_L3_ok (fun ρ w' => ∃ n : Nat, n ≤ e.args.length ∧ ρ 3 = .int .i64 n ∧ ρ 1 = .pointer (some ⟨w.heap.size, 0, none⟩) ∧ (∀ a ∈ e.args.take n, a.may = true) ∧ Mod none_ w1 w') (fun ρ _ => e.args.length - (intOf (ρ 3)).toNat)
          ⟨0, Nat.zero_le _, rfl, q1, by simp, hm2⟩ ?_
        rintro ρ w3 ⟨n, hn, h3, h1, hall, hm3⟩
        have hb3 := hm3.blk hb1 id
        have hmm3 := hm1.trans hm3
        rw [dispatcherref02_MayExpr_L3_eq]
        unfold dispatcherref02_MayExpr_L3_F
        simp only [h3, h1, fo25_0, fo25_1, fo40_0, fo40_1, fo60_0, fo60_1, fo60_2, fo60_3, fo62_0, fo62_1, fo62_2, fo62_3, fo62_4, fo62_5, fo62_6, fo62_7, ld2, ld3, ld5, ld9, ld22, ld23, ld58, len9, len22, len23, len52, len58, ldK_some, cellE, blkC_c, add_pl, Nat.zero_add, List.getElem?_toArray, List.getElem?_cons_succ, List.getElem?_cons_zero, Ex.c0, Ex.c1, Ex.c2, Ex.c3, Ex.c4, Ex.c5, St.c0, St.c1, St.c2, St.c3, St.c4, St.c5, St.c6, St.c7, St.c8, St.c9, hb3, hs, BK_lss]
        by_cases hlt : n < e.args.length
        · rw [show decide ((n : Int) < (e.args.length : Int)) = true by rw [decide_eq_true_eq]; omega]
          simp only [CondK_bool, MG_u, NG_u, VG_u, UG_u, PG_u, BG_u, CG_u, IG_u, MG_b, NG_b, VG_b, UG_b, PG_b, BG_b, CG_b, IG_b, PK_bool, NK_ptr, not_ok, reduceCtorEq, if_true, if_false, Bool.true_eq_false, Bool.false_eq_true, Bool.not_true, Bool.not_false]
          have hx : e.args[n]? = some e.args[n] := List.getElem?_eq_getElem hlt
          have hmem : e.args[n] ∈ e.args := List.getElem_mem hlt
          have hok2 := hok.args.mod hmm3
          rw [hs] at hok2
          refine ixEx hok2 hx fun y => ?_
          have hs2 := Ex.szL_at hx
          refine CK_st Tryd.func79 rfl rfl (ih _ hmem w3 (hok2.at hx) (by omega)) ?_
          rintro _ w4 ⟨rfl, hm4⟩
          rw [not_ok]
          cases hp : e.args[n].may with
          | false =>
            refine condT ?_
            refine ⟨?_, hmm3.trans hm4⟩
            have : Ex.mayL e.args = false := by
              rw [Ex.mayL_eq, Bool.eq_false_iff]
              intro q
              have := List.all_eq_true.1 q _ hmem
              rw [hp] at this; cases this
            rw [hmay, this]
            simp [sq_n, sq_x, sq_r, bk_n, bk_r, bk_x, rt_r, rt_n, rs_0, rs_t, pk_1, pk_2, up_at, reduceIte, Nat.reduceEqDiff]
          | true =>
            refine condF ?_
            rw [BK_add, wrap_i (by omega) (by omega)]
            refine ⟨⟨n + 1, hlt, rfl, h1, ?_, hm3.trans hm4⟩, ?_⟩
            · rw [List.take_add_one, hx, Option.toList_some]
              intro a q
              rcases List.mem_append.1 q with q | q
              · exact hall a q
              · rw [List.mem_singleton.1 q]; exact hp
            · simp only [sq_n, sq_x, sq_r, bk_n, bk_r, bk_x, rt_r, rt_n, rs_0, rs_t, pk_1, pk_2, up_at, reduceIte, Nat.reduceEqDiff, intOf]; omega
        · obtain rfl : n = e.args.length := by omega
          rw [show decide (((e.args.length : Nat) : Int) < (e.args.length : Int)) = false by simp]
          simp only [CondK_bool, MG_u, NG_u, VG_u, UG_u, PG_u, BG_u, CG_u, IG_u, MG_b, NG_b, VG_b, UG_b, PG_b, BG_b, CG_b, IG_b, PK_bool, NK_ptr, not_ok, reduceCtorEq, if_true, if_false, Bool.true_eq_false, Bool.false_eq_true, Bool.not_true, Bool.not_false, sq_n, sq_x, sq_r, bk_n, bk_r, bk_x, rt_r, rt_n, rs_0, rs_t, pk_1, pk_2, up_at, reduceIte, Nat.reduceEqDiff]
          have hL : Ex.mayL e.args = true := by
            rw [Ex.mayL_eq, List.all_eq_true]
            rw [List.take_length] at hall
            exact hall
          rw [ho, hL] at hmay
          rw [dispatcherref02_MayExpr_R4_eq]
          unfold dispatcherref02_MayExpr_R4_F
          simp only [sq_n, sq_x, sq_r, bk_n, bk_r, bk_x, rt_r, rt_n, rs_0, rs_t, pk_1, pk_2, up_at, reduceIte, Nat.reduceEqDiff, h1, fo25_0, fo25_1, fo40_0, fo40_1, fo60_0, fo60_1, fo60_2, fo60_3, fo62_0, fo62_1, fo62_2, fo62_3, fo62_4, fo62_5, fo62_6, fo62_7, ld2, ld3, ld5, ld9, ld22, ld23, ld58, len9, len22, len23, len52, len58, ldK_some, cellE, blkC_c, add_pl, Nat.zero_add, List.getElem?_toArray, List.getElem?_cons_succ, List.getElem?_cons_zero, Ex.c0, Ex.c1, Ex.c2, Ex.c3, Ex.c4, Ex.c5, St.c0, St.c1, St.c2, St.c3, St.c4, St.c5, St.c6, St.c7, St.c8, St.c9, hb3]
          refine caseI (fun hp => condT ?_) (fun hp => condF ?_)
          · rw [if_pos hp] at hmay
            simp only [fo25_0, fo25_1, fo40_0, fo40_1, fo60_0, fo60_1, fo60_2, fo60_3, fo62_0, fo62_1, fo62_2, fo62_3, fo62_4, fo62_5, fo62_6, fo62_7, ld2, ld3, ld5, ld9, ld22, ld23, ld58, len9, len22, len23, len52, len58, ldK_some, cellE, blkC_c, add_pl, Nat.zero_add, List.getElem?_toArray, List.getElem?_cons_succ, List.getElem?_cons_zero, Ex.c0, Ex.c1, Ex.c2, Ex.c3, Ex.c4, Ex.c5, St.c0, St.c1, St.c2, St.c3, St.c4, St.c5, St.c6, St.c7, St.c8, St.c9, hb3, BK_geq]
            cases k1 : decide (0 ≤ e.num) with
            | false =>
              rw [k1] at hmay
              simp only [CondK_bool, MG_u, NG_u, VG_u, UG_u, PG_u, BG_u, CG_u, IG_u, MG_b, NG_b, VG_b, UG_b, PG_b, BG_b, CG_b, IG_b, PK_bool, NK_ptr, not_ok, reduceCtorEq, if_true, if_false, Bool.true_eq_false, Bool.false_eq_true, Bool.not_true, Bool.not_false]
              exact ⟨by rw [hmay]; rfl, hmm3⟩
            | true =>
              rw [k1] at hmay
              simp only [CondK_bool, MG_u, NG_u, VG_u, UG_u, PG_u, BG_u, CG_u, IG_u, MG_b, NG_b, VG_b, UG_b, PG_b, BG_b, CG_b, IG_b, PK_bool, NK_ptr, not_ok, reduceCtorEq, if_true, if_false, Bool.true_eq_false, Bool.false_eq_true, Bool.not_true, Bool.not_false, fo25_0, fo25_1, fo40_0, fo40_1, fo60_0, fo60_1, fo60_2, fo60_3, fo62_0, fo62_1, fo62_2, fo62_3, fo62_4, fo62_5, fo62_6, fo62_7, ld2, ld3, ld5, ld9, ld22, ld23, ld58, len9, len22, len23, len52, len58, ldK_some, cellE, blkC_c, add_pl, Nat.zero_add, List.getElem?_toArray, List.getElem?_cons_succ, List.getElem?_cons_zero, Ex.c0, Ex.c1, Ex.c2, Ex.c3, Ex.c4, Ex.c5, St.c0, St.c1, St.c2, St.c3, St.c4, St.c5, St.c6, St.c7, St.c8, St.c9, hb3, BK_lss]
              cases k2 : decide (e.num < 1000000000000000000) with
              | false =>
                rw [k2] at hmay
                simp only [CondK_bool, MG_u, NG_u, VG_u, UG_u, PG_u, BG_u, CG_u, IG_u, MG_b, NG_b, VG_b, UG_b, PG_b, BG_b, CG_b, IG_b, PK_bool, NK_ptr, not_ok, reduceCtorEq, if_true, if_false, Bool.true_eq_false, Bool.false_eq_true, Bool.not_true, Bool.not_false]
                exact ⟨by rw [hmay]; rfl, hmm3⟩
              | true =>
                rw [k2] at hmay
                simp only [CondK_bool, MG_u, NG_u, VG_u, UG_u, PG_u, BG_u, CG_u, IG_u, MG_b, NG_b, VG_b, UG_b, PG_b, BG_b, CG_b, IG_b, PK_bool, NK_ptr, not_ok, reduceCtorEq, if_true, if_false, Bool.true_eq_false, Bool.false_eq_true, Bool.not_true, Bool.not_false, fo25_0, fo25_1, fo40_0, fo40_1, fo60_0, fo60_1, fo60_2, fo60_3, fo62_0, fo62_1, fo62_2, fo62_3, fo62_4, fo62_5, fo62_6, fo62_7, ld2, ld3, ld5, ld9, ld22, ld23, ld58, len9, len22, len23, len52, len58, ldK_some, cellE, blkC_c, add_pl, Nat.zero_add, List.getElem?_toArray, List.getElem?_cons_succ, List.getElem?_cons_zero, Ex.c0, Ex.c1, Ex.c2, Ex.c3, Ex.c4, Ex.c5, St.c0, St.c1, St.c2, St.c3, St.c4, St.c5, St.c6, St.c7, St.c8, St.c9, hb3, BK_eqlS, ByteArray.toList_eq]
                rw [empty_iff]
                exact ⟨by rw [hmay]; cases decide (e.name.size = 0) <;> rfl, hmm3⟩
          · rw [if_neg hp] at hmay
            simp only [fo25_0, fo25_1, fo40_0, fo40_1, fo60_0, fo60_1, fo60_2, fo60_3, fo62_0, fo62_1, fo62_2, fo62_3, fo62_4, fo62_5, fo62_6, fo62_7, ld2, ld3, ld5, ld9, ld22, ld23, ld58, len9, len22, len23, len52, len58, ldK_some, cellE, blkC_c, add_pl, Nat.zero_add, List.getElem?_toArray, List.getElem?_cons_succ, List.getElem?_cons_zero, Ex.c0, Ex.c1, Ex.c2, Ex.c3, Ex.c4, Ex.c5, St.c0, St.c1, St.c2, St.c3, St.c4, St.c5, St.c6, St.c7, St.c8, St.c9, hb3, BK_neq]
            by_cases k0 : e.num = 0
            · rw [decide_eq_true k0] at hmay
              rw [show (e.num != 0) = false by rw [k0]; rfl]
              simp only [CondK_bool, MG_u, NG_u, VG_u, UG_u, PG_u, BG_u, CG_u, IG_u, MG_b, NG_b, VG_b, UG_b, PG_b, BG_b, CG_b, IG_b, PK_bool, NK_ptr, not_ok, reduceCtorEq, if_true, if_false, Bool.true_eq_false, Bool.false_eq_true, Bool.not_true, Bool.not_false, fo25_0, fo25_1, fo40_0, fo40_1, fo60_0, fo60_1, fo60_2, fo60_3, fo62_0, fo62_1, fo62_2, fo62_3, fo62_4, fo62_5, fo62_6, fo62_7, ld2, ld3, ld5, ld9, ld22, ld23, ld58, len9, len22, len23, len52, len58, ldK_some, cellE, blkC_c, add_pl, Nat.zero_add, List.getElem?_toArray, List.getElem?_cons_succ, List.getElem?_cons_zero, Ex.c0, Ex.c1, Ex.c2, Ex.c3, Ex.c4, Ex.c5, St.c0, St.c1, St.c2, St.c3, St.c4, St.c5, St.c6, St.c7, St.c8, St.c9, hb3]
              have go : ∀ (ρ' : Sl) (t : Bool), ρ' 1 = .pointer (some ⟨w.heap.size, 0, none⟩) → ρ' 56 = .bool t → ρ' 55 = .int .u8 e.op → t = decide (e.op = 2 ∨ e.op = 3) →
                  sx fn_ Tryd.prog 70 dispatcherref02_MayExpr_R5 (blkK 2 (seqK (sx fn_ Tryd.prog 70 dispatcherref02_MayExpr_R6 (retK Tryd.prog [ResultVar.tmp 2] fun v w' => v = .bool e.may ∧ Mod none_ w w')) (retK Tryd.prog [ResultVar.tmp 2] fun v w' => v = .bool e.may ∧ Mod none_ w w'))) ρ' w3 := by
                intro ρ' t q1 q56 q55 ht
                rw [dispatcherref02_MayExpr_R5_eq]
                unfold dispatcherref02_MayExpr_R5_F
                rw [q56, q55, q1]
                subst ht
                refine caseC (fun h2 => ?_) (fun h2 => ?_)
                · rw [decide_eq_true_eq] at h2
                  rw [if_pos h2] at hmay
                  simp only [fo25_0, fo25_1, fo40_0, fo40_1, fo60_0, fo60_1, fo60_2, fo60_3, fo62_0, fo62_1, fo62_2, fo62_3, fo62_4, fo62_5, fo62_6, fo62_7, ld2, ld3, ld5, ld9, ld22, ld23, ld58, len9, len22, len23, len52, len58, ldK_some, cellE, blkC_c, add_pl, Nat.zero_add, List.getElem?_toArray, List.getElem?_cons_succ, List.getElem?_cons_zero, Ex.c0, Ex.c1, Ex.c2, Ex.c3, Ex.c4, Ex.c5, St.c0, St.c1, St.c2, St.c3, St.c4, St.c5, St.c6, St.c7, St.c8, St.c9, hb3]
                  refine CK_st Tryd.func20 rfl rfl (NameR_ok w3 e.name hok.fine.2.2.1) ?_
                  rintro _ w4 ⟨rfl, hm4⟩
                  exact ⟨by rw [hmay]; cases nameP e.name <;> rfl, hmm3.trans hm4⟩
                · rw [decide_eq_false_iff_not] at h2
                  rw [if_neg h2] at hmay
                  refine caseI (fun h5 => condT ?_) (fun h5 => condF ?_)
                  · rw [if_pos h5] at hmay
                    simp only [fo25_0, fo25_1, fo40_0, fo40_1, fo60_0, fo60_1, fo60_2, fo60_3, fo62_0, fo62_1, fo62_2, fo62_3, fo62_4, fo62_5, fo62_6, fo62_7, ld2, ld3, ld5, ld9, ld22, ld23, ld58, len9, len22, len23, len52, len58, ldK_some, cellE, blkC_c, add_pl, Nat.zero_add, List.getElem?_toArray, List.getElem?_cons_succ, List.getElem?_cons_zero, Ex.c0, Ex.c1, Ex.c2, Ex.c3, Ex.c4, Ex.c5, St.c0, St.c1, St.c2, St.c3, St.c4, St.c5, St.c6, St.c7, St.c8, St.c9, hb3]
                    refine CK_st Tryd.func101 rfl rfl (PlainR_ok e.name w3) ?_
                    rintro _ w4 ⟨rfl, rfl⟩
                    exact ⟨by rw [hmay]; cases plainP e.name <;> rfl, hmm3⟩
                  · rw [if_neg h5] at hmay
                    rw [bk_n, sq_n, dispatcherref02_MayExpr_R6_eq]
                    unfold dispatcherref02_MayExpr_R6_F
                    have q1' : ∀ a b : Value, (up (up ρ' 63 a) 62 b) 1 = .pointer (some ⟨w.heap.size, 0, none⟩) := fun a b => q1
                    rw [q1']
                    simp only [fo25_0, fo25_1, fo40_0, fo40_1, fo60_0, fo60_1, fo60_2, fo60_3, fo62_0, fo62_1, fo62_2, fo62_3, fo62_4, fo62_5, fo62_6, fo62_7, ld2, ld3, ld5, ld9, ld22, ld23, ld58, len9, len22, len23, len52, len58, ldK_some, cellE, blkC_c, add_pl, Nat.zero_add, List.getElem?_toArray, List.getElem?_cons_succ, List.getElem?_cons_zero, Ex.c0, Ex.c1, Ex.c2, Ex.c3, Ex.c4, Ex.c5, St.c0, St.c1, St.c2, St.c3, St.c4, St.c5, St.c6, St.c7, St.c8, St.c9, hb3, BK_eqlS, ByteArray.toList_eq]
                    rw [empty_iff]
                    exact ⟨by rw [hmay]; cases decide (e.name.size = 0) <;> rfl, hmm3⟩
              refine caseI (fun h2 => condT ?_) (fun h2 => condF ?_)
              · refine go _ true ?_ ?_ ?_ (by rw [decide_eq_true (Or.inl h2)])
                · exact h1
                · rfl
                · rfl
              · rw [BK_eql]
                refine go _ (e.op == 3) ?_ ?_ ?_ ?_
                · exact h1
                · rfl
                · rfl
                · by_cases h3 : e.op = 3
                  · rw [decide_eq_true (Or.inr h3), h3]; rfl
                  · rw [decide_eq_false (by omega), beq_eq_false_iff_ne]; exact h3
            · rw [decide_eq_false k0] at hmay
              rw [show (e.num != 0) = true by simpa using k0]
              simp only [CondK_bool, MG_u, NG_u, VG_u, UG_u, PG_u, BG_u, CG_u, IG_u, MG_b, NG_b, VG_b, UG_b, PG_b, BG_b, CG_b, IG_b, PK_bool, NK_ptr, not_ok, reduceCtorEq, if_true, if_false, Bool.true_eq_false, Bool.false_eq_true, Bool.not_true, Bool.not_false]
              exact ⟨by rw [hmay]; rfl, hmm3⟩
    refine Qfo (off := 0) (a := ⟨w.heap.size, 0, none⟩) (by kernel_rfl) (Qld uU8 rfl (v := .int .u8 e.op) (fun w' hw => by rw [add_pl]; exact cell w' hw 0 _ rfl) (Qlss ?_))
    by_cases h1 : e.op < 1
    · rw [decide_eq_true h1]
      simp only [QG_b, Bool.true_eq_false, if_false]
      refine QP_of ?_
      simp only [if_true, QG_b, Bool.true_eq_false, if_false]
      refine QP_of ?_
      simp only [if_true]
      intro w3 hm3
      refine fin true _ (by unfold Ex.ok1; rw [show decide (1 ≤ e.op) = false from decide_eq_false (by omega)]; rfl) ?_ ?_ w3 hm3 <;> rfl
    · rw [decide_eq_false h1]
      simp only [QG_b, if_true]
      refine Qfo (off := 0) (a := ⟨w.heap.size, 0, none⟩) (by kernel_rfl) (Qld uU8 rfl (v := .int .u8 e.op) (fun w' hw => by rw [add_pl]; exact cell w' hw 0 _ rfl) (Qgtr (QP_of ?_)))
      simp only [Bool.false_eq_true, if_false]
      by_cases h20 : 20 < e.op
      · rw [decide_eq_true h20]
        simp only [QG_b, Bool.true_eq_false, if_false]
        refine QP_of ?_
        simp only [if_true]
        intro w3 hm3
        refine fin true _ (by unfold Ex.ok1; rw [show decide (e.op ≤ 20) = false from decide_eq_false (by omega)]; simp) ?_ ?_ w3 hm3 <;> rfl
      · rw [decide_eq_false h20]
        simp only [QG_b, if_true]
        refine Qfo (off := 3) (a := ⟨w.heap.size, 0, none⟩) (by kernel_rfl) (Qld uExs rfl (v := .slice A e.args.length c) (fun w' hw => by rw [add_pl]; exact cell w' hw 3 _ (by rw [← hs]; rfl)) (QI_len uExs _ _ _ _ ?_))
        refine Qfo (off := 0) (a := ⟨w.heap.size, 0, none⟩) (by kernel_rfl) (Qld uU8 rfl (v := .int .u8 e.op) (fun w' hw => by rw [add_pl]; exact cell w' hw 0 _ rfl) ?_)
        refine QC_rt Tryd.func100 rfl rfl (v := .int .i64 (sidesP e.op)) (fun w' hw => SidesR_ok e.op w') (fun w' u w'' hw hu => ⟨hu.1, by rw [hu.2]; exact hw⟩) (Qneq (QP_of ?_))
        simp only [Bool.false_eq_true, if_false]
        intro w3 hm3
        refine fin ((e.args.length : Int) != (sidesP e.op : Int)) _ ?_ ?_ ?_ w3 hm3
        · unfold Ex.ok1
          rw [show decide (1 ≤ e.op) = true from decide_eq_true (by omega), show decide (e.op ≤ 20) = true from decide_eq_true (by omega)]
          by_cases q : e.args.length = sidesP e.op
          · rw [decide_eq_true q, q]; simp
          · rw [decide_eq_false q, bne, beq_eq_false_iff_ne.2 (by omega)]; rfl
        · rfl
        · rfl
theorem QixEx {C : World → Prop} {s : Value} {l : List Ex} {i : Nat} {e : Ex} {K : Value → Prop} {w0 : World} (hw0 : C w0) (h : ∀ w, C w → ExsOk w s l) (hi : l[i]? = some e) (hk : ∀ a, (∀ w, C w → ∀ j u, e.cells[j]? = some u → w.cell? (a.add j) = some u) → K (.pointer (some a))) :
    QK Tryd.prog C (do pure (Next.value (← Instr.indexAt 58 s (.int .i64 (i : Int))))) K := by
  have hlt : i < l.length := (List.getElem?_eq_some_iff.1 hi).1
  obtain ⟨hl, A, c, hs, hc, hr⟩ := (h w0 hw0).1
  obtain ⟨a, ha | q⟩ := rd_cell (size := 6) (hs ▸ (h w0 hw0).1) hlt
  · subst ha
    subst hs
    refine QV_of (fun w _ => run_ixa uExs cEx (by omega) (by omega) w) (hk _ fun w hw j u hu => ?_)
    obtain ⟨_, A', c', hs', _, hr'⟩ := (h w hw).1
    cases hs'
    have hj : j < 5 + 1 := (List.getElem?_eq_some_iff.1 hu).1
    obtain ⟨a', ha', hcell⟩ := hr' (i * 6 + j) u (by rw [fl_get (k := 5 + 1) Ex.cells_len hi hj]; exact hu)
    cases ha'
    rw [add_add, show ((i : Int).toNat) = i by omega]
    exact hcell
  · omega
def ManyOk (e : Ex) : Prop := ∀ w, e.Ok w → e.sz ≤ 1099511627776 → Rt Tryd.prog 55 #[e.s] w fun v w' => v = .int .i64 (Ex.manyL e.args) ∧ Mod none_ w w'
theorem many_row {l : List Ex} (ih : ∀ a ∈ l, ManyOk a) (w : World) (s : Value) (hok : ExsOk w s l) (hsz : Ex.szL l ≤ 1099511627776) : Rt Tryd.prog 55 #[s] w fun v w' => v = .int .i64 (Ex.manyL l) ∧ Mod none_ w w' := by
  obtain ⟨A, c, hs, _⟩ := reads_cap hok.1
  have hlen := Ex.len_sz l
  refine dispatcherref02_ManyExprs_calls ?_
  unfold dispatcherref02_ManyExprs_F
  refine W_loop dispatcherref02_ManyExprs_L0_ok (fun ρ w' => ∃ (n : Nat), n ≤ l.length ∧ ρ 4 = .int .i64 n ∧ ρ 3 = .int .i64 (Ex.manyL (l.take n)) ∧ ρ 0 = s ∧ Mod none_ w w') (fun ρ _ => l.length - (intOf (ρ 4)).toNat)
    ⟨0, Nat.zero_le _, rfl, rfl, rfl, Mod.refl _ _⟩ ?_
  rintro ρ w1 ⟨n, hn, h4, h3, h0, hm⟩
  rw [dispatcherref02_ManyExprs_L0_eq]
  unfold dispatcherref02_ManyExprs_L0_F
  simp only [h4, h0, hs, fo25_0, fo25_1, fo40_0, fo40_1, fo60_0, fo60_1, fo60_2, fo60_3, fo62_0, fo62_1, fo62_2, fo62_3, fo62_4, fo62_5, fo62_6, fo62_7, ld2, ld3, ld5, ld9, ld22, ld23, ld58, len9, len22, len23, len52, len58, ldK_some, cellE, blkC_c, add_pl, Nat.zero_add, List.getElem?_toArray, List.getElem?_cons_succ, List.getElem?_cons_zero, BK_lss]
  by_cases hlt : n < l.length
  · rw [show decide ((n : Int) < (l.length : Int)) = true by rw [decide_eq_true_eq]; omega]
    refine condT ?_
    have hx : l[n]? = some l[n] := List.getElem?_eq_getElem hlt
    have hmem : l[n] ∈ l := List.getElem_mem hlt
    have hs2 := Ex.szL_at hx
    have hokC : ∀ w', Mod none_ w1 w' → ExsOk w' (.slice A l.length c) l := fun w' hw => by rw [← hs]; exact (hok.mod hm).mod hw
    refine dispatcherref02_ManyExprs_R2_quiet (D := []) (fun w' => Mod none_ w1 w') ((Mod.refl _ w1).drawn _) ?_
    unfold dispatcherref02_ManyExprs_R2_Q
    have e3 : ∀ a b d f : Value, (up (up (up (up ρ 5 a) 6 b) 7 d) 8 f) 3 = .int .i64 (Ex.manyL (l.take n)) := fun _ _ _ _ => h3
    have e0 : ∀ a b d f : Value, (up (up (up (up ρ 5 a) 6 b) 7 d) 8 f) 0 = .slice A l.length c := fun _ _ _ _ => h0.trans hs
    have e4 : ∀ a b d f : Value, (up (up (up (up ρ 5 a) 6 b) 7 d) 8 f) 4 = .int .i64 n := fun _ _ _ _ => h4
    simp only [e3, e0, e4]
    have ht := Ex.manyL_sz (l.take n)
    have hb := Ex.many_sz l[n]
    have hbe := Ex.many_eq l[n]
    refine Qadd (QixEx (w0 := w1) (Mod.refl _ w1) hokC hx fun a ha => ?_)
    refine Qfo (off := 2) (by kernel_rfl) (Qld uS rfl (v := .string l[n].name) (fun w' hw => ha w' hw 2 _ rfl) (Qlen_s uS _ _ (Qmin (Qadd ?_))))
    refine QixEx (w0 := w1) (Mod.refl _ w1) hokC hx fun a2 ha2 => ?_
    refine Qfo (off := 3) (by kernel_rfl) (Qld uExs rfl (v := l[n].s) (fun w' hw => ha2 w' hw 3 _ rfl) ?_)
    refine QC_rt Tryd.func55 rfl rfl (v := .int .i64 (Ex.manyL l[n].args)) (fun w' hw => ih _ hmem w' ((hokC w' hw).at hx) (by omega)) (fun w' u w'' hw hu => ⟨hu.1, hw.trans hu.2⟩) (Qadd ?_)
    intro w2 hm2
    rw [wrap_i (n := (Ex.manyL (l.take n) : Int) + 1) (by omega) (by omega)]
    rw [wrap_i (n := (Ex.manyL (l.take n) : Int) + 1 + (if (30000 : Int) < (l[n].name.size : Int) then 30000 else (l[n].name.size : Int))) (by split <;> omega) (by split <;> omega)]
    rw [wrap_i (n := (Ex.manyL (l.take n) : Int) + 1 + (if (30000 : Int) < (l[n].name.size : Int) then 30000 else (l[n].name.size : Int)) + (Ex.manyL l[n].args : Int)) (by split <;> omega) (by split <;> omega)]
    rw [bk_n, sq_n, dispatcherref02_ManyExprs_R3_eq]
    unfold dispatcherref02_ManyExprs_R3_F
    simp only [sq_n, sq_x, sq_r, bk_n, bk_r, bk_x, rt_r, rt_n, rs_0, rs_t, pk_1, pk_2, up_at, reduceIte, Nat.reduceEqDiff, h4]
    rw [BK_add, wrap_i (n := (n : Int) + 1) (by omega) (by omega)]
    refine ⟨⟨n + 1, hlt, rfl, ?_, h0.trans hs, hm.trans hm2⟩, ?_⟩
    · rw [List.take_add_one, hx, Option.toList_some, Ex.manyL_snoc]
      congr 1
      split <;> omega
    · simp only [intOf]; omega
  · obtain rfl : n = l.length := by omega
    rw [show decide (((l.length : Nat) : Int) < (l.length : Int)) = false by simp]
    refine condF ?_
    rw [sq_x, bk_x, sq_n, dispatcherref02_ManyExprs_R1_eq]
    unfold dispatcherref02_ManyExprs_R1_F
    rw [List.take_length] at h3
    exact ⟨h3, hm⟩
theorem many_ok : ∀ e : Ex, ManyOk e := by
  intro e
  induction e using Ex.ind with
  | h e ih => exact fun w hok hsz => many_row ih w e.s hok.args (by rw [Ex.sz_eq] at hsz; omega)
theorem ManyExprs_ok {l : List Ex} (w : World) (s : Value) (hok : ExsOk w s l) (hsz : Ex.szL l ≤ 1099511627776) : Rt Tryd.prog 55 #[s] w fun v w' => v = .int .i64 (Ex.manyL l) ∧ Mod none_ w w' :=
  many_row (fun a _ => many_ok a) w s hok hsz
end Go.Proofs.YtbnbcimjapiicaaDoor.Tr
