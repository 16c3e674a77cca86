/- Names, words, arguments' numbers. -/
import Derived.Test.YtbnbcimjapiicaaDoorE
set_option linter.unusedVariables false
set_option linter.unusedSimpArgs false
set_option maxRecDepth 4000
namespace Go.Proofs.YtbnbcimjapiicaaDoor.Tr
open Go Go.X Go.RowKit Go.Proofs.YtbnbcimjapiicaaDoor.XF Go.Proofs.YtbnbcimjapiicaaDoor.XK

theorem head_at (b : ByteArray) (h : 0 < b.size) : b.data.toList.head? = some (b[0]'h) := by
  rw [List.head?_eq_getElem?, List.getElem?_eq_getElem (by simpa using h), Array.getElem_toList]
  rfl
theorem empty_iff (b : ByteArray) : (b.data.toList == (⟨#[]⟩ : ByteArray).data.toList) = decide (b.size = 0) := by
  by_cases h : b.size = 0
  · have : b.data.toList = [] := List.length_eq_zero_iff.1 (by simpa using h)
    rw [this]; simp [h]
  · have : b.data.toList ≠ [] := fun q => h (by have := congrArg List.length q; simpa using this)
    show (b.data.toList == []) = _
    rw [beq_eq_false_iff_ne.2 this, decide_eq_false h]
theorem Name_ok {w : World} (hg : Gl w) (b : ByteArray) (hb : b.size ≤ maxLen) : Rt Tryd.prog 50 #[.string b] w fun v w' => v = .bool (nameP b) ∧ Mod none_ w w' := by
  refine scan_Name_calls ?_
  unfold scan_Name_F
  rw [BK_neqS, ByteArray.toList_eq, ByteArray.toList_eq, empty_iff]
  by_cases h0 : b.size = 0
  · rw [decide_eq_true h0]
    simp only [CondK_bool, MG_u, NG_u, VG_u, UG_u, PG_u, BG_u, CG_u, IG_u, MG_b, NG_b, VG_b, UG_b, PG_b, BG_b, CG_b, IG_b, PK_bool, NK_ptr, not_ok, reduceCtorEq, if_true, if_false, Bool.true_eq_false, Bool.false_eq_true, Bool.not_true, Bool.not_false]
    refine ⟨?_, Mod.refl _ _⟩
    unfold nameP
    rw [show decide (1 ≤ b.size) = false from decide_eq_false (by omega)]
    rfl
  rw [decide_eq_false h0]
  have hpos : 0 < b.size := by omega
  simp only [CondK_bool, MG_u, NG_u, VG_u, UG_u, PG_u, BG_u, CG_u, IG_u, MG_b, NG_b, VG_b, UG_b, PG_b, BG_b, CG_b, IG_b, PK_bool, NK_ptr, not_ok, reduceCtorEq, if_true, if_false, Bool.true_eq_false, Bool.false_eq_true, Bool.not_true, Bool.not_false]
  refine CK_st Tryd.func67 rfl rfl (length_ok b hb w) ?_
  rintro _ w1 ⟨⟨r, rfl, hr⟩, hm⟩
  simp only [fo25_0, fo25_1, fo40_0, fo40_1, fo60_0, fo60_1, fo60_2, fo60_3, fo62_0, fo62_1, fo62_2, fo62_3, fo62_4, fo62_5, fo62_6, fo62_7, ld2, ld3, ld5, ld9, ld22, ld23, ld58, len9, len22, len23, len52, len58, ldK_some, cellE, blkC_c, add_pl, Nat.zero_add, List.getElem?_toArray, List.getElem?_cons_succ, List.getElem?_cons_zero, BK_eql]
  have n1 : decide (1 ≤ b.size) = true := decide_eq_true (by omega)
  by_cases hall : b.data.toList.all alnumP = true
  · have e := hr.2 hall
    subst e
    rw [beq_self_eq_true]
    simp only [CondK_bool, MG_u, NG_u, VG_u, UG_u, PG_u, BG_u, CG_u, IG_u, MG_b, NG_b, VG_b, UG_b, PG_b, BG_b, CG_b, IG_b, PK_bool, NK_ptr, not_ok, reduceCtorEq, if_true, if_false, Bool.true_eq_false, Bool.false_eq_true, Bool.not_true, Bool.not_false]
    refine idxS_ok b w1 hpos (conv_ok _ w1 ?_)
    refine CK_st Tryd.func69 rfl rfl (letter_ok _ w1) ?_
    rintro _ w1 ⟨rfl, rfl⟩
    rw [letter_nat]
    cases hl : letterP (b[0]'hpos) with
    | false =>
      simp only [CondK_bool, MG_u, NG_u, VG_u, UG_u, PG_u, BG_u, CG_u, IG_u, MG_b, NG_b, VG_b, UG_b, PG_b, BG_b, CG_b, IG_b, PK_bool, NK_ptr, not_ok, reduceCtorEq, if_true, if_false, Bool.true_eq_false, Bool.false_eq_true, Bool.not_true, Bool.not_false]
      refine ⟨?_, hm⟩
      unfold nameP
      rw [head_at b hpos, Option.any_some, hl]
      simp
    | true =>
      simp only [fo25_0, fo25_1, fo40_0, fo40_1, fo60_0, fo60_1, fo60_2, fo60_3, fo62_0, fo62_1, fo62_2, fo62_3, fo62_4, fo62_5, fo62_6, fo62_7, ld2, ld3, ld5, ld9, ld22, ld23, ld58, len9, len22, len23, len52, len58, ldK_some, cellE, blkC_c, add_pl, Nat.zero_add, List.getElem?_toArray, List.getElem?_cons_succ, List.getElem?_cons_zero, CondK_bool, MG_u, NG_u, VG_u, UG_u, PG_u, BG_u, CG_u, IG_u, MG_b, NG_b, VG_b, UG_b, PG_b, BG_b, CG_b, IG_b, PK_bool, NK_ptr, not_ok, reduceCtorEq, if_true, if_false, Bool.true_eq_false, Bool.false_eq_true, Bool.not_true, Bool.not_false, BK_leq]
      by_cases h12 : b.size ≤ 12
      · rw [show decide ((b.size : Int) ≤ 12) = true by simp; omega]
        simp only [CondK_bool, MG_u, NG_u, VG_u, UG_u, PG_u, BG_u, CG_u, IG_u, MG_b, NG_b, VG_b, UG_b, PG_b, BG_b, CG_b, IG_b, PK_bool, NK_ptr, not_ok, reduceCtorEq, if_true, if_false, Bool.true_eq_false, Bool.false_eq_true, Bool.not_true, Bool.not_false]
        refine CK_st Tryd.func70 rfl rfl (Word_ok (hg.mod hm) b) ?_
        rintro _ w1 ⟨rfl, rfl⟩
        simp only [CondK_bool, MG_u, NG_u, VG_u, UG_u, PG_u, BG_u, CG_u, IG_u, MG_b, NG_b, VG_b, UG_b, PG_b, BG_b, CG_b, IG_b, PK_bool, NK_ptr, not_ok, reduceCtorEq, if_true, if_false, Bool.true_eq_false, Bool.false_eq_true, Bool.not_true, Bool.not_false]
        refine ⟨?_, hm⟩
        unfold nameP
        rw [head_at b hpos, Option.any_some, hl, hall, n1, decide_eq_true h12]
        simp
      · rw [show decide ((b.size : Int) ≤ 12) = false by simp; omega]
        simp only [CondK_bool, MG_u, NG_u, VG_u, UG_u, PG_u, BG_u, CG_u, IG_u, MG_b, NG_b, VG_b, UG_b, PG_b, BG_b, CG_b, IG_b, PK_bool, NK_ptr, not_ok, reduceCtorEq, if_true, if_false, Bool.true_eq_false, Bool.false_eq_true, Bool.not_true, Bool.not_false]
        refine ⟨?_, hm⟩
        unfold nameP
        rw [decide_eq_false h12]
        simp
  · have e : ¬ r = b.size := fun q => hall (hr.1 q)
    rw [show ((r : Int) == (b.size : Int)) = false by rw [beq_eq_false_iff_ne]; omega]
    simp only [CondK_bool, MG_u, NG_u, VG_u, UG_u, PG_u, BG_u, CG_u, IG_u, MG_b, NG_b, VG_b, UG_b, PG_b, BG_b, CG_b, IG_b, PK_bool, NK_ptr, not_ok, reduceCtorEq, if_true, if_false, Bool.true_eq_false, Bool.false_eq_true, Bool.not_true, Bool.not_false]
    refine ⟨?_, hm⟩
    unfold nameP
    rw [Bool.eq_false_iff.2 hall]
    simp
theorem wordsB : builtRow Tryd.prog 52 43 [(0, txt wordsL[0]), (1, txt wordsL[1]), (2, txt wordsL[2]), (3, txt wordsL[3]), (4, txt wordsL[4]), (5, txt wordsL[5]), (6, txt wordsL[6]), (7, txt wordsL[7]), (8, txt wordsL[8]), (9, txt wordsL[9]), (10, txt wordsL[10]), (11, txt wordsL[11]), (12, txt wordsL[12]), (13, txt wordsL[13]), (14, txt wordsL[14]), (15, txt wordsL[15]), (16, txt wordsL[16]), (17, txt wordsL[17]), (18, txt wordsL[18]), (19, txt wordsL[19]), (20, txt wordsL[20]), (21, txt wordsL[21]), (22, txt wordsL[22]), (23, txt wordsL[23]), (24, txt wordsL[24]), (25, txt wordsL[25]), (26, txt wordsL[26]), (27, txt wordsL[27]), (28, txt wordsL[28]), (29, txt wordsL[29]), (30, txt wordsL[30]), (31, txt wordsL[31]), (32, txt wordsL[32]), (33, txt wordsL[33]), (34, txt wordsL[34]), (35, txt wordsL[35]), (36, txt wordsL[36]), (37, txt wordsL[37]), (38, txt wordsL[38]), (39, txt wordsL[39]), (40, txt wordsL[40]), (41, txt wordsL[41]), (42, txt wordsL[42])] = some (wordsL.map txt).toArray := by kernel_rfl
theorem Words_ok (w : World) : Rt Tryd.prog 66 #[] w fun v w' => reads w' 1 v wordsL.length (wordsL.map txt) ∧ Mod none_ w w' := by
  refine dispatcherref01_Words_calls ?_
  unfold dispatcherref01_Words_F
  refine bs_k wordsB fun w1 hb hm _ => ?_
  exact ⟨reads_blk (size := 1) (n := 43) hb rfl, hm⟩
theorem WordR_ok (w : World) (b : ByteArray) : Rt Tryd.prog 44 #[.string b] w fun v w' => v = .bool (wordsL.contains b.data.toList) ∧ Mod none_ w w' := by
  refine dispatcherref01_Word_calls ?_
  unfold dispatcherref01_Word_F
  refine CK_st Tryd.func66 rfl rfl (Words_ok w) ?_
  rintro s w1 ⟨hr, hm1⟩
  obtain ⟨A, c, rfl, _⟩ := reads_cap hr
  have hlen : wordsL.length = 43 := by decide
  refine W_loop dispatcherref01_Word_L0_ok (fun ρ w' => ∃ n : Nat, n ≤ wordsL.length ∧ ρ 4 = .int .i64 n ∧ ρ 3 = .slice A wordsL.length c ∧ ρ 0 = .string b ∧ b.data.toList ∉ wordsL.take n ∧ w' = w1) (fun ρ _ => wordsL.length - (intOf (ρ 4)).toNat)
    ⟨0, Nat.zero_le _, rfl, rfl, rfl, by simp, rfl⟩ ?_
  rintro ρ w1 ⟨n, hn, h4, h3, h0, hno, rfl⟩
  rw [dispatcherref01_Word_L0_eq]
  unfold dispatcherref01_Word_L0_F
  simp only [h4, h3, h0, fo25_0, fo25_1, fo40_0, fo40_1, fo60_0, fo60_1, fo60_2, fo60_3, fo62_0, fo62_1, fo62_2, fo62_3, fo62_4, fo62_5, fo62_6, fo62_7, ld2, ld3, ld5, ld9, ld22, ld23, ld58, len9, len22, len23, len52, len58, ldK_some, cellE, blkC_c, add_pl, Nat.zero_add, List.getElem?_toArray, List.getElem?_cons_succ, List.getElem?_cons_zero, BK_lss]
  by_cases hlt : n < wordsL.length
  · rw [show decide ((n : Int) < (wordsL.length : Int)) = true by rw [decide_eq_true_eq]; omega]
    simp only [CondK_bool, MG_u, NG_u, VG_u, UG_u, PG_u, BG_u, CG_u, IG_u, MG_b, NG_b, VG_b, UG_b, PG_b, BG_b, CG_b, IG_b, PK_bool, NK_ptr, not_ok, reduceCtorEq, if_true, if_false, Bool.true_eq_false, Bool.false_eq_true, Bool.not_true, Bool.not_false]
    have hx : wordsL[n]? = some wordsL[n] := List.getElem?_eq_getElem hlt
    refine ixld uSs cS uS rfl hr (by omega) (u := txt wordsL[n]) (by rw [show ((n : Int).toNat) = n by omega, List.getElem?_map, hx]; rfl) fun y => ?_
    unfold txt
    refine caseS (fun he => condT ?_) (fun he => condF ?_)
    · refine ⟨?_, hm1⟩
      have : b.data.toList = wordsL[n] := he.symm
      have hc : wordsL.contains b.data.toList = true := by rw [List.contains_iff_mem, this]; exact List.getElem_mem hlt
      rw [hc]
      rfl
    · rw [BK_add, wrap_i (by omega) (by omega)]
      refine ⟨⟨n + 1, hlt, rfl, h3, h0, ?_, rfl⟩, ?_⟩
      · rw [List.take_add_one, hx, Option.toList_some]
        intro q
        rcases List.mem_append.1 q with q | q
        · exact hno q
        · exact he (by simpa using Eq.symm (List.mem_singleton.1 q))
      · simp only [sq_n, sq_x, sq_r, bk_n, bk_r, bk_x, rt_r, rt_n, rs_0, rs_t, pk_1, pk_2, up_at, reduceIte, Nat.reduceEqDiff, intOf]; omega
  · obtain rfl : n = wordsL.length := by omega
    rw [show decide (((wordsL.length : Nat) : Int) < (wordsL.length : Int)) = false by simp]
    simp only [CondK_bool, MG_u, NG_u, VG_u, UG_u, PG_u, BG_u, CG_u, IG_u, MG_b, NG_b, VG_b, UG_b, PG_b, BG_b, CG_b, IG_b, PK_bool, NK_ptr, not_ok, reduceCtorEq, if_true, if_false, Bool.true_eq_false, Bool.false_eq_true, Bool.not_true, Bool.not_false, sq_n, sq_x, sq_r, bk_n, bk_r, bk_x, rt_r, rt_n, rs_0, rs_t, pk_1, pk_2, up_at, reduceIte, Nat.reduceEqDiff]
    rw [dispatcherref01_Word_R1_eq]
    unfold dispatcherref01_Word_R1_F
    simp only [sq_n, sq_x, sq_r, bk_n, bk_r, bk_x, rt_r, rt_n, rs_0, rs_t, pk_1, pk_2, up_at, reduceIte, Nat.reduceEqDiff]
    refine ⟨?_, hm1⟩
    have hc : wordsL.contains b.data.toList = false := by
      rw [Bool.eq_false_iff]
      intro q
      rw [List.contains_iff_mem] at q
      rw [List.take_length] at hno
      exact hno q
    rw [hc]
end Go.Proofs.YtbnbcimjapiicaaDoor.Tr
