/- Names of the chapter; how many arguments; what holds of an expression among others. -/
import Derived.Test.YtbnbcimjapiicaaDoorF
import Derived.Test.YtbnbcimjapiicaaDoorB
set_option linter.unusedVariables false
set_option linter.unusedSimpArgs false
set_option maxRecDepth 4000
namespace Go.Proofs.YtbnbcimjapiicaaDoor.Tr
open Go Go.X Go.RowKit Go.Proofs.YtbnbcimjapiicaaDoor.XF Go.Proofs.YtbnbcimjapiicaaDoor.XK

theorem ixByte (s : ByteArray) (w : World) {n : Nat} (hs : n < s.size) {K : Value → World → Prop} (hk : K (.int .u8 (s[n]'hs).toNat) w) : VK Tryd.prog (Instr.index 9 (.string s) (.int .i64 (n : Int))) w K := by
  refine VK_of ?_ hk
  rw [run_index_string w _ s _ _ uS, dif_pos ⟨by omega, by omega⟩]
  rfl
theorem NameR_ok (w : World) (b : ByteArray) (hb : b.size ≤ maxLen) : Rt Tryd.prog 20 #[.string b] w fun v w' => v = .bool (nameP b) ∧ Mod none_ w w' := by
  refine dispatcherref01_Name_calls ?_
  unfold dispatcherref01_Name_F
  simp only [fo25_0, fo25_1, fo40_0, fo40_1, fo60_0, fo60_1, fo60_2, fo60_3, fo62_0, fo62_1, fo62_2, fo62_3, fo62_4, fo62_5, fo62_6, fo62_7, ld2, ld3, ld5, ld9, ld22, ld23, ld58, len9, len22, len23, len52, len58, ldK_some, cellE, blkC_c, add_pl, Nat.zero_add, List.getElem?_toArray, List.getElem?_cons_succ, List.getElem?_cons_zero, BK_lss]
  by_cases h0 : b.size = 0
  · rw [show decide ((b.size : Int) < 1) = true by rw [decide_eq_true_eq]; omega]
    simp only [CondK_bool, MG_u, NG_u, VG_u, UG_u, PG_u, BG_u, CG_u, IG_u, MG_b, NG_b, VG_b, UG_b, PG_b, BG_b, CG_b, IG_b, PK_bool, NK_ptr, not_ok, reduceCtorEq, if_true, if_false, Bool.true_eq_false, Bool.false_eq_true, Bool.not_true, Bool.not_false]
    refine ⟨?_, Mod.refl _ _⟩
    unfold nameP
    rw [show decide (1 ≤ b.size) = false from decide_eq_false (by omega)]
    rfl
  have hpos : 0 < b.size := by omega
  rw [show decide ((b.size : Int) < 1) = false by rw [decide_eq_false_iff_not]; omega]
  simp only [CondK_bool, MG_u, NG_u, VG_u, UG_u, PG_u, BG_u, CG_u, IG_u, MG_b, NG_b, VG_b, UG_b, PG_b, BG_b, CG_b, IG_b, PK_bool, NK_ptr, not_ok, reduceCtorEq, if_true, if_false, Bool.true_eq_false, Bool.false_eq_true, Bool.not_true, Bool.not_false, fo25_0, fo25_1, fo40_0, fo40_1, fo60_0, fo60_1, fo60_2, fo60_3, fo62_0, fo62_1, fo62_2, fo62_3, fo62_4, fo62_5, fo62_6, fo62_7, ld2, ld3, ld5, ld9, ld22, ld23, ld58, len9, len22, len23, len52, len58, ldK_some, cellE, blkC_c, add_pl, Nat.zero_add, List.getElem?_toArray, List.getElem?_cons_succ, List.getElem?_cons_zero, BK_gtr]
  by_cases h12 : 12 < b.size
  · rw [show decide ((12 : Int) < (b.size : Int)) = true by rw [decide_eq_true_eq]; omega]
    simp only [CondK_bool, MG_u, NG_u, VG_u, UG_u, PG_u, BG_u, CG_u, IG_u, MG_b, NG_b, VG_b, UG_b, PG_b, BG_b, CG_b, IG_b, PK_bool, NK_ptr, not_ok, reduceCtorEq, if_true, if_false, Bool.true_eq_false, Bool.false_eq_true, Bool.not_true, Bool.not_false]
    refine ⟨?_, Mod.refl _ _⟩
    unfold nameP
    rw [show decide (b.size ≤ 12) = false from decide_eq_false (by omega)]
    simp
  have h12 : b.size ≤ 12 := by omega
  rw [show decide ((12 : Int) < (b.size : Int)) = false by rw [decide_eq_false_iff_not]; omega]
  simp only [CondK_bool, MG_u, NG_u, VG_u, UG_u, PG_u, BG_u, CG_u, IG_u, MG_b, NG_b, VG_b, UG_b, PG_b, BG_b, CG_b, IG_b, PK_bool, NK_ptr, not_ok, reduceCtorEq, if_true, if_false, Bool.true_eq_false, Bool.false_eq_true, Bool.not_true, Bool.not_false]
  refine ixByte b w (n := 0) hpos ?_
  refine CK_st Tryd.func43 rfl rfl (letterR_ok _ w) ?_
  rintro _ w ⟨rfl, rfl⟩
  rw [letter_nat]
  have n1 : decide (1 ≤ b.size) = true := decide_eq_true (by omega)
  cases hl : letterP (b[0]'hpos) with
  | false =>
    simp only [CondK_bool, MG_u, NG_u, VG_u, UG_u, PG_u, BG_u, CG_u, IG_u, MG_b, NG_b, VG_b, UG_b, PG_b, BG_b, CG_b, IG_b, PK_bool, NK_ptr, not_ok, reduceCtorEq, if_true, if_false, Bool.true_eq_false, Bool.false_eq_true, Bool.not_true, Bool.not_false]
    refine ⟨?_, Mod.refl _ _⟩
    unfold nameP
    rw [head_at b hpos, Option.any_some, hl]
    simp
  | true =>
    simp only [CondK_bool, MG_u, NG_u, VG_u, UG_u, PG_u, BG_u, CG_u, IG_u, MG_b, NG_b, VG_b, UG_b, PG_b, BG_b, CG_b, IG_b, PK_bool, NK_ptr, not_ok, reduceCtorEq, if_true, if_false, Bool.true_eq_false, Bool.false_eq_true, Bool.not_true, Bool.not_false]
    refine CK_st Tryd.func44 rfl rfl (WordR_ok w b) ?_
    rintro _ w1 ⟨rfl, hm⟩
    cases hw : wordsL.contains b.data.toList with
    | true =>
      simp only [CondK_bool, MG_u, NG_u, VG_u, UG_u, PG_u, BG_u, CG_u, IG_u, MG_b, NG_b, VG_b, UG_b, PG_b, BG_b, CG_b, IG_b, PK_bool, NK_ptr, not_ok, reduceCtorEq, if_true, if_false, Bool.true_eq_false, Bool.false_eq_true, Bool.not_true, Bool.not_false]
      refine ⟨?_, hm⟩
      unfold nameP
      rw [hw]
      simp
    | false =>
      simp only [CondK_bool, MG_u, NG_u, VG_u, UG_u, PG_u, BG_u, CG_u, IG_u, MG_b, NG_b, VG_b, UG_b, PG_b, BG_b, CG_b, IG_b, PK_bool, NK_ptr, not_ok, reduceCtorEq, if_true, if_false, Bool.true_eq_false, Bool.false_eq_true, Bool.not_true, Bool.not_false]
      refine W_loop dispatcherref01_Name_L0_ok (fun ρ w' => ∃ n : Nat, n ≤ b.size ∧ ρ 3 = .int .i64 n ∧ ρ 0 = .string b ∧ (∀ (j : Nat) (h : j < b.size), j < n → alnumP (b[j]'h) = true) ∧ w' = w1) (fun ρ _ => b.size - (intOf (ρ 3)).toNat)
        ⟨0, Nat.zero_le _, rfl, rfl, fun j h q => by omega, rfl⟩ ?_
      rintro ρ w1 ⟨n, hn, h3, h0', hall, rfl⟩
      rw [dispatcherref01_Name_L0_eq]
      unfold dispatcherref01_Name_L0_F
      simp only [h3, h0', fo25_0, fo25_1, fo40_0, fo40_1, fo60_0, fo60_1, fo60_2, fo60_3, fo62_0, fo62_1, fo62_2, fo62_3, fo62_4, fo62_5, fo62_6, fo62_7, ld2, ld3, ld5, ld9, ld22, ld23, ld58, len9, len22, len23, len52, len58, ldK_some, cellE, blkC_c, add_pl, Nat.zero_add, List.getElem?_toArray, List.getElem?_cons_succ, List.getElem?_cons_zero, BK_lss]
      by_cases hlt : n < b.size
      · rw [show decide ((n : Int) < (b.size : Int)) = true by rw [decide_eq_true_eq]; omega]
        simp only [CondK_bool, MG_u, NG_u, VG_u, UG_u, PG_u, BG_u, CG_u, IG_u, MG_b, NG_b, VG_b, UG_b, PG_b, BG_b, CG_b, IG_b, PK_bool, NK_ptr, not_ok, reduceCtorEq, if_true, if_false, Bool.true_eq_false, Bool.false_eq_true, Bool.not_true, Bool.not_false]
        refine ixByte b w1 hlt ?_
        refine CK_st Tryd.func43 rfl rfl (letterR_ok _ w1) ?_
        rintro _ w1 ⟨rfl, rfl⟩
        rw [letter_nat]
        have go : ∀ (ρ' : Sl), alnumP (b[n]'hlt) = true → ρ' 3 = .int .i64 (n + 1 : Nat) → ρ' 0 = .string b → (∃ n : Nat, n ≤ b.size ∧ ρ' 3 = .int .i64 n ∧ ρ' 0 = .string b ∧ (∀ (j : Nat) (h : j < b.size), j < n → alnumP (b[j]'h) = true) ∧ w1 = w1) := fun ρ' ha e3 e0 =>
          ⟨n + 1, hlt, e3, e0, fun j h q => by
            by_cases e : j = n
            · subst e; exact ha
            · exact hall j h (by omega), rfl⟩
        cases hl' : letterP (b[n]'hlt) with
        | true =>
          simp only [CondK_bool, MG_u, NG_u, VG_u, UG_u, PG_u, BG_u, CG_u, IG_u, MG_b, NG_b, VG_b, UG_b, PG_b, BG_b, CG_b, IG_b, PK_bool, NK_ptr, not_ok, reduceCtorEq, if_true, if_false, Bool.true_eq_false, Bool.false_eq_true, Bool.not_true, Bool.not_false]
          rw [BK_add, wrap_i (by unfold maxLen at hb; omega) (by unfold maxLen at hb; omega)]
          refine ⟨go _ (by unfold alnumP; rw [hl']; rfl) rfl h0', ?_⟩
          simp only [sq_n, sq_x, sq_r, bk_n, bk_r, bk_x, rt_r, rt_n, rs_0, rs_t, pk_1, pk_2, up_at, reduceIte, Nat.reduceEqDiff, intOf]; omega
        | false =>
          simp only [CondK_bool, MG_u, NG_u, VG_u, UG_u, PG_u, BG_u, CG_u, IG_u, MG_b, NG_b, VG_b, UG_b, PG_b, BG_b, CG_b, IG_b, PK_bool, NK_ptr, not_ok, reduceCtorEq, if_true, if_false, Bool.true_eq_false, Bool.false_eq_true, Bool.not_true, Bool.not_false]
          refine ixByte b w1 hlt ?_
          refine CK_st Tryd.func45 rfl rfl (digitR_ok _ w1) ?_
          rintro _ w1 ⟨rfl, rfl⟩
          rw [digit_nat]
          cases hd : digitP (b[n]'hlt) with
          | true =>
            simp only [CondK_bool, MG_u, NG_u, VG_u, UG_u, PG_u, BG_u, CG_u, IG_u, MG_b, NG_b, VG_b, UG_b, PG_b, BG_b, CG_b, IG_b, PK_bool, NK_ptr, not_ok, reduceCtorEq, if_true, if_false, Bool.true_eq_false, Bool.false_eq_true, Bool.not_true, Bool.not_false]
            rw [BK_add, wrap_i (by unfold maxLen at hb; omega) (by unfold maxLen at hb; omega)]
            refine ⟨go _ (by unfold alnumP; rw [hl', hd]; rfl) rfl h0', ?_⟩
            simp only [sq_n, sq_x, sq_r, bk_n, bk_r, bk_x, rt_r, rt_n, rs_0, rs_t, pk_1, pk_2, up_at, reduceIte, Nat.reduceEqDiff, intOf]; omega
          | false =>
            simp only [CondK_bool, MG_u, NG_u, VG_u, UG_u, PG_u, BG_u, CG_u, IG_u, MG_b, NG_b, VG_b, UG_b, PG_b, BG_b, CG_b, IG_b, PK_bool, NK_ptr, not_ok, reduceCtorEq, if_true, if_false, Bool.true_eq_false, Bool.false_eq_true, Bool.not_true, Bool.not_false, sq_n, sq_x, sq_r, bk_n, bk_r, bk_x, rt_r, rt_n, rs_0, rs_t, pk_1, pk_2, up_at, reduceIte, Nat.reduceEqDiff]
            refine ⟨?_, hm⟩
            have : b.data.toList.all alnumP = false := by
              rw [Bool.eq_false_iff]
              intro q
              have := (all_iff b _).1 q n hlt
              unfold alnumP at this
              rw [hl', hd] at this
              cases this
            unfold nameP
            rw [this]
            simp
      · obtain rfl : n = b.size := by omega
        rw [show decide (((b.size : Nat) : Int) < (b.size : Int)) = false by simp]
        simp only [CondK_bool, MG_u, NG_u, VG_u, UG_u, PG_u, BG_u, CG_u, IG_u, MG_b, NG_b, VG_b, UG_b, PG_b, BG_b, CG_b, IG_b, PK_bool, NK_ptr, not_ok, reduceCtorEq, if_true, if_false, Bool.true_eq_false, Bool.false_eq_true, Bool.not_true, Bool.not_false, sq_n, sq_x, sq_r, bk_n, bk_r, bk_x, rt_r, rt_n, rs_0, rs_t, pk_1, pk_2, up_at, reduceIte, Nat.reduceEqDiff]
        rw [dispatcherref01_Name_R1_eq]
        unfold dispatcherref01_Name_R1_F
        simp only [sq_n, sq_x, sq_r, bk_n, bk_r, bk_x, rt_r, rt_n, rs_0, rs_t, pk_1, pk_2, up_at, reduceIte, Nat.reduceEqDiff]
        refine ⟨?_, hm⟩
        have : b.data.toList.all alnumP = true := (all_iff b _).2 fun i h => hall i h h
        unfold nameP
        rw [this, head_at b hpos, Option.any_some, hl, hw, n1, decide_eq_true h12]
        rfl
theorem ixArr {P : Program} {w : World} {K : Value → World → Prop} {t e : TypeId} {n sz : Nat} (hu : P.underlying t = some (.array n e)) (hc : P.cellsOf e = sz + 1) {a : Addr} {k : IntKind} {i : Int} (h0 : 0 ≤ i) (h1 : i < n) :
    VK P (Instr.indexAt t (.pointer (some a)) (.int k i)) w K = K (.pointer (some (a.add (i.toNat * (sz + 1))))) w := by
  obtain ⟨z, hz, hzs⟩ := info_of hc
  have h : (Instr.indexAt t (.pointer (some a)) (.int k i)).run P w = .ok (.pointer (some (a.add (i.toNat * (sz + 1))))) w := by
    simp [Instr.indexAt, Instr.sureAddr, run_underlying hu, Sem.run_bind, asIntOf, h0, h1, sizeOf, typeInfo, hz, hzs]
  unfold VK OpK
  simp only [Sem.run_bind, h, Result.andThen_ok]
  rfl
theorem conv_i {P : Program} {w : World} {K : Value → World → Prop} {src dst : TypeId} {q k : IntKind} {n : Int} (hs : (P.underlying src).isSome = true) (hd : P.underlying dst = some (.int k)) : VK P (convert src dst (.int q n)) w K = K (.int k (k.wrap n)) w := by
  have ek : P.intKind dst = k := by simp [Program.intKind, hd]
  have := run_convert_int (P := P) w src dst q n hs (by rw [ek]; exact hd)
  unfold VK OpK
  simp only [Sem.run_bind, this, Result.andThen_ok, ek]
  rfl
theorem args_at (k : Nat) (h : k < 22) : ∃ n : Int, argsC[k]? = some (.int .i64 n) ∧ (if 0 ≤ n then (n, n) else (1, 8)) = (((argsP (k + 1)).1 : Int), ((argsP (k + 1)).2 : Int)) := by
  match k, h with
  | 0, _ => exact ⟨_, rfl, rfl⟩
  | 1, _ => exact ⟨_, rfl, rfl⟩
  | 2, _ => exact ⟨_, rfl, rfl⟩
  | 3, _ => exact ⟨_, rfl, rfl⟩
  | 4, _ => exact ⟨_, rfl, rfl⟩
  | 5, _ => exact ⟨_, rfl, rfl⟩
  | 6, _ => exact ⟨_, rfl, rfl⟩
  | 7, _ => exact ⟨_, rfl, rfl⟩
  | 8, _ => exact ⟨_, rfl, rfl⟩
  | 9, _ => exact ⟨_, rfl, rfl⟩
  | 10, _ => exact ⟨_, rfl, rfl⟩
  | 11, _ => exact ⟨_, rfl, rfl⟩
  | 12, _ => exact ⟨_, rfl, rfl⟩
  | 13, _ => exact ⟨_, rfl, rfl⟩
  | 14, _ => exact ⟨_, rfl, rfl⟩
  | 15, _ => exact ⟨_, rfl, rfl⟩
  | 16, _ => exact ⟨_, rfl, rfl⟩
  | 17, _ => exact ⟨_, rfl, rfl⟩
  | 18, _ => exact ⟨_, rfl, rfl⟩
  | 19, _ => exact ⟨_, rfl, rfl⟩
  | 20, _ => exact ⟨_, rfl, rfl⟩
  | 21, _ => exact ⟨_, rfl, rfl⟩
  | n + 22, h => exact absurd h (by omega)
theorem uArgs : Tryd.prog.underlying 133 = some (.array 22 3) := by kernel_rfl
theorem cI : Tryd.prog.cellsOf 3 = 0 + 1 := by kernel_rfl
theorem Args_ok {w : World} (hg : Gl w) (k : Int) (hk : (Lit.int .u8 k).wf = true) : Rt Tryd.prog 93 #[.int .u8 k] w fun v w' => v = .tuple #[.int .i64 (argsP k).1, .int .i64 (argsP k).2] ∧ w' = w := by
  have hr : 0 ≤ k ∧ k ≤ 255 := by simpa [Lit.wf, IntKind.min, IntKind.max, IntKind.signed, IntKind.bits] using hk
  have zero : k < 1 ∨ 22 < k → argsP k = (0, 0) := fun h => by unfold argsP; rw [if_neg (by omega), if_neg (by omega), if_neg (by omega), if_neg (by omega), if_neg (by omega)]
  refine tree_Args_calls ?_
  unfold tree_Args_F
  rw [BK_lss]
  by_cases h1 : k < 1
  · rw [decide_eq_true h1]
    simp only [CondK_bool, MG_u, NG_u, VG_u, UG_u, PG_u, BG_u, CG_u, IG_u, MG_b, NG_b, VG_b, UG_b, PG_b, BG_b, CG_b, IG_b, PK_bool, NK_ptr, not_ok, reduceCtorEq, if_true, if_false, Bool.true_eq_false, Bool.false_eq_true, Bool.not_true, Bool.not_false]
    rw [zero (.inl h1)]
    exact ⟨rfl, trivial⟩
  rw [decide_eq_false h1]
  simp only [CondK_bool, MG_u, NG_u, VG_u, UG_u, PG_u, BG_u, CG_u, IG_u, MG_b, NG_b, VG_b, UG_b, PG_b, BG_b, CG_b, IG_b, PK_bool, NK_ptr, not_ok, reduceCtorEq, if_true, if_false, Bool.true_eq_false, Bool.false_eq_true, Bool.not_true, Bool.not_false]
  rw [conv_i (by kernel_rfl) uI, wrap_i (by omega) (by omega), BK_gtr]
  by_cases h2 : 22 < k
  · rw [decide_eq_true h2]
    simp only [CondK_bool, MG_u, NG_u, VG_u, UG_u, PG_u, BG_u, CG_u, IG_u, MG_b, NG_b, VG_b, UG_b, PG_b, BG_b, CG_b, IG_b, PK_bool, NK_ptr, not_ok, reduceCtorEq, if_true, if_false, Bool.true_eq_false, Bool.false_eq_true, Bool.not_true, Bool.not_false]
    rw [zero (.inr h2)]
    exact ⟨rfl, trivial⟩
  rw [decide_eq_false h2]
  simp only [CondK_bool, MG_u, NG_u, VG_u, UG_u, PG_u, BG_u, CG_u, IG_u, MG_b, NG_b, VG_b, UG_b, PG_b, BG_b, CG_b, IG_b, PK_bool, NK_ptr, not_ok, reduceCtorEq, if_true, if_false, Bool.true_eq_false, Bool.false_eq_true, Bool.not_true, Bool.not_false]
  rw [BK_sub, show IntKind.u8.wrap (k - 1) = k - 1 by rw [IntKind.wrap_u8]; omega]
  obtain ⟨j, rfl⟩ : ∃ j : Nat, k = j + 1 := ⟨(k - 1).toNat, by omega⟩
  rw [show (j : Int) + 1 - 1 = j by omega, ixArr uArgs cI (by omega) (by omega)]
  obtain ⟨n, hn, he⟩ := args_at j (by omega)
  have hcell := hg.args j _ hn
  simp only [ld3, add_pl, Int.toNat_natCast, Nat.zero_add, Nat.mul_one, hcell, ldK_some, BK_geq]
  by_cases h0 : 0 ≤ n
  · rw [if_pos h0] at he
    rw [decide_eq_true h0]
    simp only [CondK_bool, MG_u, NG_u, VG_u, UG_u, PG_u, BG_u, CG_u, IG_u, MG_b, NG_b, VG_b, UG_b, PG_b, BG_b, CG_b, IG_b, PK_bool, NK_ptr, not_ok, reduceCtorEq, if_true, if_false, Bool.true_eq_false, Bool.false_eq_true, Bool.not_true, Bool.not_false, (Prod.mk.inj he).1, (Prod.mk.inj he).2]
    refine ⟨?_, trivial⟩
    rw [← (Prod.mk.inj he).1, ← (Prod.mk.inj he).2]
  · rw [if_neg h0] at he
    rw [decide_eq_false h0]
    simp only [CondK_bool, MG_u, NG_u, VG_u, UG_u, PG_u, BG_u, CG_u, IG_u, MG_b, NG_b, VG_b, UG_b, PG_b, BG_b, CG_b, IG_b, PK_bool, NK_ptr, not_ok, reduceCtorEq, if_true, if_false, Bool.true_eq_false, Bool.false_eq_true, Bool.not_true, Bool.not_false]
    rw [← (Prod.mk.inj he).1, ← (Prod.mk.inj he).2]
    exact ⟨rfl, trivial⟩
end Go.Proofs.YtbnbcimjapiicaaDoor.Tr
