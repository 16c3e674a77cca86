/- Expressions: how deep, how many. -/
import Derived.Test.YtbnbcimjapiicaaDoorA
import Derived.Test.YtbnbcimjapiicaaDoorO
set_option linter.unusedVariables false
set_option linter.unusedSimpArgs false
set_option maxRecDepth 4000
namespace Go.Proofs.YtbnbcimjapiicaaDoor.Tr
open Go Go.X Go.RowKit Go.Proofs.YtbnbcimjapiicaaDoor.XF Go.Proofs.YtbnbcimjapiicaaDoor.XK

def zExc : List Value := [.int .u8 0, .int .i64 0, .string ByteArray.empty, .slice none 0 0, .int .i64 0, .int .i64 0]
theorem zEx : (Tryd.prog.info? 60).bind (·.zero) = some (.agg zExc.toArray) := by kernel_rfl
theorem iEx : (Tryd.prog.info? 60).map (·.size) = some 6 := by kernel_rfl
theorem ex_one {w : World} {e : Ex} (h : e.Ok w) : (e.cells.toArray.all (·.oneCell')) = true := by
  obtain ⟨A, c, hs, _⟩ := reads_cap h.args.1
  simp [Ex.cells, hs, Value.oneCell']
theorem ixEx {w : World} {s : Value} {l : List Ex} {i : Nat} {e : Ex} {K : Value → Value → World → Prop} (h : ExsOk w s l) (hi : l[i]? = some e) (hk : ∀ x, K x (.agg e.cells.toArray) w) :
    VK Tryd.prog (Instr.indexAt 58 s (.int .i64 (i : Int))) w fun x w => VK Tryd.prog (Instr.loadAt 60 x) w (K x) := by
  have hlt : i < l.length := (List.getElem?_eq_some_iff.1 hi).1
  refine ixldA uExs cEx Tryd.underlying60 rfl h.1 (by omega) (by omega) fun x => ?_
  rw [show ((i : Int).toNat) = i by omega, fl_drop (k := 5 + 1) Ex.cells_len hi]
  exact hk x
/-- The place of an expression in a row. -/
theorem ixExA {w : World} {s : Value} {l : List Ex} {i : Nat} {e : Ex} {K : Value → World → Prop} (h : ExsOk w s l) (hi : l[i]? = some e) (hk : ∀ a, (∀ j u, e.cells[j]? = some u → w.cell? (a.add j) = some u) → K (.pointer (some a)) w) :
    VK Tryd.prog (Instr.indexAt 58 s (.int .i64 (i : Int))) w K := by
  have hlt : i < l.length := (List.getElem?_eq_some_iff.1 hi).1
  refine ixat uExs cEx h.1 (by omega) (by omega) fun a ha _ => hk a fun j u hu => ?_
  have hj : j < 5 + 1 := (List.getElem?_eq_some_iff.1 hu).1
  refine ha j u hj ?_
  rw [show ((i : Int).toNat) = i by omega, fl_get (k := 5 + 1) Ex.cells_len hi hj]
  exact hu

theorem deepExpr_ok : ∀ (e : Ex) (w : World), e.Ok w → e.sz ≤ 1099511627776 → Rt Tryd.prog 91 #[.agg e.cells.toArray] w fun v w' => v = .int .i64 e.deep ∧ Mod none_ w w' := by
  intro e
  induction e using Ex.ind with
  | h e ih =>
    intro w hok hsz
    obtain ⟨A, c, hs, _⟩ := reads_cap hok.args.1
    have hszL : Ex.szL e.args ≤ 1099511627776 := by rw [Ex.sz_eq] at hsz; omega
    refine tree_deepExpr_calls ?_
    unfold tree_deepExpr_F
    refine box_k (cs := e.cells.toArray) rfl fun w1 hb1 hm1 _ => ?_
    simp only [fo25_0, fo25_1, fo40_0, fo40_1, fo60_0, fo60_1, fo60_2, fo60_3, fo62_0, fo62_1, fo62_2, fo62_3, fo62_4, fo62_5, fo62_6, fo62_7, ld2, ld3, ld5, ld9, ld22, ld23, ld58, len9, len22, len23, len52, len58, ldK_some, cellE, blkC_c, add_pl, Nat.zero_add, List.getElem?_toArray, List.getElem?_cons_succ, List.getElem?_cons_zero, Ex.c0, Ex.c1, Ex.c2, Ex.c3, Ex.c4, Ex.c5, St.c0, St.c1, St.c2, St.c3, St.c4, St.c5, St.c6, St.c7, St.c8, St.c9, hb1, hs]
    refine W_loop tree_deepExpr_L0_ok (fun ρ w' => ∃ n : Nat, n ≤ e.args.length ∧ ρ 9 = .int .i64 n ∧ ρ 8 = .int .i64 e.args.length ∧ ρ 7 = .slice A e.args.length c ∧ ρ 3 = .int .i64 (Ex.deepL (e.args.take n)) ∧ Mod none_ w w') (fun ρ _ => e.args.length - (intOf (ρ 9)).toNat)
      ⟨0, Nat.zero_le _, rfl, rfl, rfl, rfl, hm1⟩ ?_
    rintro ρ w2 ⟨n, hn, h9, h8, h7, h3, hm⟩
    rw [tree_deepExpr_L0_eq]
    unfold tree_deepExpr_L0_F
    rw [h9, h8, h7, h3, BK_lss]
    by_cases hlt : n < e.args.length
    · rw [show decide ((n : Int) < (e.args.length : Int)) = true by simp; omega]
      simp only [CondK_bool, MG_u, NG_u, VG_u, UG_u, PG_u, BG_u, CG_u, IG_u, MG_b, NG_b, VG_b, UG_b, PG_b, BG_b, CG_b, IG_b, PK_bool, NK_ptr, not_ok, reduceCtorEq, if_true, if_false, Bool.true_eq_false, Bool.false_eq_true, Bool.not_true, Bool.not_false]
      have hx : e.args[n]? = some e.args[n] := List.getElem?_eq_getElem hlt
      have hmem : e.args[n] ∈ e.args := List.getElem_mem hlt
      have hok2 := hok.args.mod hm
      rw [hs] at hok2
      refine ixEx hok2 hx fun y => ?_
      refine lcl_k (cs := e.args[n].cells.toArray) zEx _ iEx rfl (ex_one (hok2.at hx)) fun w3 hb3 hm3 _ => ?_
      refine ldB (cs := e.args[n].cells.toArray) Tryd.underlying60 rfl iEx hb3 ?_
      have hs2 := Ex.szL_at hx
      refine CK_st Tryd.func91 rfl rfl (ih _ hmem w3 ((hok2.at hx).mod hm3) (by omega)) ?_
      rintro _ w4 ⟨rfl, hm4⟩
      rw [max_i, BK_add, wrap_i (n := (n : Int) + 1) (by have := Ex.len_sz e.args; omega) (by have := Ex.len_sz e.args; omega)]
      refine ⟨⟨n + 1, hlt, rfl, h8, h7, ?_, (hm.trans hm3).trans hm4⟩, ?_⟩
      · simp only [sq_n, sq_x, sq_r, bk_n, bk_r, bk_x, rt_r, rt_n, rs_0, rs_t, pk_1, pk_2, up_at, reduceIte, Nat.reduceEqDiff]
        rw [List.take_add_one, hx, Option.toList_some, Ex.deepL_snoc]
        congr 1
        split <;> omega
      · simp only [sq_n, sq_x, sq_r, bk_n, bk_r, bk_x, rt_r, rt_n, rs_0, rs_t, pk_1, pk_2, up_at, reduceIte, Nat.reduceEqDiff, intOf]; omega
    · obtain rfl : n = e.args.length := by omega
      rw [show decide (((e.args.length : Nat) : Int) < (e.args.length : Int)) = false by simp]
      simp only [CondK_bool, MG_u, NG_u, VG_u, UG_u, PG_u, BG_u, CG_u, IG_u, MG_b, NG_b, VG_b, UG_b, PG_b, BG_b, CG_b, IG_b, PK_bool, NK_ptr, not_ok, reduceCtorEq, if_true, if_false, Bool.true_eq_false, Bool.false_eq_true, Bool.not_true, Bool.not_false, sq_n, sq_x, sq_r, bk_n, bk_r, bk_x, rt_r, rt_n, rs_0, rs_t, pk_1, pk_2, up_at, reduceIte, Nat.reduceEqDiff]
      rw [tree_deepExpr_R1_eq]
      unfold tree_deepExpr_R1_F
      simp only [sq_n, sq_x, sq_r, bk_n, bk_r, bk_x, rt_r, rt_n, rs_0, rs_t, pk_1, pk_2, up_at, reduceIte, Nat.reduceEqDiff, h3]
      rw [BK_add]
      rw [List.take_length]
      have := Ex.deepL_sz e.args
      rw [wrap_i (by omega) (by omega), Ex.deep_eq]
      exact ⟨rfl, hm⟩
theorem DeepExpr_ok : ∀ (e : Ex) (w : World), e.Ok w → e.sz ≤ 1099511627776 → Rt Tryd.prog 98 #[.agg e.cells.toArray] w fun v w' => v = .int .i64 e.deep ∧ Mod none_ w w' := by
  intro e
  induction e using Ex.ind with
  | h e ih =>
    intro w hok hsz
    obtain ⟨A, c, hs, _⟩ := reads_cap hok.args.1
    have hszL : Ex.szL e.args ≤ 1099511627776 := by rw [Ex.sz_eq] at hsz; omega
    refine dispatcherref02_DeepExpr_calls ?_
    unfold dispatcherref02_DeepExpr_F
    refine box_k (cs := e.cells.toArray) rfl fun w1 hb1 hm1 _ => ?_
    refine W_loop dispatcherref02_DeepExpr_L0_ok (fun ρ w' => ∃ n : Nat, n ≤ e.args.length ∧ ρ 4 = .int .i64 n ∧ ρ 1 = .pointer (some ⟨w.heap.size, 0, none⟩) ∧ ρ 3 = .int .i64 (Ex.deepL (e.args.take n) + 1 : Nat) ∧ w'.heap[w.heap.size]? = some (.cells e.cells.toArray 60 (0, 0)) ∧ Mod none_ w w') (fun ρ _ => e.args.length - (intOf (ρ 4)).toNat)
      ⟨0, Nat.zero_le _, rfl, rfl, rfl, hb1, hm1⟩ ?_
    rintro ρ w2 ⟨n, hn, h4, h1, h3, hb, hm⟩
    rw [dispatcherref02_DeepExpr_L0_eq]
    unfold dispatcherref02_DeepExpr_L0_F
    simp only [h4, h1, h3, fo25_0, fo25_1, fo40_0, fo40_1, fo60_0, fo60_1, fo60_2, fo60_3, fo62_0, fo62_1, fo62_2, fo62_3, fo62_4, fo62_5, fo62_6, fo62_7, ld2, ld3, ld5, ld9, ld22, ld23, ld58, len9, len22, len23, len52, len58, ldK_some, cellE, blkC_c, add_pl, Nat.zero_add, List.getElem?_toArray, List.getElem?_cons_succ, List.getElem?_cons_zero, Ex.c0, Ex.c1, Ex.c2, Ex.c3, Ex.c4, Ex.c5, St.c0, St.c1, St.c2, St.c3, St.c4, St.c5, St.c6, St.c7, St.c8, St.c9, hb, hs, BK_lss]
    by_cases hlt : n < e.args.length
    · rw [show decide ((n : Int) < (e.args.length : Int)) = true by simp; omega]
      simp only [CondK_bool, MG_u, NG_u, VG_u, UG_u, PG_u, BG_u, CG_u, IG_u, MG_b, NG_b, VG_b, UG_b, PG_b, BG_b, CG_b, IG_b, PK_bool, NK_ptr, not_ok, reduceCtorEq, if_true, if_false, Bool.true_eq_false, Bool.false_eq_true, Bool.not_true, Bool.not_false]
      have hx : e.args[n]? = some e.args[n] := List.getElem?_eq_getElem hlt
      have hmem : e.args[n] ∈ e.args := List.getElem_mem hlt
      have hok2 := hok.args.mod hm
      rw [hs] at hok2
      refine ixEx hok2 hx fun y => ?_
      have hs2 := Ex.szL_at hx
      refine CK_st Tryd.func98 rfl rfl (ih _ hmem w2 (hok2.at hx) (by omega)) ?_
      rintro _ w4 ⟨rfl, hm4⟩
      have hd := Ex.deep_sz e.args[n]
      have hl := Ex.len_sz e.args
      rw [BK_add, wrap_i (n := 1 + (e.args[n].deep : Int)) (by omega) (by omega), max_i, BK_add, wrap_i (n := (n : Int) + 1) (by omega) (by omega)]
      refine ⟨⟨n + 1, hlt, rfl, h1, ?_, hm4.blk hb id, hm.trans hm4⟩, ?_⟩
      · simp only [sq_n, sq_x, sq_r, bk_n, bk_r, bk_x, rt_r, rt_n, rs_0, rs_t, pk_1, pk_2, up_at, reduceIte, Nat.reduceEqDiff]
        rw [List.take_add_one, hx, Option.toList_some, Ex.deepL_snoc]
        congr 1
        split <;> omega
      · simp only [sq_n, sq_x, sq_r, bk_n, bk_r, bk_x, rt_r, rt_n, rs_0, rs_t, pk_1, pk_2, up_at, reduceIte, Nat.reduceEqDiff, intOf]; omega
    · obtain rfl : n = e.args.length := by omega
      rw [show decide (((e.args.length : Nat) : Int) < (e.args.length : Int)) = false by simp]
      simp only [CondK_bool, MG_u, NG_u, VG_u, UG_u, PG_u, BG_u, CG_u, IG_u, MG_b, NG_b, VG_b, UG_b, PG_b, BG_b, CG_b, IG_b, PK_bool, NK_ptr, not_ok, reduceCtorEq, if_true, if_false, Bool.true_eq_false, Bool.false_eq_true, Bool.not_true, Bool.not_false, sq_n, sq_x, sq_r, bk_n, bk_r, bk_x, rt_r, rt_n, rs_0, rs_t, pk_1, pk_2, up_at, reduceIte, Nat.reduceEqDiff]
      rw [dispatcherref02_DeepExpr_R1_eq]
      unfold dispatcherref02_DeepExpr_R1_F
      simp only [sq_n, sq_x, sq_r, bk_n, bk_r, bk_x, rt_r, rt_n, rs_0, rs_t, pk_1, pk_2, up_at, reduceIte, Nat.reduceEqDiff, h3]
      rw [List.take_length, Ex.deep_eq]
      exact ⟨rfl, hm⟩
end Go.Proofs.YtbnbcimjapiicaaDoor.Tr
