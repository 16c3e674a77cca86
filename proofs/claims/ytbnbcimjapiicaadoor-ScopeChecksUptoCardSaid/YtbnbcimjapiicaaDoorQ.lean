/- How deep statements are. -/
import Derived.Test.YtbnbcimjapiicaaDoorN
set_option linter.unusedVariables false
set_option linter.unusedSimpArgs false
set_option maxRecDepth 4000
namespace Go.Proofs.YtbnbcimjapiicaaDoor.Tr
open Go Go.X Go.RowKit Go.Proofs.YtbnbcimjapiicaaDoor.XF Go.Proofs.YtbnbcimjapiicaaDoor.XK

theorem uTwo : Tryd.prog.underlying 122 = some (.array 2 23) := by kernel_rfl
theorem cSts : Tryd.prog.cellsOf 23 = 0 + 1 := by kernel_rfl
theorem bTwo (A B : Option Addr) (n c m d : Nat) : Tryd.prog.built 122 [(0, .slice A n c), (1, .slice B m d)] = some #[.slice A n c, .slice B m d] := by kernel_rfl
theorem aggSts (w : World) : (isAgg 23).run Tryd.prog w = .ok false w := by
  unfold isAgg
  rw [Sem.run_bind, run_underlying uSts w]
  rfl
theorem two_0 (x y : Value) (w : World) : (Instr.index 122 (.agg #[x, y]) (.int .i64 0)).run Tryd.prog w = .ok x w := by
  obtain ⟨z, hz, hzs⟩ := info_of cSts
  simp [Instr.index, run_underlying uTwo, asIntOf, sizeOf, typeInfo, hz, hzs, part, aggSts, Sem.run_bind]
theorem two_1 (x y : Value) (w : World) : (Instr.index 122 (.agg #[x, y]) (.int .i64 1)).run Tryd.prog w = .ok y w := by
  obtain ⟨z, hz, hzs⟩ := info_of cSts
  simp [Instr.index, run_underlying uTwo, asIntOf, sizeOf, typeInfo, hz, hzs, part, aggSts, Sem.run_bind]

def DeepOk (l : List St) : Prop := ∀ w s, StsOk w s l → St.szL l ≤ 1099511627776 → Rt Tryd.prog 71 #[s] w fun v w' => v = .tuple #[.int .i64 (St.blocksL l), .int .i64 (St.exprDL l)] ∧ Mod none_ w w'
/-- What holds behind a statement's own part. -/
structure DSt (w : World) (l : List St) (A : Option Addr) (c : Nat) (n : Nat) (bl ex : Nat) (ρ : Sl) (w' : World) : Prop where
  h14 : ρ 14 = .int .i64 n
  h13 : ρ 13 = .int .i64 l.length
  h12 : ρ 12 = .slice A l.length c
  h0 : ρ 0 = .slice A l.length c
  h2 : ρ 2 = .int .i64 bl
  h3 : ρ 3 = .int .i64 ex
  m : Mod none_ w w'
theorem deep_row {l : List St} (ih : ∀ a ∈ l, DeepOk a.body ∧ DeepOk a.els) : DeepOk l := by
  intro w s hok hsz
  obtain ⟨A, c, hs, _⟩ := reads_cap hok.1
  subst hs
  have hlen := St.len_sz l
  refine tree_deep_calls ?_
  unfold tree_deep_F
  simp only [fo25_0, fo25_1, fo40_0, fo40_1, fo60_0, fo60_1, fo60_2, fo60_3, fo62_0, fo62_1, fo62_2, fo62_3, fo62_4, fo62_5, fo62_6, fo62_7, ld2, ld3, ld5, ld9, ld22, ld23, ld58, len9, len22, len23, len52, len58, ldK_some, cellE, blkC_c, add_pl, Nat.zero_add, List.getElem?_toArray, List.getElem?_cons_succ, List.getElem?_cons_zero]
  refine W_loop tree_deep_L0_ok (fun ρ w' => ∃ n : Nat, n ≤ l.length ∧ DSt w l A c n (St.blocksL' (l.take n)) (St.exprDL (l.take n)) ρ w') (fun ρ _ => l.length - (intOf (ρ 14)).toNat)
    ⟨0, Nat.zero_le _, rfl, rfl, rfl, rfl, rfl, rfl, Mod.refl _ _⟩ ?_
  rintro ρ w1 ⟨n, hn, h⟩
  rw [tree_deep_L0_eq]
  unfold tree_deep_L0_F
  rw [h.h14, h.h13, h.h12, BK_lss]
  by_cases hlt : n < l.length
  · rw [show decide ((n : Int) < (l.length : Int)) = true by rw [decide_eq_true_eq]; omega]
    refine condT ?_
    have hx : l[n]? = some l[n] := List.getElem?_eq_getElem hlt
    have hmem : l[n] ∈ l := List.getElem_mem hlt
    have hsn := St.szL_at hx
    have hok1 := hok.mod h.m
    have he := hok1.at hx
    have hse := St.sz_eq l[n]
    have tb := St.blocksL'_sz (l.take n)
    have te := St.exprDL_sz (l.take n)
    refine ixSt hok1 hx fun y => ?_
    refine lcl_k (cs := l[n].cells.toArray) zSt _ iSt rfl (st_one he) fun w2 hb2 hm2 _ => ?_
    obtain ⟨A1, c1, hs1, _⟩ := reads_cap he.exprs.1
    obtain ⟨A2, c2, hs2, _⟩ := reads_cap he.body.1
    obtain ⟨A3, c3, hs3, _⟩ := reads_cap he.els.1
    simp only [fo25_0, fo25_1, fo40_0, fo40_1, fo60_0, fo60_1, fo60_2, fo60_3, fo62_0, fo62_1, fo62_2, fo62_3, fo62_4, fo62_5, fo62_6, fo62_7, ld2, ld3, ld5, ld9, ld22, ld23, ld58, len9, len22, len23, len52, len58, ldK_some, cellE, blkC_c, add_pl, Nat.zero_add, List.getElem?_toArray, List.getElem?_cons_succ, List.getElem?_cons_zero, Ex.c0, Ex.c1, Ex.c2, Ex.c3, Ex.c4, Ex.c5, St.c0, St.c1, St.c2, St.c3, St.c4, St.c5, St.c6, St.c7, St.c8, St.c9, hb2, hs1]
    have hm12 := h.m.trans hm2
    -- the expressions
    refine W_loop tree_deep_L2_ok (fun ρ w' => ∃ j : Nat, j ≤ l[n].exprs.length ∧ DSt w l A c n (St.blocksL' (l.take n)) (max (St.exprDL (l.take n)) (Ex.deepL (l[n].exprs.take j))) ρ w' ∧ ρ 21 = .int .i64 j ∧ ρ 20 = .int .i64 l[n].exprs.length ∧ ρ 19 = .slice A1 l[n].exprs.length c1 ∧ ρ 5 = .pointer (some ⟨w1.heap.size, 0, none⟩) ∧ Mod none_ w2 w') (fun ρ _ => l[n].exprs.length - (intOf (ρ 21)).toNat)
      ⟨0, Nat.zero_le _, ⟨h.h14, h.h13, h.h12, h.h0, h.h2, h.h3.trans (by simp [Ex.deepL]), hm12⟩, rfl, rfl, rfl, rfl, Mod.refl _ _⟩ ?_
    rintro ρ2 w3 ⟨j, hj, d, g21, g20, g19, g5, hm3⟩
    rw [tree_deep_L2_eq]
    unfold tree_deep_L2_F
    rw [g21, g20, g19, BK_lss]
    have hszE : Ex.szL l[n].exprs ≤ 1099511627776 := by omega
    have hlenE := Ex.len_sz l[n].exprs
    by_cases hltj : j < l[n].exprs.length
    · rw [show decide ((j : Int) < (l[n].exprs.length : Int)) = true by rw [decide_eq_true_eq]; omega]
      refine condT ?_
      have hxj : l[n].exprs[j]? = some l[n].exprs[j] := List.getElem?_eq_getElem hltj
      have hokE : ExsOk w3 (.slice A1 l[n].exprs.length c1) l[n].exprs := by rw [← hs1]; exact (he.exprs.mod hm2).mod hm3
      refine ixEx hokE hxj fun y2 => ?_
      refine lcl_k (cs := l[n].exprs[j].cells.toArray) zEx _ iEx rfl (ex_one (hokE.at hxj)) fun w4 hb4 hm4 _ => ?_
      refine ldB (cs := l[n].exprs[j].cells.toArray) Tryd.underlying60 rfl iEx hb4 ?_
      have hsj := Ex.szL_at hxj
      refine CK_st Tryd.func91 rfl rfl (deepExpr_ok _ w4 ((hokE.at hxj).mod hm4) (by omega)) ?_
      rintro _ w5 ⟨rfl, hm5⟩
      rw [d.h3, max_i, BK_add, wrap_i (n := (j : Int) + 1) (by omega) (by omega)]
      have hm35 := hm4.trans hm5
      refine ⟨⟨j + 1, hltj, ⟨d.h14, d.h13, d.h12, d.h0, d.h2, ?_, d.m.trans hm35⟩, rfl, g20, g19, g5, hm3.trans hm35⟩, ?_⟩
      · show Value.int .i64 _ = _
        rw [List.take_add_one, hxj, Option.toList_some, Ex.deepL_snoc]
        congr 1
        split <;> omega
      · show l[n].exprs.length - (intOf (Value.int .i64 ((j : Int) + 1))).toNat < _
        simp only [intOf]; omega
    · obtain rfl : j = l[n].exprs.length := by omega
      rw [show decide (((l[n].exprs.length : Nat) : Int) < (l[n].exprs.length : Int)) = false by simp]
      refine condF ?_
      rw [List.take_length] at d
      rw [sq_x, bk_x, sq_n, tree_deep_R3_eq]
      unfold tree_deep_R3_F
      have g5' : ∀ v, (up ρ2 22 v) 5 = .pointer (some ⟨w1.heap.size, 0, none⟩) := fun v => g5
      rw [g5']
      have hb3 := hm3.blk hb2 id
      simp only [fo25_0, fo25_1, fo40_0, fo40_1, fo60_0, fo60_1, fo60_2, fo60_3, fo62_0, fo62_1, fo62_2, fo62_3, fo62_4, fo62_5, fo62_6, fo62_7, ld2, ld3, ld5, ld9, ld22, ld23, ld58, len9, len22, len23, len52, len58, ldK_some, cellE, blkC_c, add_pl, Nat.zero_add, List.getElem?_toArray, List.getElem?_cons_succ, List.getElem?_cons_zero, Ex.c0, Ex.c1, Ex.c2, Ex.c3, Ex.c4, Ex.c5, St.c0, St.c1, St.c2, St.c3, St.c4, St.c5, St.c6, St.c7, St.c8, St.c9, hb3, hs2, hs3]
      rw [build_ok (bTwo _ _ _ _ _ _)]
      -- the two bodies
      have dE := Ex.deepL_sz l[n].exprs
      have hbody : StsOk w3 (.slice A2 l[n].body.length c2) l[n].body := by rw [← hs2]; exact (he.body.mod hm2).mod hm3
      have hels : StsOk w3 (.slice A3 l[n].els.length c3) l[n].els := by rw [← hs3]; exact (he.els.mod hm2).mod hm3
      have bB := St.blocksL_sz l[n].body
      have bL := St.blocksL_sz l[n].els
      have xB := St.exprDL_sz l[n].body
      have xL := St.exprDL_sz l[n].els
      have b1 := St.blocks_eq l[n]
      have x1 := St.exprD_eq l[n]
      refine W_loop tree_deep_L6_ok (fun ρ w' => ∃ (k : Nat), k ≤ 2 ∧ DSt w l A c n (max (St.blocksL' (l.take n)) (if k = 0 then 0 else if k = 1 then St.blocksL l[n].body else l[n].blocks)) (max (max (St.exprDL (l.take n)) (Ex.deepL l[n].exprs)) (if k = 0 then 0 else if k = 1 then St.exprDL l[n].body else max (St.exprDL l[n].body) (St.exprDL l[n].els))) ρ w' ∧ ρ 35 = .int .i64 k ∧ ρ 34 = .agg #[.slice A2 l[n].body.length c2, .slice A3 l[n].els.length c3] ∧ Mod none_ w3 w') (fun ρ _ => 2 - (intOf (ρ 35)).toNat)
        ⟨0, by omega, ⟨d.h14, d.h13, d.h12, d.h0, d.h2.trans (by simp), d.h3.trans (by simp), d.m⟩, rfl, rfl, Mod.refl _ _⟩ ?_
      rintro ρ3 w4 ⟨k, hk, q, q35, q34, hm4⟩
      rw [tree_deep_L6_eq]
      unfold tree_deep_L6_F
      rw [q35, q34, q.h2, q.h3, BK_lss]
      match k, hk with
      | 0, _ =>
        refine condT ?_
        refine VK_of (two_0 _ _ _) ?_
        refine CK_st Tryd.func71 rfl rfl ((ih _ hmem).1 w4 _ (hbody.mod hm4) (by omega)) ?_
        rintro _ w5 ⟨rfl, hm5⟩
        rw [extract_ok (v := .int .i64 (St.blocksL l[n].body)) rfl, extract_ok (v := .int .i64 (St.exprDL l[n].body)) rfl, max_i, max_i, BK_add]
        refine ⟨⟨1, by omega, ⟨q.h14, q.h13, q.h12, q.h0, ?_, ?_, q.m.trans hm5⟩, rfl, q34, hm4.trans hm5⟩, ?_⟩
        · show Value.int .i64 _ = _
          congr 1
          simp only [if_true, Nat.one_ne_zero, if_false]
          split <;> omega
        · show Value.int .i64 _ = _
          congr 1
          simp only [if_true, Nat.one_ne_zero, if_false]
          split <;> omega
        · show 2 - (intOf (Value.int .i64 (IntKind.i64.wrap (0 + 1)))).toNat < _
          decide
      | 1, _ =>
        refine condT ?_
        refine VK_of (two_1 _ _ _) ?_
        refine CK_st Tryd.func71 rfl rfl ((ih _ hmem).2 w4 _ (hels.mod hm4) (by omega)) ?_
        rintro _ w5 ⟨rfl, hm5⟩
        rw [extract_ok (v := .int .i64 (St.blocksL l[n].els)) rfl, extract_ok (v := .int .i64 (St.exprDL l[n].els)) rfl, max_i, max_i, BK_add]
        refine ⟨⟨2, by omega, ⟨q.h14, q.h13, q.h12, q.h0, ?_, ?_, q.m.trans hm5⟩, rfl, q34, hm4.trans hm5⟩, ?_⟩
        · show Value.int .i64 _ = _
          congr 1
          simp only [if_true, Nat.one_ne_zero, if_false, show (2 : Nat) ≠ 0 by decide, show (2 : Nat) ≠ 1 by decide]
          rw [b1]
          split <;> omega
        · show Value.int .i64 _ = _
          congr 1
          simp only [if_true, Nat.one_ne_zero, if_false, show (2 : Nat) ≠ 0 by decide, show (2 : Nat) ≠ 1 by decide]
          split <;> omega
        · show 2 - (intOf (Value.int .i64 (IntKind.i64.wrap (1 + 1)))).toNat < _
          decide
      | 2, _ =>
        refine condF ?_
        rw [sq_x, bk_x, bk_n, sq_n, tree_deep_R4_eq]
        unfold tree_deep_R4_F
        have q14 : ∀ v, (up ρ3 36 v) 14 = .int .i64 n := fun v => q.h14
        rw [q14, BK_add, wrap_i (n := (n : Int) + 1) (by omega) (by omega)]
        refine ⟨⟨n + 1, hlt, ⟨rfl, q.h13, q.h12, q.h0, ?_, ?_, q.m⟩⟩, ?_⟩
        · rw [List.take_add_one, hx, Option.toList_some, St.blocksL'_snoc]
          exact q.h2
        · rw [List.take_add_one, hx, Option.toList_some, St.exprDL_snoc, x1]
          refine q.h3.trans ?_
          congr 1
          simp only [show (2 : Nat) ≠ 0 by decide, show (2 : Nat) ≠ 1 by decide, if_false]
          omega
        · show l.length - (intOf (Value.int .i64 ((n : Int) + 1))).toNat < _
          simp only [intOf]; omega
  · obtain rfl : n = l.length := by omega
    rw [show decide (((l.length : Nat) : Int) < (l.length : Int)) = false by simp]
    refine condF ?_
    rw [List.take_length] at h
    rw [sq_x, bk_x, sq_n, tree_deep_R1_eq]
    unfold tree_deep_R1_F
    have g0 : ∀ v, (up ρ 15 v) 0 = .slice A l.length c := fun v => h.h0
    have g2 : ∀ v, (up ρ 15 v) 2 = .int .i64 (St.blocksL' l) := fun v => h.h2
    rw [g0, g2]
    simp only [fo25_0, fo25_1, fo40_0, fo40_1, fo60_0, fo60_1, fo60_2, fo60_3, fo62_0, fo62_1, fo62_2, fo62_3, fo62_4, fo62_5, fo62_6, fo62_7, ld2, ld3, ld5, ld9, ld22, ld23, ld58, len9, len22, len23, len52, len58, ldK_some, cellE, blkC_c, add_pl, Nat.zero_add, List.getElem?_toArray, List.getElem?_cons_succ, List.getElem?_cons_zero, BK_gtr]
    have tb := St.blocksL'_sz l
    by_cases h0 : l.length = 0
    · rw [show decide ((0 : Int) < (l.length : Int)) = false by rw [decide_eq_false_iff_not]; omega]
      refine condF ?_
      rw [tree_deep_R5_eq]
      unfold tree_deep_R5_F
      refine ⟨?_, h.m⟩
      show Value.tuple #[ρ 2, ρ 3] = _
      rw [h.h2, h.h3, St.blocksL, if_pos h0]
      obtain rfl : l = [] := List.length_eq_zero_iff.1 h0
      rfl
    · rw [show decide ((0 : Int) < (l.length : Int)) = true by rw [decide_eq_true_eq]; omega]
      refine condT ?_
      rw [BK_add, wrap_i (n := (St.blocksL' l : Int) + 1) (by omega) (by omega), tree_deep_R5_eq]
      unfold tree_deep_R5_F
      refine ⟨?_, h.m⟩
      show Value.tuple #[.int .i64 ((St.blocksL' l : Int) + 1), ρ 3] = _
      rw [h.h3, St.blocksL, if_neg h0]
      rfl
theorem deep_all : ∀ e : St, DeepOk e.body ∧ DeepOk e.els := by
  intro e
  induction e using St.ind with
  | h e ih1 ih2 => exact ⟨deep_row ih1, deep_row ih2⟩
theorem deep_ok (l : List St) : DeepOk l := deep_row fun a _ => deep_all a
end Go.Proofs.YtbnbcimjapiicaaDoor.Tr
