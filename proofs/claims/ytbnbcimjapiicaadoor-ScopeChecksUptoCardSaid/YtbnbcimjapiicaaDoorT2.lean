/- The chapter's depth, and May. -/
import Derived.Test.YtbnbcimjapiicaaDoorT1
set_option linter.unusedVariables false
set_option linter.unusedSimpArgs false
set_option maxRecDepth 4000
namespace Go.Proofs.YtbnbcimjapiicaaDoor.Tr
open Go Go.X Go.RowKit Go.Proofs.YtbnbcimjapiicaaDoor.XF Go.Proofs.YtbnbcimjapiicaaDoor.XK

theorem QixSt {C : World → Prop} {s : Value} {l : List St} {i : Nat} {e : St} {K : Value → Prop} {w0 : World} (hw0 : C w0) (h : ∀ w, C w → StsOk w s l) (hi : l[i]? = some e) (hk : ∀ a, (∀ w, C w → ∀ j u, e.cells[j]? = some u → w.cell? (a.add j) = some u) → K (.pointer (some a))) :
    QK Tryd.prog C (do pure (Next.value (← Instr.indexAt 23 s (.int .i64 (i : Int))))) K := by
  have hlt : i < l.length := (List.getElem?_eq_some_iff.1 hi).1
  obtain ⟨hl, A, c, hs, hc, hr⟩ := (h w0 hw0).1
  obtain ⟨a, ha | q⟩ := rd_cell (size := 10) (hs ▸ (h w0 hw0).1) hlt
  · subst ha
    subst hs
    refine QV_of (fun w _ => run_ixa uSts cSt (by omega) (by omega) w) (hk _ fun w hw j u hu => ?_)
    obtain ⟨_, A', c', hs', _, hr'⟩ := (h w hw).1
    cases hs'
    have hj : j < 9 + 1 := (List.getElem?_eq_some_iff.1 hu).1
    obtain ⟨a', ha', hcell⟩ := hr' (i * 10 + j) u (by rw [fl_get (k := 9 + 1) St.cells_len hi hj]; exact hu)
    cases ha'
    rw [add_add, show ((i : Int).toNat) = i by omega]
    exact hcell
  · omega
theorem Qmax4 {P : Program} {C : World → Prop} {K : Value → Prop} {ts : Array TypeId} {ty : TypeId} {cs : Array Bool} {a b c d : Nat} (hk : K (.int .i64 (max (max (max a b) c) d : Nat))) : QK P C (builtin .max ts ty cs [Value.int .i64 a, Value.int .i64 b, Value.int .i64 c, Value.int .i64 d].toArray) K := by
  refine ⟨_, fun w _ => ?_, hk⟩
  have m2 : ∀ (x y : Nat) (w : World), (Builtin.max2 (Value.int .i64 x) (Value.int .i64 y)).run P w = .ok (.int .i64 (max x y : Nat)) w := by
    intro x y w
    have h1 : (if (y : Int) > x then (y : Int) else x) = (max x y : Nat) := by split <;> omega
    simp only [Builtin.max2, Sem.run_pure, h1]
  have e : (Builtin.max_ ts ty #[Value.int .i64 a, Value.int .i64 b, Value.int .i64 c, Value.int .i64 d]).run P w = .ok (.int .i64 (max (max (max a b) c) d : Nat)) w := by
    simp [Builtin.max_, m2]
  have : (builtin .max ts ty cs [Value.int .i64 a, Value.int .i64 b, Value.int .i64 c, Value.int .i64 d].toArray).run P w = .ok (.value (.int .i64 (max (max (max a b) c) d : Nat))) w := by
    simp only [builtin]
    rw [Sem.run_bind, e]
    rfl
  rw [this]
  exact ⟨rfl, rfl⟩
def DeepR (l : List St) : Prop := ∀ w s (at_ : Nat), StsOk w s l → St.szL l ≤ 1099511627776 → at_ + St.szL l ≤ 1099511627800 → Rt Tryd.prog 76 #[s, .int .i64 at_] w fun v w' => v = .int .i64 (St.deepAt l at_) ∧ Mod none_ w w'
theorem deepR_row {l : List St} (ih : ∀ a ∈ l, DeepR a.body ∧ DeepR a.els) : DeepR l := by
  intro w s at_ hok hsz' hsz
  obtain ⟨A, c, hs, _⟩ := reads_cap hok.1
  subst hs
  have hlen := St.len_sz l
  refine dispatcherref02_DeepStmts_calls ?_
  unfold dispatcherref02_DeepStmts_F
  refine W_loop dispatcherref02_DeepStmts_L0_ok (fun ρ w' => ∃ n : Nat, n ≤ l.length ∧ ρ 6 = .int .i64 n ∧ ρ 0 = .slice A l.length c ∧ ρ 1 = .int .i64 at_ ∧ ρ 5 = .int .i64 (St.deepAt (l.take n) at_) ∧ Mod none_ w w') (fun ρ _ => l.length - (intOf (ρ 6)).toNat)
    ⟨0, Nat.zero_le _, rfl, rfl, rfl, rfl, Mod.refl _ _⟩ ?_
  rintro ρ w1 ⟨n, hn, h6, h0, h1, h5, hm⟩
  rw [dispatcherref02_DeepStmts_L0_eq]
  unfold dispatcherref02_DeepStmts_L0_F
  simp only [h6, h0, fo25_0, fo25_1, fo40_0, fo40_1, fo60_0, fo60_1, fo60_2, fo60_3, fo62_0, fo62_1, fo62_2, fo62_3, fo62_4, fo62_5, fo62_6, fo62_7, ld2, ld3, ld5, ld9, ld22, ld23, ld58, len9, len22, len23, len52, len58, ldK_some, cellE, blkC_c, add_pl, Nat.zero_add, List.getElem?_toArray, List.getElem?_cons_succ, List.getElem?_cons_zero, BK_lss]
  by_cases hlt : n < l.length
  · rw [show decide ((n : Int) < (l.length : Int)) = true by rw [decide_eq_true_eq]; omega]
    refine condT ?_
    have hx : l[n]? = some l[n] := List.getElem?_eq_getElem hlt
    have hmem : l[n] ∈ l := List.getElem_mem hlt
    have hsn := St.szL_at hx
    have hok1 := hok.mod hm
    have hse := St.sz_eq l[n]
    have hokC : ∀ w', Mod none_ w1 w' → StsOk w' (.slice A l.length c) l := fun w' hw => hok1.mod hw
    refine dispatcherref02_DeepStmts_R2_quiet (D := []) (fun w' => Mod none_ w1 w') ((Mod.refl _ w1).drawn _) ?_
    unfold dispatcherref02_DeepStmts_R2_Q
    have e0 : ∀ a b d f : Value, (up (up (up (up ρ 8 a) 9 b) 10 d) 11 f) 0 = .slice A l.length c := fun _ _ _ _ => h0
    have e1 : ∀ a b d f : Value, (up (up (up (up ρ 8 a) 9 b) 10 d) 11 f) 1 = .int .i64 at_ := fun _ _ _ _ => h1
    have e5 : ∀ a b d f : Value, (up (up (up (up ρ 8 a) 9 b) 10 d) 11 f) 5 = .int .i64 (St.deepAt (l.take n) at_) := fun _ _ _ _ => h5
    have e6 : ∀ a b d f : Value, (up (up (up (up ρ 8 a) 9 b) 10 d) 11 f) 6 = .int .i64 n := fun _ _ _ _ => h6
    simp only [e0, e1, e5, e6]
    have tB := St.deepAt_le l[n].body (at_ + 1)
    have tL := St.deepAt_le l[n].els (at_ + 1)
    have tN := St.deepAt_le (l.take n) at_
    refine QixSt (w0 := w1) (Mod.refl _ w1) hokC hx fun a ha => ?_
    refine Qfo (off := 6) (by kernel_rfl) (Qld uSts rfl (v := l[n].bs) (fun w' hw => ha w' hw 6 _ rfl) (Qadd ?_))
    rw [wrap_i (n := (at_ : Int) + 1) (by omega) (by omega)]
    refine QC_rt Tryd.func76 rfl rfl (v := .int .i64 (St.deepAt l[n].body (at_ + 1))) (fun w' hw => (ih _ hmem).1 w' _ (at_ + 1) ((hokC w' hw).at hx).body (by omega) (by omega)) (fun w' u w'' hw hu => ⟨hu.1, hw.trans hu.2⟩) ?_
    refine QixSt (w0 := w1) (Mod.refl _ w1) hokC hx fun a2 ha2 => ?_
    refine Qfo (off := 7) (by kernel_rfl) (Qld uSts rfl (v := l[n].ls) (fun w' hw => ha2 w' hw 7 _ rfl) (Qadd ?_))
    rw [wrap_i (n := (at_ : Int) + 1) (by omega) (by omega)]
    refine QC_rt Tryd.func76 rfl rfl (v := .int .i64 (St.deepAt l[n].els (at_ + 1))) (fun w' hw => (ih _ hmem).2 w' _ (at_ + 1) ((hokC w' hw).at hx).els (by omega) (by omega)) (fun w' u w'' hw hu => ⟨hu.1, hw.trans hu.2⟩) (Qmax4 ?_)
    intro w2 hm2
    have go : ∀ (ρ' : Sl), ρ' 0 = .slice A l.length c → ρ' 1 = .int .i64 at_ → ρ' 6 = .int .i64 n → ρ' 5 = .int .i64 (max (max (max (St.deepAt (l.take n) at_) at_) (St.deepAt l[n].body (at_ + 1))) (St.deepAt l[n].els (at_ + 1)) : Nat) →
        sx fn_ Tryd.prog 55 dispatcherref02_DeepStmts_R3 (blkK 1 (seqK (sx fn_ Tryd.prog 55 dispatcherref02_DeepStmts_R4 (seqK (fun ρ' w' => (∃ n, n ≤ l.length ∧ ρ' 6 = Value.int .i64 n ∧ ρ' 0 = Value.slice A l.length c ∧ ρ' 1 = Value.int .i64 at_ ∧ ρ' 5 = Value.int .i64 (St.deepAt (l.take n) at_) ∧ Mod none_ w w') ∧ l.length - (intOf (ρ' 6)).toNat < l.length - (intOf (Value.int .i64 n)).toNat) (blkK 0 (seqK (sx fn_ Tryd.prog 55 dispatcherref02_DeepStmts_R1 (retK Tryd.prog [ResultVar.tmp 4] fun v w' => v = Value.int .i64 (St.deepAt l at_) ∧ Mod none_ w w')) (retK Tryd.prog [ResultVar.tmp 4] fun v w' => v = Value.int .i64 (St.deepAt l at_) ∧ Mod none_ w w'))))) (seqK (fun ρ' w' => (∃ n, n ≤ l.length ∧ ρ' 6 = Value.int .i64 n ∧ ρ' 0 = Value.slice A l.length c ∧ ρ' 1 = Value.int .i64 at_ ∧ ρ' 5 = Value.int .i64 (St.deepAt (l.take n) at_) ∧ Mod none_ w w') ∧ l.length - (intOf (ρ' 6)).toNat < l.length - (intOf (Value.int .i64 n)).toNat) (blkK 0 (seqK (sx fn_ Tryd.prog 55 dispatcherref02_DeepStmts_R1 (retK Tryd.prog [ResultVar.tmp 4] fun v w' => v = Value.int .i64 (St.deepAt l at_) ∧ Mod none_ w w')) (retK Tryd.prog [ResultVar.tmp 4] fun v w' => v = Value.int .i64 (St.deepAt l at_) ∧ Mod none_ w w')))))) ρ' w2 := by
      intro ρ' q0 q1 q6 q5
      rw [dispatcherref02_DeepStmts_R3_eq]
      unfold dispatcherref02_DeepStmts_R3_F
      refine W_loop dispatcherref02_DeepStmts_L5_ok (fun ρ w' => ∃ j : Nat, j ≤ l[n].exprs.length ∧ ρ 7 = .int .i64 j ∧ ρ 0 = .slice A l.length c ∧ ρ 1 = .int .i64 at_ ∧ ρ 6 = .int .i64 n ∧ ρ 5 = .int .i64 (max (max (max (max (St.deepAt (l.take n) at_) at_) (St.deepAt l[n].body (at_ + 1))) (St.deepAt l[n].els (at_ + 1))) (Ex.deepL (l[n].exprs.take j)) : Nat) ∧ Mod none_ w2 w') (fun ρ _ => l[n].exprs.length - (intOf (ρ 7)).toNat)
        ⟨0, Nat.zero_le _, rfl, q0, q1, q6, q5.trans (by simp [Ex.deepL]), Mod.refl _ _⟩ ?_
      rintro ρ2 w3 ⟨j, hj, g7, g0, g1, g6, g5, hm3⟩
      have hok3 := (hokC w2 hm2).mod hm3
      have he := hok3.at hx
      obtain ⟨A1, c1, hs1, _⟩ := reads_cap he.exprs.1
      have hlenE := Ex.len_sz l[n].exprs
      rw [dispatcherref02_DeepStmts_L5_eq]
      unfold dispatcherref02_DeepStmts_L5_F
      rw [g7, g0, g6, g5]
      refine ixStA hok3 hx fun a ha => ?_
      have c5 := ha 5 _ rfl
      rw [hs1] at c5
      simp only [fo25_0, fo25_1, fo40_0, fo40_1, fo60_0, fo60_1, fo60_2, fo60_3, fo62_0, fo62_1, fo62_2, fo62_3, fo62_4, fo62_5, fo62_6, fo62_7, ld2, ld3, ld5, ld9, ld22, ld23, ld58, len9, len22, len23, len52, len58, ldK_some, cellE, blkC_c, add_pl, Nat.zero_add, List.getElem?_toArray, List.getElem?_cons_succ, List.getElem?_cons_zero, c5, BK_lss]
      by_cases hltj : j < l[n].exprs.length
      · rw [show decide ((j : Int) < (l[n].exprs.length : Int)) = true by rw [decide_eq_true_eq]; omega]
        refine condT ?_
        refine ixStA hok3 hx fun a3 ha3 => ?_
        have c53 := ha3 5 _ rfl
        rw [hs1] at c53
        simp only [fo25_0, fo25_1, fo40_0, fo40_1, fo60_0, fo60_1, fo60_2, fo60_3, fo62_0, fo62_1, fo62_2, fo62_3, fo62_4, fo62_5, fo62_6, fo62_7, ld2, ld3, ld5, ld9, ld22, ld23, ld58, len9, len22, len23, len52, len58, ldK_some, cellE, blkC_c, add_pl, Nat.zero_add, List.getElem?_toArray, List.getElem?_cons_succ, List.getElem?_cons_zero, c53]
        have hxj : l[n].exprs[j]? = some l[n].exprs[j] := List.getElem?_eq_getElem hltj
        have hokE : ExsOk w3 (.slice A1 l[n].exprs.length c1) l[n].exprs := by rw [← hs1]; exact he.exprs
        refine ixEx hokE hxj fun y2 => ?_
        have hsj := Ex.szL_at hxj
        refine CK_st Tryd.func98 rfl rfl (DeepExpr_ok _ w3 (hokE.at hxj) (by omega)) ?_
        rintro _ w4 ⟨rfl, hm4⟩
        rw [max_i, BK_add, wrap_i (n := (j : Int) + 1) (by omega) (by omega)]
        refine ⟨⟨j + 1, hltj, rfl, g0, g1, g6, ?_, hm3.trans hm4⟩, ?_⟩
        · show Value.int .i64 _ = _
          rw [List.take_add_one, hxj, Option.toList_some, Ex.deepL_snoc]
          congr 1
          generalize max (max (max (St.deepAt (l.take n) at_) at_) (St.deepAt l[n].body (at_ + 1))) (St.deepAt l[n].els (at_ + 1)) = M
          split <;> omega
        · show l[n].exprs.length - (intOf (Value.int .i64 ((j : Int) + 1))).toNat < _
          simp only [intOf]; omega
      · obtain rfl : j = l[n].exprs.length := by omega
        rw [show decide (((l[n].exprs.length : Nat) : Int) < (l[n].exprs.length : Int)) = false by simp]
        refine condF ?_
        rw [sq_x, bk_x, bk_n, sq_n, dispatcherref02_DeepStmts_R4_eq]
        unfold dispatcherref02_DeepStmts_R4_F
        rw [List.take_length] at g5
        have g6' : ∀ a b d f g h i k : Value, (up (up (up (up (up (up (up (up ρ2 33 a) 34 b) 35 d) 36 f) 37 g) 38 h) 39 i) 40 k) 6 = .int .i64 n := fun _ _ _ _ _ _ _ _ => g6
        rw [g6', BK_add, wrap_i (n := (n : Int) + 1) (by omega) (by omega)]
        refine ⟨⟨n + 1, hlt, rfl, g0, g1, ?_, (hm.trans hm2).trans hm3⟩, ?_⟩
        · refine g5.trans ?_
          rw [List.take_add_one, hx, Option.toList_some, St.deepAt_snoc]
          congr 2
          omega
        · show l.length - (intOf (Value.int .i64 ((n : Int) + 1))).toNat < _
          simp only [intOf]; omega
    refine go _ ?_ ?_ ?_ ?_
    · exact h0
    · exact h1
    · exact h6
    · rfl
  · obtain rfl : n = l.length := by omega
    rw [show decide (((l.length : Nat) : Int) < (l.length : Int)) = false by simp]
    refine condF ?_
    rw [sq_x, bk_x, sq_n, dispatcherref02_DeepStmts_R1_eq]
    unfold dispatcherref02_DeepStmts_R1_F
    rw [List.take_length] at h5
    exact ⟨h5, hm⟩
theorem deepR_all : ∀ e : St, DeepR e.body ∧ DeepR e.els := by
  intro e
  induction e using St.ind with
  | h e ih1 ih2 => exact ⟨deepR_row ih1, deepR_row ih2⟩
theorem DeepStmts_ok (l : List St) : DeepR l := deepR_row fun a _ => deepR_all a
theorem DeepR_ok {w : World} {p : Pr} (h : p.Ok w) (hf : p.fits) : Rt Tryd.prog 57 #[.agg p.cells.toArray] w fun v w' => v = .int .i64 (St.deepAt p.body 1) ∧ Mod none_ w w' := by
  refine dispatcherref02_Deep_calls ?_
  unfold dispatcherref02_Deep_F
  refine box_k (cs := p.cells.toArray) rfl fun w1 hb1 hm1 _ => ?_
  simp only [fo25_0, fo25_1, fo40_0, fo40_1, fo60_0, fo60_1, fo60_2, fo60_3, fo62_0, fo62_1, fo62_2, fo62_3, fo62_4, fo62_5, fo62_6, fo62_7, ld2, ld3, ld5, ld9, ld22, ld23, ld58, len9, len22, len23, len52, len58, ldK_some, cellE, blkC_c, add_pl, Nat.zero_add, List.getElem?_toArray, List.getElem?_cons_succ, List.getElem?_cons_zero, hb1, Pr.c1]
  refine CK_st Tryd.func76 rfl rfl (DeepStmts_ok _ w1 _ 1 (h.b.mod hm1) hf.2 (by have := hf.2; omega)) ?_
  rintro _ w2 ⟨rfl, hm2⟩
  exact ⟨rfl, hm1.trans hm2⟩
theorem MayR_ok {w : World} {p : Pr} (h : p.Ok w) (hf : p.fits) : Rt Tryd.prog 33 #[.agg p.cells.toArray] w fun v w' => v = .bool p.may ∧ Mod none_ w w' := by
  obtain ⟨A, c, hs, _⟩ := reads_cap h.d.1
  have hlen := hf.1
  refine dispatcherref02_May_calls ?_
  unfold dispatcherref02_May_F
  refine box_k (cs := p.cells.toArray) rfl fun w1 hb1 hm1 _ => ?_
  refine W_loop dispatcherref02_May_L0_ok (fun ρ w' => ∃ n : Nat, n ≤ p.decls.length ∧ ρ 3 = .int .i64 n ∧ ρ 1 = .pointer (some ⟨w.heap.size, 0, none⟩) ∧ (∀ a ∈ p.decls.take n, De.may a = true) ∧ Mod none_ w1 w') (fun ρ _ => p.decls.length - (intOf (ρ 3)).toNat)
    ⟨0, Nat.zero_le _, rfl, rfl, by simp, Mod.refl _ _⟩ ?_
  rintro ρ w2 ⟨n, hn, h3, h1, hall, hm2⟩
  have hb2 := hm2.blk hb1 id
  have hm12 := hm1.trans hm2
  rw [dispatcherref02_May_L0_eq]
  unfold dispatcherref02_May_L0_F
  simp only [h3, h1, fo25_0, fo25_1, fo40_0, fo40_1, fo60_0, fo60_1, fo60_2, fo60_3, fo62_0, fo62_1, fo62_2, fo62_3, fo62_4, fo62_5, fo62_6, fo62_7, ld2, ld3, ld5, ld9, ld22, ld23, ld58, len9, len22, len23, len52, len58, ldK_some, cellE, blkC_c, add_pl, Nat.zero_add, List.getElem?_toArray, List.getElem?_cons_succ, List.getElem?_cons_zero, hb2, Pr.c0, hs, BK_lss]
  by_cases hlt : n < p.decls.length
  · rw [show decide ((n : Int) < (p.decls.length : Int)) = true by rw [decide_eq_true_eq]; omega]
    refine condT ?_
    have hx : p.decls[n]? = some p.decls[n] := List.getElem?_eq_getElem hlt
    have hmem : p.decls[n] ∈ p.decls := List.getElem_mem hlt
    have hok2 := h.d.mod hm12
    rw [hs] at hok2
    refine ixDe hok2 hx fun y => ?_
    refine lcl_k (cs := p.decls[n].cells.toArray) zDe _ iDe rfl (de_one _) fun w3 hb3 hm3 _ => ?_
    simp only [fo25_0, fo25_1, fo40_0, fo40_1, fo60_0, fo60_1, fo60_2, fo60_3, fo62_0, fo62_1, fo62_2, fo62_3, fo62_4, fo62_5, fo62_6, fo62_7, ld2, ld3, ld5, ld9, ld22, ld23, ld58, len9, len22, len23, len52, len58, ldK_some, cellE, blkC_c, add_pl, Nat.zero_add, List.getElem?_toArray, List.getElem?_cons_succ, List.getElem?_cons_zero, hb3, De.c0]
    refine CK_st Tryd.func20 rfl rfl (NameR_ok w3 p.decls[n].name (hok2.2 _ hmem).1) ?_
    rintro _ w4 ⟨rfl, hm4⟩
    have hb4 := hm4.blk hb3 id
    rw [not_ok]
    have f1 : FAt Tryd.prog w4 40 1 ⟨w2.heap.size, 0, none⟩ 3 (.int .i64 p.decls[n].places) := FAt.mk' (off := 1) (by kernel_rfl) uI rfl (by rw [add_pl, cell_blk hb4]; rfl)
    refine fO' f1 (fun K => BK_lss _ _ _ _ _ _) fun x22 x23 x24 => ?_
    refine fO' f1 (fun K => BK_gtr _ _ _ _ _ _) fun x27 x28 x29 => ?_
    have hmay : (!nameP p.decls[n].name || decide (p.decls[n].places < 0) || decide ((1000 : Int) < p.decls[n].places)) = !De.may p.decls[n] := by
      unfold De.may
      rw [lt_dec, lt_dec]
      cases nameP p.decls[n].name <;> cases decide (0 ≤ p.decls[n].places) <;> cases decide (p.decls[n].places ≤ 1000) <;> rfl
    rw [hmay]
    have hm14 := (hm12.trans hm3).trans hm4
    cases hp : De.may p.decls[n] with
    | false =>
      refine condT ?_
      refine ⟨?_, hm14⟩
      have : p.decls.all De.may = false := by
        rw [Bool.eq_false_iff]
        intro q
        have := List.all_eq_true.1 q _ hmem
        rw [hp] at this; cases this
      show Value.bool false = _
      unfold Pr.may
      rw [this]
      simp
    | true =>
      refine condF ?_
      rw [BK_add, wrap_i (n := (n : Int) + 1) (by omega) (by omega)]
      refine ⟨⟨n + 1, hlt, rfl, h1, ?_, (hm2.trans hm3).trans hm4⟩, ?_⟩
      · rw [List.take_add_one, hx, Option.toList_some]
        intro a q
        rcases List.mem_append.1 q with q | q
        · exact hall a q
        · rw [List.mem_singleton.1 q]; exact hp
      · show p.decls.length - (intOf (Value.int .i64 ((n : Int) + 1))).toNat < _
        simp only [intOf]; omega
  · obtain rfl : n = p.decls.length := by omega
    rw [show decide (((p.decls.length : Nat) : Int) < (p.decls.length : Int)) = false by simp]
    refine condF ?_
    have hall' : p.decls.all De.may = true := by
      rw [List.take_length] at hall
      exact List.all_eq_true.2 hall
    rw [sq_x, bk_x, sq_n, dispatcherref02_May_R1_eq]
    unfold dispatcherref02_May_R1_F
    have g1 : ∀ a b d f g : Value, (up (up (up (up (up ρ 5 a) 6 b) 7 d) 8 f) 9 g) 1 = .pointer (some ⟨w.heap.size, 0, none⟩) := fun _ _ _ _ _ => h1
    rw [g1]
    refine ldB (cs := p.cells.toArray) Tryd.underlying25 rfl iPr hb2 ?_
    refine CK_st Tryd.func57 rfl rfl (DeepR_ok (h.mod hm12) hf) ?_
    rintro _ w3 ⟨rfl, hm3⟩
    have hb3 := hm3.blk hb2 id
    rw [BK_leq, show decide ((St.deepAt p.body 1 : Int) ≤ 32) = decide (St.deepAt p.body 1 ≤ 32) by rw [decide_eq_decide]; omega]
    have hmay : p.may = (decide (St.deepAt p.body 1 ≤ 32) && St.mayL p.body) := by
      unfold Pr.may
      rw [hall', Bool.and_true]
    cases hd : decide (St.deepAt p.body 1 ≤ 32) with
    | false =>
      rw [hd] at hmay
      simp only [CondK_bool, MG_u, NG_u, VG_u, UG_u, PG_u, BG_u, CG_u, IG_u, MG_b, NG_b, VG_b, UG_b, PG_b, BG_b, CG_b, IG_b, PK_bool, NK_ptr, not_ok, reduceCtorEq, if_true, if_false, Bool.true_eq_false, Bool.false_eq_true, Bool.not_true, Bool.not_false]
      exact ⟨by rw [hmay]; rfl, hm12.trans hm3⟩
    | true =>
      rw [hd] at hmay
      simp only [CondK_bool, MG_u, NG_u, VG_u, UG_u, PG_u, BG_u, CG_u, IG_u, MG_b, NG_b, VG_b, UG_b, PG_b, BG_b, CG_b, IG_b, PK_bool, NK_ptr, not_ok, reduceCtorEq, if_true, if_false, Bool.true_eq_false, Bool.false_eq_true, Bool.not_true, Bool.not_false, fo25_0, fo25_1, fo40_0, fo40_1, fo60_0, fo60_1, fo60_2, fo60_3, fo62_0, fo62_1, fo62_2, fo62_3, fo62_4, fo62_5, fo62_6, fo62_7, ld2, ld3, ld5, ld9, ld22, ld23, ld58, len9, len22, len23, len52, len58, ldK_some, cellE, blkC_c, add_pl, Nat.zero_add, List.getElem?_toArray, List.getElem?_cons_succ, List.getElem?_cons_zero, hb3, Pr.c1]
      refine CK_st Tryd.func58 rfl rfl (MayStmtsR_ok _ w3 _ ((h.mod hm12).mod hm3).b hf.2) ?_
      rintro _ w4 ⟨rfl, hm4⟩
      exact ⟨by rw [hmay]; rfl, (hm12.trans hm3).trans hm4⟩
end Go.Proofs.YtbnbcimjapiicaaDoor.Tr
