/- Many, Great of the chapter. -/
import Derived.Test.YtbnbcimjapiicaaDoorT2
import Derived.Test.YtbnbcimjapiicaaDoorXSlot
set_option linter.unusedVariables false
set_option linter.unusedSimpArgs false
set_option maxRecDepth 4000
namespace Go.Proofs.YtbnbcimjapiicaaDoor.Tr
open Go Go.X Go.RowKit Go.Proofs.YtbnbcimjapiicaaDoor.XF Go.Proofs.YtbnbcimjapiicaaDoor.XK

def ManySt (l : List St) : Prop := ∀ (w : World) (s : Value), StsOk w s l → St.szL l ≤ 1099511627776 → Rt Tryd.prog 31 #[s] w fun v w' => v = .int .i64 (St.manyL l) ∧ Mod none_ w w'
theorem manySt_row {l : List St} (ih : ∀ a ∈ l, ManySt a.body ∧ ManySt a.els) : ManySt l := by
  intro w s hok hsz
  obtain ⟨A, c, hs, _⟩ := reads_cap hok.1
  have hlen := St.len_sz l
  refine dispatcherref02_Many_calls ?_
  unfold dispatcherref02_Many_F
  refine W_loop dispatcherref02_Many_L0_ok (fun ρ w' => ∃ (n : Nat), n ≤ l.length ∧ ρ 4 = .int .i64 n ∧ ρ 3 = .int .i64 (St.manyL (l.take n)) ∧ ρ 0 = s ∧ Mod none_ w w') (fun ρ _ => l.length - (intOf (ρ 4)).toNat)
    ⟨0, Nat.zero_le _, rfl, rfl, rfl, Mod.refl _ _⟩ ?_
  rintro ρ w1 ⟨n, hn, h4, h3, h0, hm⟩
  rw [dispatcherref02_Many_L0_eq]
  unfold dispatcherref02_Many_L0_F
  rw [h0, hs, h4, len23, BK_lss]
  by_cases hlt : n < l.length
  · rw [show decide ((n : Int) < (l.length : Int)) = true by rw [decide_eq_true_eq]; omega]
    refine condT ?_
    have hx : l[n]? = some l[n] := List.getElem?_eq_getElem hlt
    have hmem : l[n] ∈ l := List.getElem_mem hlt
    obtain ⟨ihB, ihE⟩ := ih _ hmem
    have hs2 := St.szL_at hx
    have hse := St.sz_eq l[n]
    have hokC : ∀ w', Mod none_ w1 w' → StsOk w' (.slice A l.length c) l := fun w' hw => by rw [← hs]; exact (hok.mod hm).mod hw
    refine dispatcherref02_Many_R2_quiet (D := []) (fun w' => Mod none_ w1 w') ((Mod.refl _ w1).drawn _) ?_
    unfold dispatcherref02_Many_R2_Q
    have e3 : ∀ a b d f : Value, (up (up (up (up ρ 5 a) 6 b) 7 d) 8 f) 3 = .int .i64 (St.manyL (l.take n)) := fun _ _ _ _ => h3
    have e0 : ∀ a b d f : Value, (up (up (up (up ρ 5 a) 6 b) 7 d) 8 f) 0 = .slice A l.length c := fun _ _ _ _ => h0.trans hs
    have e4 : ∀ a b d f : Value, (up (up (up (up ρ 5 a) 6 b) 7 d) 8 f) 4 = .int .i64 n := fun _ _ _ _ => h4
    simp only [e3, e0, e4]
    have ht := St.manyL_sz (l.take n)
    have hb := St.many_sz l[n]
    have hbe := St.many_eq l[n]
    have hrow := fun w' hw => (hokC w' hw).at hx
    refine Qadd (QixSt (w0 := w1) (Mod.refl _ w1) hokC hx fun a ha => ?_)
    refine Qfo (off := 3) (by kernel_rfl) (Qld uS rfl (v := .string l[n].name) (fun w' hw => ha w' hw 3 _ rfl) (Qlen_s uS _ _ (Qmin (Qadd ?_))))
    refine QixSt (w0 := w1) (Mod.refl _ w1) hokC hx fun a2 ha2 => ?_
    refine Qfo (off := 5) (by kernel_rfl) (Qld uExs rfl (v := l[n].es) (fun w' hw => ha2 w' hw 5 _ rfl) ?_)
    refine QC_rt Tryd.func55 rfl rfl (v := .int .i64 (Ex.manyL l[n].exprs)) (fun w' hw => ManyExprs_ok w' _ (hrow w' hw).exprs (by omega)) (fun w' u w'' hw hu => ⟨hu.1, hw.trans hu.2⟩) (Qadd ?_)
    refine QixSt (w0 := w1) (Mod.refl _ w1) hokC hx fun a3 ha3 => ?_
    refine Qfo (off := 6) (by kernel_rfl) (Qld uSts rfl (v := l[n].bs) (fun w' hw => ha3 w' hw 6 _ rfl) ?_)
    refine QC_rt Tryd.func31 rfl rfl (v := .int .i64 (St.manyL l[n].body)) (fun w' hw => ihB w' _ (hrow w' hw).body (by omega)) (fun w' u w'' hw hu => ⟨hu.1, hw.trans hu.2⟩) (Qadd ?_)
    refine QixSt (w0 := w1) (Mod.refl _ w1) hokC hx fun a4 ha4 => ?_
    refine Qfo (off := 7) (by kernel_rfl) (Qld uSts rfl (v := l[n].ls) (fun w' hw => ha4 w' hw 7 _ rfl) ?_)
    refine QC_rt Tryd.func31 rfl rfl (v := .int .i64 (St.manyL l[n].els)) (fun w' hw => ihE w' _ (hrow w' hw).els (by omega)) (fun w' u w'' hw hu => ⟨hu.1, hw.trans hu.2⟩) (Qadd ?_)
    intro w2 hm2
    rw [wrap_i (n := (St.manyL (l.take n) : Int) + 1) (by omega) (by omega)]
    rw [wrap_i (n := (St.manyL (l.take n) : Int) + 1 + (if (30000 : Int) < (l[n].name.size : Int) then 30000 else (l[n].name.size : Int))) (by split <;> omega) (by split <;> omega)]
    rw [wrap_i (n := (St.manyL (l.take n) : Int) + 1 + (if (30000 : Int) < (l[n].name.size : Int) then 30000 else (l[n].name.size : Int)) + (Ex.manyL l[n].exprs : Int)) (by split <;> omega) (by split <;> omega)]
    rw [wrap_i (n := (St.manyL (l.take n) : Int) + 1 + (if (30000 : Int) < (l[n].name.size : Int) then 30000 else (l[n].name.size : Int)) + (Ex.manyL l[n].exprs : Int) + (St.manyL l[n].body : Int)) (by split <;> omega) (by split <;> omega)]
    rw [wrap_i (n := (St.manyL (l.take n) : Int) + 1 + (if (30000 : Int) < (l[n].name.size : Int) then 30000 else (l[n].name.size : Int)) + (Ex.manyL l[n].exprs : Int) + (St.manyL l[n].body : Int) + (St.manyL l[n].els : Int)) (by split <;> omega) (by split <;> omega)]
    rw [bk_n, sq_n, dispatcherref02_Many_R3_eq]
    unfold dispatcherref02_Many_R3_F
    refine BKadd (a := n) (b := 1) ?_ rfl (by omega) (by omega) ?_
    · exact h4
    refine ⟨⟨n + 1, hlt, rfl, ?_, h0.trans hs, hm.trans hm2⟩, ?_⟩
    · show Value.int .i64 _ = _
      rw [List.take_add_one, hx, Option.toList_some, St.manyL_snoc]
      congr 1
      split <;> omega
    · show l.length - (intOf (Value.int .i64 ((n : Int) + 1))).toNat < _
      simp only [intOf]; omega
  · obtain rfl : n = l.length := by omega
    rw [show decide (((l.length : Nat) : Int) < (l.length : Int)) = false by simp]
    refine condF ?_
    rw [sq_x, bk_x, sq_n, dispatcherref02_Many_R1_eq]
    unfold dispatcherref02_Many_R1_F
    rw [List.take_length] at h3
    exact ⟨h3, hm⟩
theorem manySt_all : ∀ e : St, ManySt e.body ∧ ManySt e.els := by
  intro e
  induction e using St.ind with
  | h e ih1 ih2 => exact ⟨manySt_row ih1, manySt_row ih2⟩
theorem Many_ok (l : List St) : ManySt l := manySt_row fun a _ => manySt_all a
def Pr.great (p : Pr) : Bool := decide (100 < p.decls.length) || (decide (20000 < St.manyL p.body) || p.decls.any fun d => decide (30 < d.name.size))
theorem Great_ok {w : World} {p : Pr} (h : p.Ok w) (hf : p.fits) : Rt Tryd.prog 10 #[.agg p.cells.toArray] w fun v w' => v = .bool p.great ∧ Mod none_ w w' := by
  obtain ⟨A, c, hs, _⟩ := reads_cap h.d.1
  refine dispatcherlaw02_Great_calls ?_
  unfold dispatcherlaw02_Great_F
  refine box_k (cs := p.cells.toArray) rfl fun w1 hb1 hm1 hz1 => ?_
  have h1 := h.mod hm1
  have f0 : ∀ w', Mod none_ w1 w' → FAt Tryd.prog w' 25 0 ⟨w.heap.size, 0, none⟩ 22 (.slice A p.decls.length c) := fun w' hw => FAt.mk' (off := 0) (by kernel_rfl) uDes rfl (by rw [add_pl, cell_blk (hw.blk hb1 id), ← hs]; rfl)
  have f1 : FAt Tryd.prog w1 25 1 ⟨w.heap.size, 0, none⟩ 23 p.bs := FAt.mk' (off := 1) (by kernel_rfl) uSts rfl (by rw [add_pl, cell_blk hb1]; rfl)
  have hf1 := hf.1
  refine (f0 w1 (Mod.refl _ _)).vk' fun x4 => ?_
  rw [len22]
  refine BKgtr (a := p.decls.length) (b := 100) rfl rfl ?_
  unfold Pr.great
  by_cases hd : 100 < p.decls.length
  · rw [show decide ((100 : Int) < (p.decls.length : Int)) = true by rw [decide_eq_true_eq]; omega]
    simp only [CondK_bool, MG_u, NG_u, VG_u, UG_u, PG_u, BG_u, CG_u, IG_u, MG_b, NG_b, VG_b, UG_b, PG_b, BG_b, CG_b, IG_b, PK_bool, NK_ptr, not_ok, reduceCtorEq, if_true, if_false, Bool.true_eq_false, Bool.false_eq_true, Bool.not_true, Bool.not_false]
    refine ⟨?_, hm1⟩
    rw [decide_eq_true hd]; rfl
  · rw [show decide ((100 : Int) < (p.decls.length : Int)) = false by rw [decide_eq_false_iff_not]; omega, decide_eq_false hd, Bool.false_or]
    simp only [CondK_bool, MG_u, NG_u, VG_u, UG_u, PG_u, BG_u, CG_u, IG_u, MG_b, NG_b, VG_b, UG_b, PG_b, BG_b, CG_b, IG_b, PK_bool, NK_ptr, not_ok, reduceCtorEq, if_true, if_false, Bool.true_eq_false, Bool.false_eq_true, Bool.not_true, Bool.not_false]
    refine f1.vk' fun x9 => ?_
    refine CK_st Tryd.func31 rfl rfl (Many_ok p.body w1 _ h1.b hf.2) ?_
    rintro _ w2 ⟨rfl, hm2⟩
    have hb2 := hm2.blk hb1 id
    have hm02 := hm1.trans hm2
    refine BKgtr (a := St.manyL p.body) (b := 20000) rfl rfl ?_
    by_cases hmn : 20000 < St.manyL p.body
    · rw [show decide ((20000 : Int) < (St.manyL p.body : Int)) = true by rw [decide_eq_true_eq]; omega]
      refine condT ⟨?_, hm02⟩
      rw [decide_eq_true hmn]; rfl
    · rw [show decide ((20000 : Int) < (St.manyL p.body : Int)) = false by rw [decide_eq_false_iff_not]; omega, decide_eq_false hmn, Bool.false_or]
      refine condF ?_
      refine W_loop dispatcherlaw02_Great_L0_ok (fun ρ w' => ∃ (n : Nat), n ≤ p.decls.length ∧ ρ 3 = .int .i64 n ∧ ρ 1 = .pointer (some ⟨w.heap.size, 0, none⟩) ∧ ((p.decls.take n).any fun d => decide (30 < d.name.size)) = false ∧ w' = w2) (fun ρ _ => p.decls.length - (intOf (ρ 3)).toNat)
        ⟨0, Nat.zero_le _, rfl, rfl, rfl, rfl⟩ ?_
      rintro ρ w3 ⟨n, hn, h3, h1', hno, rfl⟩
      have hds := h.d.mod hm02
      rw [hs] at hds
      rw [dispatcherlaw02_Great_L0_eq]
      unfold dispatcherlaw02_Great_L0_F
      rw [h1', h3]
      refine (f0 w3 hm2).vk' fun x15 => ?_
      rw [len22]
      refine BKlss (a := n) (b := p.decls.length) rfl rfl ?_
      by_cases hlt : n < p.decls.length
      · rw [show decide ((n : Int) < (p.decls.length : Int)) = true by rw [decide_eq_true_eq]; omega]
        refine condT ?_
        have hx : p.decls[n]? = some p.decls[n] := List.getElem?_eq_getElem hlt
        refine (f0 w3 hm2).vk' fun x21 => ?_
        refine ixDeA hds hx fun a ha => ?_
        have g0 : FAt Tryd.prog w3 40 0 a 9 (.string p.decls[n].name) := FAt.mk' (off := 0) (by kernel_rfl) uS rfl (ha 0 _ rfl)
        refine g0.vk' fun x25 => ?_
        rw [len9]
        refine BKgtr (a := p.decls[n].name.size) (b := 30) rfl rfl ?_
        by_cases hq : 30 < p.decls[n].name.size
        · rw [show decide ((30 : Int) < (p.decls[n].name.size : Int)) = true by rw [decide_eq_true_eq]; omega]
          refine condT ⟨?_, hm02⟩
          show Value.bool true = _
          congr 1
          exact (List.any_eq_true.2 ⟨_, List.getElem_mem hlt, decide_eq_true hq⟩).symm
        · rw [show decide ((30 : Int) < (p.decls[n].name.size : Int)) = false by rw [decide_eq_false_iff_not]; omega]
          refine condF ?_
          refine BKadd (a := n) (b := 1) rfl rfl (by omega) (by omega) ?_
          refine ⟨⟨n + 1, hlt, rfl, h1', ?_, rfl⟩, ?_⟩
          · rw [List.take_add_one, hx, Option.toList_some, List.any_append, hno]
            simp [hq]
          · show p.decls.length - (intOf (Value.int .i64 ((n : Int) + 1))).toNat < _
            simp only [intOf]; omega
      · obtain rfl : n = p.decls.length := by omega
        rw [show decide (((p.decls.length : Nat) : Int) < (p.decls.length : Int)) = false by simp]
        refine condF ?_
        rw [sq_x, bk_x, sq_n, dispatcherlaw02_Great_R1_eq]
        unfold dispatcherlaw02_Great_R1_F
        rw [List.take_length] at hno
        rw [hno]
        exact ⟨rfl, hm02⟩
end Go.Proofs.YtbnbcimjapiicaaDoor.Tr
