/- What is wrong with statements: the program's. -/
import Derived.Test.YtbnbcimjapiicaaDoorSF
set_option linter.unusedVariables false
set_option linter.unusedSimpArgs false
set_option maxRecDepth 4000
namespace Go.Proofs.YtbnbcimjapiicaaDoor.Tr
open Go Go.X Go.RowKit Go.Proofs.YtbnbcimjapiicaaDoor.XG Go.Proofs.YtbnbcimjapiicaaDoor.XK

def StC (C : Cx) (l : List St) : Prop := ∀ (w : World) (v : Value), Clo C zWr w → StsOk C.w0 v l → St.szL l ≤ 1099511627776 →
  Rt Tryd.prog 62 #[v, pt C.x6, pt C.x7, pt C.x8] w fun v w' => v = .bool (decide ((St.wrL (kindP C.ds) l).err = 0)) ∧ Clo C (St.wrL (kindP C.ds) l) w' ∧ Mod (fun i => i = C.x5) w w'
theorem up0 {S : Nat → Prop} {w w' : World} (h : Mod none_ w w') : Mod S w w' := h.mono fun _ _ q => q.elim
theorem stC_row {C : Cx} {l : List St} (ih : ∀ a ∈ l, StC C a.body ∧ StC C a.els) : StC C l := by
  intro w v hC hok hsz
  obtain ⟨A, c, hs, _⟩ := reads_cap hok.1
  have hlen := St.len_sz l
  refine scope_Table_look_3_calls ?_
  unfold scope_Table_look_3_F
  rw [hs, len23]
  refine W_loop scope_Table_look_3_L0_ok (fun ρ w' => ∃ n : Nat, n ≤ l.length ∧ ρ 13 = .int .i64 n ∧ ρ 12 = .int .i64 l.length ∧ ρ 11 = .slice A l.length c ∧ ρ 1 = pt C.x6 ∧ ρ 2 = pt C.x7 ∧ ρ 3 = pt C.x8 ∧ (∀ a ∈ l.take n, (a.wr (kindP C.ds)).err = 0) ∧ Clo C zWr w' ∧ Mod (fun i => i = C.x5) w w') (fun ρ _ => l.length - (intOf (ρ 13)).toNat)
    ⟨0, Nat.zero_le _, rfl, rfl, rfl, rfl, rfl, rfl, by simp, hC, Mod.refl _ _⟩ ?_
  rintro ρ w2 ⟨n, hn, h13, h12, h11, h1, h2, h3, hall, hC2, hm⟩
  have h : ∀ K : Exit → Sl → World → Prop, (∀ ρ' w', n < l.length → ρ' 13 = .int .i64 ((n : Int) + 1) → ρ' 12 = .int .i64 l.length → ρ' 11 = .slice A l.length c → ρ' 1 = pt C.x6 → ρ' 2 = pt C.x7 → ρ' 3 = pt C.x8 → (∀ a ∈ l.take (n + 1), (a.wr (kindP C.ds)).err = 0) → Clo C zWr w' → Mod (fun i => i = C.x5) w w' → K .normal ρ' w') →
      (∀ ρ' w', ρ' 5 = .bool false → (St.wrL (kindP C.ds) l).err ≠ 0 → Clo C (St.wrL (kindP C.ds) l) w' → Mod (fun i => i = C.x5) w w' → K .ret ρ' w') →
      (∀ ρ', n = l.length → K (.exit 0) ρ' w2) → sx fn_ Tryd.prog 71 scope_Table_look_3_L0 K ρ w2 := by
    intro K kN kR kX
    rw [scope_Table_look_3_L0_eq]
    unfold scope_Table_look_3_L0_F
    rw [h13, h12, h11]
    refine BKlss (a := n) (b := l.length) rfl rfl ?_
    by_cases hlt : n < l.length
    · rw [show decide ((n : Int) < (l.length : Int)) = true by rw [decide_eq_true_eq]; omega]
      refine condT ?_
      have hx : l[n]? = some l[n] := List.getElem?_eq_getElem hlt
      have hmem : l[n] ∈ l := List.getElem_mem hlt
      have hok2 := hok.mod hC2.m
      rw [hs] at hok2
      refine ixSt hok2 hx fun y => ?_
      have hoke := hok.2 _ hmem
      have hsn := St.szL_at hx
      have hsz2 := St.sz_eq l[n]
      obtain ⟨ihB, ihE⟩ := ih _ hmem
      refine lcl_k (cs := l[n].cells.toArray) zSt _ iSt rfl (st_one (hok2.at hx)) fun w3 hb3 hm3 hz3 => ?_
      have hC3 := hC2.step hm3
      have hm03 := hm.trans (up0 hm3)
      have hx5 : C.x5 < w2.heap.size := blk_lt hC2.b5
      generalize w2.heap.size = bS at *
      clear hok2 hm3 hz3 hC2 hm
      have d0 : FAt Tryd.prog w3 62 0 ⟨bS, 0, none⟩ 5 (.int .u8 l[n].op) := FAt.mk' (off := 0) (by kernel_rfl) uU8 rfl (by rw [add_pl, cell_blk hb3]; rfl)
      have d3 : FAt Tryd.prog w3 62 3 ⟨bS, 0, none⟩ 9 (.string l[n].name) := FAt.mk' (off := 3) (by kernel_rfl) uSt rfl (by rw [add_pl, cell_blk hb3]; rfl)
      have d8 : FAt Tryd.prog w3 62 8 ⟨bS, 0, none⟩ 3 (.int .i64 l[n].line) := FAt.mk' (off := 8) (by kernel_rfl) uI rfl (by rw [add_pl, cell_blk hb3]; rfl)
      have d9 : FAt Tryd.prog w3 62 9 ⟨bS, 0, none⟩ 3 (.int .i64 l[n].col) := FAt.mk' (off := 9) (by kernel_rfl) uI rfl (by rw [add_pl, cell_blk hb3]; rfl)
      have hwr := St.wr_eq (kindP C.ds) l[n]
      have ans : (l[n].wr (kindP C.ds)).err ≠ 0 → St.wrL (kindP C.ds) l = l[n].wr (kindP C.ds) := St.wrL_at hx hall
      -- behind the expressions
      have r6 : ∀ (ρ' : Sl) (w4 : World) (r : Wr), Clo C r w4 → Mod (fun i => i = C.x5) w w4 → w4.heap[bS]? = some (.cells l[n].cells.toArray 62 (0, 0)) → ρ' 8 = .bool (decide (r.err = 0)) → ρ' 13 = .int .i64 n → ρ' 12 = .int .i64 l.length → ρ' 11 = .slice A l.length c → ρ' 1 = pt C.x6 → ρ' 2 = pt C.x7 → ρ' 3 = pt C.x8 → ρ' 7 = pt bS →
          (r.err = 0 → r = zWr ∧ l[n].bad (kindP C.ds) = false ∧ (Ex.wrL (kindP C.ds) l[n].exprs).err = 0) → (r.err ≠ 0 → l[n].wr (kindP C.ds) = r) →
          sx fn_ Tryd.prog 71 scope_Table_look_3_R6 (blkK 1 (seqK (sx fn_ Tryd.prog 71 scope_Table_look_3_R4 K) K)) ρ' w4 := by
        intro ρ' w4 r hC4 hm4 hb4 q8 q13 q12 q11 q1 q2 q3 q7 g0 g1
        rw [scope_Table_look_3_R6_eq]
        unfold scope_Table_look_3_R6_F
        have f6 : ∀ w', w'.heap[bS]? = some (.cells l[n].cells.toArray 62 (0, 0)) → FAt Tryd.prog w' 62 6 ⟨bS, 0, none⟩ 23 l[n].bs := fun w' hb => FAt.mk' (off := 6) (by kernel_rfl) uSts rfl (by rw [add_pl, cell_blk hb]; rfl)
        have f7 : ∀ w', w'.heap[bS]? = some (.cells l[n].cells.toArray 62 (0, 0)) → FAt Tryd.prog w' 62 7 ⟨bS, 0, none⟩ 23 l[n].ls := fun w' hb => FAt.mk' (off := 7) (by kernel_rfl) uSts rfl (by rw [add_pl, cell_blk hb]; rfl)
        have bad : ∀ (ρ2 : Sl) (w5 : World) (r : Wr), ρ2 5 = .bool false → r.err ≠ 0 → l[n].wr (kindP C.ds) = r → Clo C r w5 → Mod (fun i => i = C.x5) w w5 → (blkK 1 (seqK (sx fn_ Tryd.prog 71 scope_Table_look_3_R4 K) K)) .ret ρ2 w5 := by
          intro ρ2 w5 r q5 hz hr hC5 hm5
          rw [bk_r, sq_r]
          have e := ans (by rw [hr]; exact hz)
          rw [hr] at e
          exact kR _ _ q5 (by rw [e]; exact hz) (by rw [e]; exact hC5) hm5
        have good : ∀ (ρ2 : Sl) (w5 : World), (l[n].wr (kindP C.ds)).err = 0 → ρ2 13 = .int .i64 n → ρ2 12 = .int .i64 l.length → ρ2 11 = .slice A l.length c → ρ2 1 = pt C.x6 → ρ2 2 = pt C.x7 → ρ2 3 = pt C.x8 → Clo C zWr w5 → Mod (fun i => i = C.x5) w w5 → (blkK 1 (seqK (sx fn_ Tryd.prog 71 scope_Table_look_3_R4 K) K)) .normal ρ2 w5 := by
          intro ρ2 w5 hz q13 q12 q11 q1 q2 q3 hC5 hm5
          rw [bk_n, sq_n, scope_Table_look_3_R4_eq]
          unfold scope_Table_look_3_R4_F
          refine BKadd (a := n) (b := 1) q13 rfl (by omega) (by omega) ?_
          refine kN _ _ hlt rfl q12 q11 q1 q2 q3 ?_ hC5 hm5
          rw [List.take_add_one, hx, Option.toList_some]
          intro a ha
          rcases List.mem_append.1 ha with ha | ha
          · exact hall a ha
          · rw [List.mem_singleton.1 ha]; exact hz
        rw [q8, not_ok]
        by_cases hz : r.err = 0
        · obtain ⟨rfl, hbad, hex⟩ := g0 hz
          rw [hbad, if_neg (by simp), if_pos hex] at hwr
          rw [show (!decide (zWr.err = 0)) = false from rfl]
          simp only [CondK_bool, MG_u, NG_u, VG_u, UG_u, PG_u, BG_u, CG_u, IG_u, MG_b, NG_b, VG_b, UG_b, PG_b, BG_b, CG_b, IG_b, PK_bool, NK_ptr, not_ok, reduceCtorEq, if_true, if_false, Bool.true_eq_false, Bool.false_eq_true, Bool.not_true, Bool.not_false]
          refine ldOne q3 Tryd.underlying64 rfl hC4.b8 ?_
          refine (f6 _ hb4).vs q7 fun x58 => ?_
          refine CK_fn (f := 62) (first := #[]) (cap := #[pt C.x6, pt C.x7, pt C.x8]) (args := [l[n].bs]) Tryd.func62 rfl rfl (ihB w4 _ hC4 hoke.body (by omega)) ?_
          rintro _ w5 ⟨rfl, hC5, hm5⟩
          have hb5 := hm5.blk hb4 (by omega)
          have hm05 := hm4.trans hm5
          rw [not_ok]
          by_cases hzB : (St.wrL (kindP C.ds) l[n].body).err = 0
          · rw [if_pos hzB] at hwr
            have e := St.wrL_z _ (fun a _ => St.wr_z a) hzB
            rw [e] at hC5
            rw [decide_eq_true hzB]
            simp only [CondK_bool, MG_u, NG_u, VG_u, UG_u, PG_u, BG_u, CG_u, IG_u, MG_b, NG_b, VG_b, UG_b, PG_b, BG_b, CG_b, IG_b, PK_bool, NK_ptr, not_ok, reduceCtorEq, if_true, if_false, Bool.true_eq_false, Bool.false_eq_true, Bool.not_true, Bool.not_false]
            refine ldOne q3 Tryd.underlying64 rfl hC5.b8 ?_
            refine (f7 _ hb5).vs q7 fun x58 => ?_
            refine CK_fn (f := 62) (first := #[]) (cap := #[pt C.x6, pt C.x7, pt C.x8]) (args := [l[n].ls]) Tryd.func62 rfl rfl (ihE w5 _ hC5 hoke.els (by omega)) ?_
            rintro _ w6 ⟨rfl, hC6, hm6⟩
            have hm06 := hm05.trans hm6
            rw [not_ok]
            by_cases hzE : (St.wrL (kindP C.ds) l[n].els).err = 0
            · have e2 := St.wrL_z _ (fun a _ => St.wr_z a) hzE
              rw [e2] at hC6
              rw [decide_eq_true hzE]
              refine condF ?_
              refine good _ _ (by rw [hwr]; exact hzE) ?_ ?_ ?_ ?_ ?_ ?_ hC6 hm06
              · exact q13
              · exact q12
              · exact q11
              · exact q1
              · exact q2
              · exact q3
            · rw [decide_eq_false hzE]
              refine condT ?_
              exact bad _ _ _ rfl hzE hwr hC6 hm06
          · rw [if_neg hzB] at hwr
            rw [decide_eq_false hzB]
            simp only [CondK_bool, MG_u, NG_u, VG_u, UG_u, PG_u, BG_u, CG_u, IG_u, MG_b, NG_b, VG_b, UG_b, PG_b, BG_b, CG_b, IG_b, PK_bool, NK_ptr, not_ok, reduceCtorEq, if_true, if_false, Bool.true_eq_false, Bool.false_eq_true, Bool.not_true, Bool.not_false]
            exact bad _ _ _ rfl hzB hwr hC5 hm05
        · rw [decide_eq_false hz]
          simp only [CondK_bool, MG_u, NG_u, VG_u, UG_u, PG_u, BG_u, CG_u, IG_u, MG_b, NG_b, VG_b, UG_b, PG_b, BG_b, CG_b, IG_b, PK_bool, NK_ptr, not_ok, reduceCtorEq, if_true, if_false, Bool.true_eq_false, Bool.false_eq_true, Bool.not_true, Bool.not_false]
          exact bad _ _ _ rfl hz (g1 hz) hC4 hm4
      have r2 : ∀ (ρ' : Sl) (w4 : World) (r : Wr), Clo C r w4 → Mod (fun i => i = C.x5) w w4 → w4.heap[bS]? = some (.cells l[n].cells.toArray 62 (0, 0)) → ρ' 8 = .bool (decide (r.err = 0)) → ρ' 13 = .int .i64 n → ρ' 12 = .int .i64 l.length → ρ' 11 = .slice A l.length c → ρ' 1 = pt C.x6 → ρ' 2 = pt C.x7 → ρ' 3 = pt C.x8 → ρ' 7 = pt bS →
          (r.err = 0 → r = zWr ∧ l[n].bad (kindP C.ds) = false) → (r.err ≠ 0 → l[n].wr (kindP C.ds) = r) →
          sx fn_ Tryd.prog 71 scope_Table_look_3_R2 (blkK 1 (seqK (sx fn_ Tryd.prog 71 scope_Table_look_3_R4 K) K)) ρ' w4 := by
        intro ρ' w4 r hC4 hm4 hb4 q8 q13 q12 q11 q1 q2 q3 q7 g0 g1
        obtain ⟨A', c', hs', _⟩ := reads_cap hoke.exprs.1
        have hlx := Ex.len_sz l[n].exprs
        have f5 : FAt Tryd.prog w4 62 5 ⟨bS, 0, none⟩ 58 (.slice A' l[n].exprs.length c') := FAt.mk' (off := 5) (by kernel_rfl) uExs rfl (by rw [add_pl, cell_blk hb4, ← hs']; rfl)
        rw [scope_Table_look_3_R2_eq]
        unfold scope_Table_look_3_R2_F
        refine f5.vs q7 fun x40 => ?_
        rw [len58]
        refine W_loop scope_Table_look_3_L5_ok (fun ρ w' => ∃ (m : Nat) (r : Wr), m ≤ l[n].exprs.length ∧ ρ 43 = .int .i64 m ∧ ρ 42 = .int .i64 l[n].exprs.length ∧ ρ 41 = .slice A' l[n].exprs.length c' ∧ ρ 8 = .bool (decide (r.err = 0)) ∧ ρ 13 = .int .i64 n ∧ ρ 12 = .int .i64 l.length ∧ ρ 11 = .slice A l.length c ∧ ρ 1 = pt C.x6 ∧ ρ 2 = pt C.x7 ∧ ρ 3 = pt C.x8 ∧ ρ 7 = pt bS ∧ Clo C r w' ∧ Mod (fun i => i = C.x5) w w' ∧ w'.heap[bS]? = some (.cells l[n].cells.toArray 62 (0, 0)) ∧
            (r.err = 0 → r = zWr ∧ l[n].bad (kindP C.ds) = false ∧ ∀ a ∈ l[n].exprs.take m, (a.wr (kindP C.ds)).err = 0) ∧ (r.err ≠ 0 → l[n].wr (kindP C.ds) = r)) (fun ρ _ => l[n].exprs.length - (intOf (ρ 43)).toNat)
          ⟨0, r, Nat.zero_le _, rfl, rfl, rfl, q8, q13, q12, q11, q1, q2, q3, q7, hC4, hm4, hb4, fun q => ⟨(g0 q).1, (g0 q).2, by simp⟩, g1⟩ ?_
        rintro ρ w5 ⟨m, r, hmn, h43, h42, h41, h8, h13, h12, h11, h1, h2, h3, h7, hC5, hm5, hb5, g0, g1⟩
        rw [scope_Table_look_3_L5_eq]
        unfold scope_Table_look_3_L5_F
        rw [h43, h42, h41]
        refine BKlss (a := m) (b := l[n].exprs.length) rfl rfl ?_
        by_cases hlt2 : m < l[n].exprs.length
        · rw [show decide ((m : Int) < (l[n].exprs.length : Int)) = true by rw [decide_eq_true_eq]; omega]
          refine condT ?_
          have hxj : l[n].exprs[m]? = some l[n].exprs[m] := List.getElem?_eq_getElem hlt2
          have hmj : l[n].exprs[m] ∈ l[n].exprs := List.getElem_mem hlt2
          have hok5 := hoke.exprs.mod hC5.m
          rw [hs'] at hok5
          refine ixEx hok5 hxj fun y => ?_
          have hsj := Ex.szL_at hxj
          refine lcl_k (cs := l[n].exprs[m].cells.toArray) zEx _ iEx rfl (ex_one (hok5.at hxj)) fun w6 hb6 hm6 _ => ?_
          have hC6 := hC5.step hm6
          have hb6s := hm6.blk hb5 id
          have hm06 := hm5.trans (up0 hm6)
          generalize w5.heap.size = b10 at *
          rw [h8]
          by_cases hz : r.err = 0
          · obtain ⟨rfl, hbad, hall2⟩ := g0 hz
            rw [show decide (zWr.err = 0) = true from rfl]
            simp only [CondK_bool, MG_u, NG_u, VG_u, UG_u, PG_u, BG_u, CG_u, IG_u, MG_b, NG_b, VG_b, UG_b, PG_b, BG_b, CG_b, IG_b, PK_bool, NK_ptr, not_ok, reduceCtorEq, if_true, if_false, Bool.true_eq_false, Bool.false_eq_true, Bool.not_true, Bool.not_false]
            refine ldOne h2 Tryd.underlying90 rfl hC6.b7 ?_
            refine ldS (cs := l[n].exprs[m].cells.toArray) rfl Tryd.underlying60 rfl iEx hb6 ?_
            refine CK_fn (f := 61) (first := #[]) (cap := #[pt C.x6, pt C.x7]) (args := [.agg l[n].exprs[m].cells.toArray]) Tryd.func61 rfl rfl (exprC_ok _ w6 hC6 (hoke.exprs.2 _ hmj) (by omega)) ?_
            rintro _ w7 ⟨rfl, hC7, hm7⟩
            refine BKadd (a := m) (b := 1) rfl rfl (by omega) (by omega) ?_
            refine ⟨⟨m + 1, l[n].exprs[m].wr (kindP C.ds), hlt2, rfl, h42, h41, rfl, h13, h12, h11, h1, h2, h3, h7, hC7, hm06.trans hm7, hm7.blk hb6s (by omega), fun q => ⟨Ex.wr_z _ q, hbad, ?_⟩, fun q => ?_⟩, ?_⟩
            · rw [List.take_add_one, hxj, Option.toList_some]
              intro a ha
              rcases List.mem_append.1 ha with ha | ha
              · exact hall2 a ha
              · rw [List.mem_singleton.1 ha]; exact q
            · have e1 := Ex.wrL_at hxj hall2 q
              rw [hwr, hbad, e1, if_neg q]; rfl
            · show l[n].exprs.length - (intOf (Value.int .i64 ((m : Int) + 1))).toNat < _
              simp only [intOf]; omega
          · rw [decide_eq_false hz]
            simp only [CondK_bool, MG_u, NG_u, VG_u, UG_u, PG_u, BG_u, CG_u, IG_u, MG_b, NG_b, VG_b, UG_b, PG_b, BG_b, CG_b, IG_b, PK_bool, NK_ptr, not_ok, reduceCtorEq, if_true, if_false, Bool.true_eq_false, Bool.false_eq_true, Bool.not_true, Bool.not_false]
            refine BKadd (a := m) (b := 1) rfl rfl (by omega) (by omega) ?_
            refine ⟨⟨m + 1, r, hlt2, rfl, h42, h41, ?_, h13, h12, h11, h1, h2, h3, h7, hC6, hm06, hb6s, fun q => absurd q hz, g1⟩, ?_⟩
            · show Value.bool false = _
              rw [decide_eq_false hz]
            · show l[n].exprs.length - (intOf (Value.int .i64 ((m : Int) + 1))).toNat < _
              simp only [intOf]; omega
        · obtain rfl : m = l[n].exprs.length := by omega
          rw [show decide (((l[n].exprs.length : Nat) : Int) < (l[n].exprs.length : Int)) = false by simp]
          refine condF ?_
          rw [sq_x, bk_x, sq_n]
          rw [List.take_length] at g0
          refine r6 _ w5 r hC5 hm5 hb5 ?_ ?_ ?_ ?_ ?_ ?_ ?_ ?_ (fun q => ⟨(g0 q).1, (g0 q).2.1, ?_⟩) g1
          · exact h8
          · exact h13
          · exact h12
          · exact h11
          · exact h1
          · exact h2
          · exact h3
          · exact h7
          · rw [Ex.wrL_all (g0 q).2.2]; rfl
      have r3 : ∀ (ρ' : Sl) (t : Bool), ρ' 19 = .bool t → t = decide (l[n].op = 1 ∨ l[n].op = 5) → ρ' 18 = .int .u8 l[n].op → ρ' 8 = .bool true → ρ' 13 = .int .i64 n → ρ' 12 = .int .i64 l.length → ρ' 11 = .slice A l.length c → ρ' 1 = pt C.x6 → ρ' 2 = pt C.x7 → ρ' 3 = pt C.x8 → ρ' 7 = pt bS →
          sx fn_ Tryd.prog 71 scope_Table_look_3_R3 (blkK 2 (seqK (sx fn_ Tryd.prog 71 scope_Table_look_3_R2 (blkK 1 (seqK (sx fn_ Tryd.prog 71 scope_Table_look_3_R4 K) K))) (blkK 1 (seqK (sx fn_ Tryd.prog 71 scope_Table_look_3_R4 K) K)))) ρ' w3 := by
        intro ρ' t q19 ht q18 q8 q13 q12 q11 q1 q2 q3 q7
        rw [scope_Table_look_3_R3_eq]
        unfold scope_Table_look_3_R3_F
        refine caseN q19 (fun hp => ?_) (fun hp => ?_)
        · rw [hp] at ht
          have ht := of_decide_eq_true ht.symm
          have hn2 : l[n].op ≠ 2 := by omega
          refine ldOne q1 Tryd.underlying89 rfl hC3.b6 ?_
          refine d3.vs q7 fun x23 => d8.vs q7 fun x25 => d9.vs q7 fun x27 => ?_
          refine CK_fn (f := 60) (first := #[]) (cap := #[pt C.x2, pt C.x5]) (args := [.string l[n].name, .int .u8 1, .int .i64 l[n].line, .int .i64 l[n].col]) Tryd.func60 rfl rfl (must_ok hC3 l[n].name 1 l[n].line l[n].col) ?_
          rintro v w4 ⟨rfl, hC4, hm4⟩
          rw [bk_n, sq_n]
          refine r2 _ w4 _ hC4 (hm03.trans hm4) (hm4.blk hb3 (by omega)) ?_ ?_ ?_ ?_ ?_ ?_ ?_ ?_ ?_ ?_
          · show Value.bool _ = _
            by_cases q : kindP C.ds l[n].name.data.toList = 1 <;> simp [q, zWr]
          · exact q13
          · exact q12
          · exact q11
          · exact q1
          · exact q2
          · exact q3
          · exact q7
          · intro q
            by_cases k1 : kindP C.ds l[n].name.data.toList = 1
            · rw [if_pos k1]
              refine ⟨rfl, ?_⟩
              unfold St.bad; simp [k1, hn2]
            · rw [if_neg k1] at q; simp at q
          · intro q
            by_cases k1 : kindP C.ds l[n].name.data.toList = 1
            · rw [if_pos k1] at q; exact absurd rfl q
            · rw [if_neg k1, hwr, if_pos]
              unfold St.bad; rw [decide_eq_true ⟨ht, k1⟩]; rfl
        · rw [hp] at ht
          have ht := of_decide_eq_false ht.symm
          refine BKeqI (a := l[n].op) (b := 2) q18 rfl (fun h2' => condT ?_) (fun h2' => condF ?_)
          · refine ldOne q1 Tryd.underlying89 rfl hC3.b6 ?_
            refine d3.vs q7 fun x23 => d8.vs q7 fun x25 => d9.vs q7 fun x27 => ?_
            refine CK_fn (f := 60) (first := #[]) (cap := #[pt C.x2, pt C.x5]) (args := [.string l[n].name, .int .u8 2, .int .i64 l[n].line, .int .i64 l[n].col]) Tryd.func60 rfl rfl (must_ok hC3 l[n].name 2 l[n].line l[n].col) ?_
            rintro v w4 ⟨rfl, hC4, hm4⟩
            rw [bk_n, sq_n]
            refine r2 _ w4 _ hC4 (hm03.trans hm4) (hm4.blk hb3 (by omega)) ?_ ?_ ?_ ?_ ?_ ?_ ?_ ?_ ?_ ?_
            · show Value.bool _ = _
              by_cases q : kindP C.ds l[n].name.data.toList = 2 <;> simp [q, zWr]
            · exact q13
            · exact q12
            · exact q11
            · exact q1
            · exact q2
            · exact q3
            · exact q7
            · intro q
              by_cases k1 : kindP C.ds l[n].name.data.toList = 2
              · rw [if_pos k1]
                refine ⟨rfl, ?_⟩
                unfold St.bad; simp [k1, ht]
              · rw [if_neg k1] at q; simp at q
            · intro q
              by_cases k1 : kindP C.ds l[n].name.data.toList = 2
              · rw [if_pos k1] at q; exact absurd rfl q
              · rw [if_neg k1, hwr, if_pos]
                unfold St.bad; rw [decide_eq_true (⟨h2', k1⟩ : l[n].op = 2 ∧ kindP C.ds l[n].name.data.toList ≠ 2), Bool.or_true]
          · rw [bk_n, sq_n]
            refine r2 _ w3 zWr hC3 hm03 hb3 ?_ ?_ ?_ ?_ ?_ ?_ ?_ ?_ (fun _ => ⟨rfl, ?_⟩) (fun q => absurd rfl q)
            · exact q8
            · exact q13
            · exact q12
            · exact q11
            · exact q1
            · exact q2
            · exact q3
            · exact q7
            · unfold St.bad; simp [ht, h2']
      refine d0.vk' fun x17 => ?_
      refine caseI (fun k1 => condT ?_) (fun k1 => condF ?_)
      · refine r3 _ true rfl (by rw [decide_eq_true (Or.inl k1)]) rfl rfl ?_ ?_ ?_ ?_ ?_ ?_ rfl
        · exact h13
        · exact h12
        · exact h11
        · exact h1
        · exact h2
        · exact h3
      · rw [BK_eql]
        refine r3 _ (l[n].op == 5) rfl ?_ rfl rfl ?_ ?_ ?_ ?_ ?_ ?_ rfl
        · rw [beq_dec]
          by_cases q : l[n].op = 5
          · rw [decide_eq_true q, decide_eq_true (Or.inr q)]
          · rw [decide_eq_false q, decide_eq_false (by omega)]
        · exact h13
        · exact h12
        · exact h11
        · exact h1
        · exact h2
        · exact h3
    · obtain rfl : n = l.length := by omega
      rw [show decide (((l.length : Nat) : Int) < (l.length : Int)) = false by simp]
      refine condF ?_
      exact kX _ rfl
  refine h _ (fun ρ' w' a b c1 c2 c3 c4 c5 d e f => ⟨⟨n + 1, a, b, c1, c2, c3, c4, c5, d, e, f⟩, ?_⟩) (fun ρ' w' a b c' d => ?_) (fun ρ' b => ?_)
  · rw [b, h13]; simp only [intOf]; omega
  · rw [sq_r, bk_r, sq_r]
    refine ⟨?_, c', d⟩
    rw [decide_eq_false b]; exact a
  · subst b
    rw [List.take_length] at hall
    rw [sq_x, bk_x, sq_n, scope_Table_look_3_R1_eq]
    unfold scope_Table_look_3_R1_F
    rw [St.wrL_all hall]
    exact ⟨rfl, hC2, hm⟩
theorem stC_all {C : Cx} : ∀ e : St, StC C e.body ∧ StC C e.els := by
  intro e
  induction e using St.ind with
  | h e ih1 ih2 => exact ⟨stC_row ih1, stC_row ih2⟩
theorem StmtsC_ok {C : Cx} (l : List St) : StC C l := stC_row fun a _ => stC_all a
end Go.Proofs.YtbnbcimjapiicaaDoor.Tr
