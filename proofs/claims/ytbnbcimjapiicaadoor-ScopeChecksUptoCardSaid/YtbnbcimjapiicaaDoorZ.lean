/- The chapter's copy of a program, and its sameness. -/
import Derived.Test.YtbnbcimjapiicaaDoorY
import Derived.Test.YtbnbcimjapiicaaDoorXRow
set_option linter.unusedVariables false
set_option linter.unusedSimpArgs false
set_option maxRecDepth 4000
namespace Go.Proofs.YtbnbcimjapiicaaDoor.Tr
open Go Go.X Go.RowKit Go.Proofs.YtbnbcimjapiicaaDoor.XC Go.Proofs.YtbnbcimjapiicaaDoor.XK
theorem bPr (a b : Value) (ha : a.oneCell' = true) (hb : b.oneCell' = true) : Tryd.prog.built 25 [(0, a), (1, b)] = some #[a, b] := by
  cases a <;> first | (simp [Value.oneCell'] at ha; done) | (cases b <;> first | (simp [Value.oneCell'] at hb; done) | kernel_rfl)
theorem zPr : (Tryd.prog.info? 25).bind (·.zero) = some (.agg #[.slice none 0 0, .slice none 0 0]) := by kernel_rfl
theorem Copy_ok {w : World} {p : Pr} (h : p.Ok w) (hf : p.fits) : Rt Tryd.prog 11 #[.agg p.cells.toArray] w fun v w' => ∃ q : Pr, v = .agg q.cells.toArray ∧ q.er = p.er ∧ PrOwn w' w.heap.size q ∧ Mod none_ w w' := by
  refine dispatcherref02_Copy_calls ?_
  unfold dispatcherref02_Copy_F
  refine box_k (cs := p.cells.toArray) rfl fun w1 hb1 hm1 hz1 => ?_
  refine al_k (cs := #[.slice none 0 0, .slice none 0 0]) zPr rfl _ fun w2 hb2 hm2 hz2 => ?_
  have hm02 := hm1.trans hm2
  have hb12 := hm2.blk hb1 id
  have hm2' : Mod none_ w2 { w2 with drawn := w2.drawn + 1 } := (Mod.refl _ w2).drawn _
  have hz12 : w1.heap.size = w.heap.size + 1 := hz1
  refine dispatcherref02_Copy_R0_held (D := []) (fun w' => w'.heap[w.heap.size]? = some (.cells p.cells.toArray 25 (0, 0))) hb12 ?_
  unfold dispatcherref02_Copy_R0_H
  refine HV_of (fun w' hw => run_fo (off := 0) (by kernel_rfl) _ w') ?_
  refine HV_of (v := p.ds) (fun w' hw => run_ld1 uDes rfl (by rw [add_pl, cell_blk hw]; rfl)) ?_
  refine HV_of (fun w' hw => run_fo (off := 1) (by kernel_rfl) _ w') ?_
  refine HV_of (v := p.bs) (fun w' hw => run_ld1 uSts rfl (by rw [add_pl, cell_blk hw]; rfl)) ?_
  have hf1 := hf.1
  have h2 := h.mod (hm02.trans hm2')
  have hs2 : w2.heap.size = w.heap.size + 2 := by omega
  refine ap_any (base := w.heap.size) eDes (owns_none _ _ _ _) h2.d.1 ?_ (by unfold maxLen; omega) (by omega) (by show w.heap.size ≤ w2.heap.size; omega) fun v3 w3 ho3 hm3 ha3 => ?_
  · intro u hu
    obtain ⟨e, he, hu⟩ := List.mem_flatMap.1 hu
    have := de_one e
    rw [Array.all_eq_true_iff_forall_mem] at this
    exact this u (by simpa using hu)
  have hm3' : Mod none_ { w2 with drawn := w2.drawn + 1 } w3 := hm3.mono fun k _ q => by simp [Value.ownBlock] at q
  have hm03 := (hm02.trans hm2').trans hm3'
  have hb3 := (hm2'.trans hm3').blk hb2 id
  have hb13 := (hm2'.trans hm3').blk hb12 id
  refine ⟨hb13, ?_⟩
  refine CK_st Tryd.func32 rfl rfl (CopyStmts_ok _ w3 _ (h.b.mod hm03) hf.2) ?_
  rintro v4 w4 ⟨l', her, hO, hm4⟩
  have hb4 := hm4.blk hb3 id
  have hb14 := hm4.blk hb13 id
  refine ⟨hb14, ?_⟩
  simp only [Nat.zero_add, List.nil_append] at ho3
  have ho4 := owns_mod ho3 hm4 fun _ _ => id
  refine HV_of (v := .agg #[v3, v4]) (fun w' _ => by have := run_build (P := Tryd.prog) w' 25 [(0, v3), (1, v4)].toArray #[v3, v4] (by simpa using bPr v3 v4 (owns_slice ho3) (owns_slice hO.row)); exact this) ?_
  have hone : ((#[v3, v4] : Array Value).all (·.oneCell')) = true := by simp [owns_slice ho3, owns_slice hO.row]
  refine stS (old := #[.slice none 0 0, .slice none 0 0]) (cs := #[v3, v4]) rfl rfl iPr rfl hone hb4 fun w5 hb5 hm5 hz5 => ?_
  have hs3 := hm3'.size
  have hs34 := hm4.size
  have hs3' : w2.heap.size ≤ w3.heap.size := hs3
  have hb15 := hm5.blk hb14 (by omega)
  refine ⟨hb15, ?_⟩
  rw [sq_n, dispatcherref02_Copy_R1_eq]
  unfold dispatcherref02_Copy_R1_F
  refine rtCell (cs := #[v3, v4]) rfl Tryd.underlying25 rfl iPr hb5 ?_
  refine ⟨⟨v3, p.decls, v4, l'⟩, rfl, ?_, ⟨?_, h.d.2, ?_⟩, (hm03.trans hm4).then hm5 fun i hi q => by omega⟩
  · show (⟨_, _, _, _⟩ : Pr) = ⟨_, _, _, _⟩
    rw [her]
  · refine owns_mod ho4 hm5 fun k hk q => ?_
    rcases ha3 with ha | ha
    · rw [ha] at hk; cases hk
    · rw [ha] at hk
      have : w2.heap.size = k := by simpa using hk
      omega
  · exact (hO.off hm5 fun k q => by omega).low (by omega)
theorem Same_ok {w : World} {p q : Pr} (hp : p.Ok w) (hq : q.Ok w) (hf : p.fits) (he : q.er = p.er) (t : Bool) : Rt Tryd.prog 15 #[.agg p.cells.toArray, .agg q.cells.toArray, .bool t] w fun v w' => v = .bool true ∧ Mod none_ w w' := by
  have hd : q.decls = p.decls := by have := congrArg Pr.decls he; exact this
  have hb : q.body.map St.er = p.body.map St.er := by have := congrArg Pr.body he; exact this
  obtain ⟨A, c, hA, _⟩ := reads_cap hp.d.1
  obtain ⟨B, d, hB, _⟩ := reads_cap hq.d.1
  have hf1 := hf.1
  refine dispatcherref02_Same_calls ?_
  unfold dispatcherref02_Same_F
  refine box_k (cs := p.cells.toArray) rfl fun w1 hb1 hm1 hz1 => ?_
  refine box_k (cs := q.cells.toArray) rfl fun w2 hb2 hm2 hz2 => ?_
  have hb12 := hm2.blk hb1 id
  have hm02 := hm1.trans hm2
  have P0 : ∀ {w'}, Mod none_ w2 w' → FO Tryd.prog w' 25 0 0 ⟨w.heap.size, 0, none⟩ 22 (.slice A p.decls.length c) := fun hm => FO.blk (hm.blk hb12 id) (by kernel_rfl) uDes rfl (by rw [← hA]; rfl)
  have Q0 : ∀ {w'}, Mod none_ w2 w' → FO Tryd.prog w' 25 0 0 ⟨w1.heap.size, 0, none⟩ 22 (.slice B p.decls.length d) := fun hm => FO.blk (hm.blk hb2 id) (by kernel_rfl) uDes rfl (by rw [← hd, ← hB]; rfl)
  have P1 : ∀ {w'}, Mod none_ w2 w' → FO Tryd.prog w' 25 1 1 ⟨w.heap.size, 0, none⟩ 23 p.bs := fun hm => FO.blk (hm.blk hb12 id) (by kernel_rfl) uSts rfl rfl
  have Q1 : ∀ {w'}, Mod none_ w2 w' → FO Tryd.prog w' 25 1 1 ⟨w1.heap.size, 0, none⟩ 23 q.bs := fun hm => FO.blk (hm.blk hb2 id) (by kernel_rfl) uSts rfl rfl
  have hdP : ∀ {w'}, Mod none_ w2 w' → DesOk w' (.slice A p.decls.length c) p.decls := fun hm => by rw [← hA]; exact (hp.d.mod hm02).mod hm
  have hdQ : ∀ {w'}, Mod none_ w2 w' → DesOk w' (.slice B p.decls.length d) p.decls := fun hm => by have := (hq.d.mod hm02).mod hm; rwa [hB, hd] at this
  simp only [↓VG_u, ↓UG_u, ↓MG_u, ↓NG_u, ↓PG_u, ↓BG_u, ↓CG_u, ↓IG_u, ↓VGtt, ↓VGtf, ↓VGft, ↓VGff, ↓UGtt, ↓UGtf, ↓UGft, ↓UGff, ↓MGtt, ↓MGtf, ↓MGft, ↓MGff, ↓NGtt, ↓NGtf, ↓NGft, ↓NGff, ↓PGtt, ↓PGtf, ↓PGft, ↓PGff, ↓BGtt, ↓BGtf, ↓BGft, ↓BGff, ↓CGtt, ↓CGtf, ↓CGft, ↓CGff, ↓IGtt, ↓IGtf, ↓IGft, ↓IGff, ↓PKt, ↓PKf, ↓CDt, ↓CDf, ↓NOTt, ↓NOTf, ↓NK_ptr, ↓(P0 (Mod.refl _ _)).e, ↓(Q0 (Mod.refl _ _)).e, ↓len22, ↓NEf rfl]
  generalize w.heap.size = bP at *
  generalize w1.heap.size = bQ at *
  refine W_loop dispatcherref02_Same_L0_ok (fun ρ w' => ∃ n : Nat, n ≤ p.decls.length ∧ ρ 7 = .int .i64 n ∧ ρ 3 = .pointer (some ⟨bP, 0, none⟩) ∧ ρ 4 = .pointer (some ⟨bQ, 0, none⟩) ∧ ρ 2 = .bool t ∧ Mod none_ w2 w') (fun ρ _ => p.decls.length - (intOf (ρ 7)).toNat)
    ⟨0, Nat.zero_le _, rfl, rfl, rfl, rfl, Mod.refl _ _⟩ ?_
  rintro ρ w3 ⟨n, hn, h7, h3, h4, h2, hm⟩
  rw [dispatcherref02_Same_L0_eq]
  unfold dispatcherref02_Same_L0_F
  rw [h3, h7]
  simp only [↓VG_u, ↓UG_u, ↓MG_u, ↓NG_u, ↓PG_u, ↓BG_u, ↓CG_u, ↓IG_u, ↓VGtt, ↓VGtf, ↓VGft, ↓VGff, ↓UGtt, ↓UGtf, ↓UGft, ↓UGff, ↓MGtt, ↓MGtf, ↓MGft, ↓MGff, ↓NGtt, ↓NGtf, ↓NGft, ↓NGff, ↓PGtt, ↓PGtf, ↓PGft, ↓PGff, ↓BGtt, ↓BGtf, ↓BGft, ↓BGff, ↓CGtt, ↓CGtf, ↓CGft, ↓CGff, ↓IGtt, ↓IGtf, ↓IGft, ↓IGff, ↓PKt, ↓PKf, ↓CDt, ↓CDf, ↓NOTt, ↓NOTf, ↓NK_ptr, ↓(P0 hm).e, ↓len22]
  refine BKlss (a := n) (b := p.decls.length) rfl rfl ?_
  refine caseC (fun hlt => ?_) (fun hlt => ?_)
  · have hlt : n < p.decls.length := by have := of_decide_eq_true hlt; omega
    have hx : p.decls[n]? = some p.decls[n] := List.getElem?_eq_getElem hlt
    refine dispatcherref02_Same_R2_held (D := []) (fun w' => Mod none_ w3 w') ((Mod.refl _ w3).drawn _) ?_
    unfold dispatcherref02_Same_R2_H
    simp only [sq_n, sq_x, sq_r, bk_n, bk_r, bk_x, rt_r, rt_n, rs_0, rs_t, pk_1, pk_2, up_at, reduceIte, Nat.reduceEqDiff, h3, h4, h7]
    refine HV_of (fun w' hw => run_fo (P0 (hm.trans hw)).h1 _ w') ?_
    refine HV_of (v := .slice A p.decls.length c) (fun w' hw => run_ld1 uDes rfl (by rw [add_pl, cell_blk ((hm.trans hw).blk hb12 id), ← hA]; rfl)) ?_
    refine HixDe (Mod.refl _ w3) (fun w' hw => hdP (hm.trans hw)) hx fun x => ?_
    refine HV_of (fun w' hw => run_fo (Q0 (hm.trans hw)).h1 _ w') ?_
    refine HV_of (v := .slice B p.decls.length d) (fun w' hw => run_ld1 uDes rfl (by rw [add_pl, cell_blk ((hm.trans hw).blk hb2 id), ← hd, ← hB]; rfl)) ?_
    refine HixDe (Mod.refl _ w3) (fun w' hw => hdQ (hm.trans hw)) hx fun y => ?_
    have hm3 : Mod none_ w3 { w3 with drawn := w3.drawn + 1 } := (Mod.refl _ w3).drawn _
    refine pair_k (cs := p.decls[n].cells.toArray) (ds := p.decls[n].cells.toArray) zDe iDe rfl rfl (de_one _) (de_one _) (fun w' hw => hm3.trans hw) fun b d w4 hb hd hbb hbd hm4 => ?_
    have hm34 := hm3.trans hm4
    have fin : ∀ ρ', ρ' 8 = .pointer (some ⟨b, 0, none⟩) → ρ' 9 = .pointer (some ⟨d, 0, none⟩) → ρ' 7 = .int .i64 n → ρ' 3 = .pointer (some ⟨bP, 0, none⟩) → ρ' 4 = .pointer (some ⟨bQ, 0, none⟩) → ρ' 2 = .bool t → ∀ K, (∀ ρ2 w5, ρ2 7 = .int .i64 ((n : Int) + 1) → ρ2 3 = .pointer (some ⟨bP, 0, none⟩) → ρ2 4 = .pointer (some ⟨bQ, 0, none⟩) → ρ2 2 = .bool t → Mod none_ w2 w5 → K Exit.normal ρ2 w5) →
        sx fn_ Tryd.prog 69 dispatcherref02_Same_R3 (blkK 1 (seqK (sx fn_ Tryd.prog 69 dispatcherref02_Same_R4 K) K)) ρ' w4 := by
      intro ρ' q8 q9 q7 q3 q4 q2 K hK
      rw [dispatcherref02_Same_R3_eq]
      unfold dispatcherref02_Same_R3_F
      rw [q8, q9, q2]
      obtain ⟨p0, p1, p2, p3⟩ := de_fo hbb
      obtain ⟨r0, r1, r2, r3⟩ := de_fo hbd
      have r4 : ∀ ρ3, ρ3 7 = .int .i64 n → ρ3 3 = .pointer (some ⟨bP, 0, none⟩) → ρ3 4 = .pointer (some ⟨bQ, 0, none⟩) → ρ3 2 = .bool t → sx fn_ Tryd.prog 69 dispatcherref02_Same_R4 K ρ3 w4 := by
        intro ρ3 p7 p3 p4 p2
        rw [dispatcherref02_Same_R4_eq]
        unfold dispatcherref02_Same_R4_F
        refine BKadd (a := n) (b := 1) p7 rfl (by omega) (by omega) ?_
        exact hK _ _ rfl p3 p4 p2 (hm.trans hm34)
      cases t <;> simp only [↓VG_u, ↓UG_u, ↓MG_u, ↓NG_u, ↓PG_u, ↓BG_u, ↓CG_u, ↓IG_u, ↓VGtt, ↓VGtf, ↓VGft, ↓VGff, ↓UGtt, ↓UGtf, ↓UGft, ↓UGff, ↓MGtt, ↓MGtf, ↓MGft, ↓MGff, ↓NGtt, ↓NGtf, ↓NGft, ↓NGff, ↓PGtt, ↓PGtf, ↓PGft, ↓PGff, ↓BGtt, ↓BGtf, ↓BGft, ↓BGff, ↓CGtt, ↓CGtf, ↓CGft, ↓CGff, ↓IGtt, ↓IGtf, ↓IGft, ↓IGff, ↓PKt, ↓PKf, ↓CDt, ↓CDf, ↓NOTt, ↓NOTf, ↓NK_ptr, ↓p0.e, ↓r0.e, ↓p1.e, ↓r1.e, ↓p2.e, ↓r2.e, ↓p3.e, ↓r3.e, ↓NEf rfl, ↓SNEf rfl] <;> rw [bk_n, sq_n]
      · refine r4 _ ?_ ?_ ?_ ?_
        · exact q7
        · exact q3
        · exact q4
        · exact q2
      · refine r4 _ ?_ ?_ ?_ ?_
        · exact q7
        · exact q3
        · exact q4
        · exact q2
    have done : ∀ (ρ2 : Sl) (w4 : World), ρ2 7 = .int .i64 ((n : Int) + 1) → ρ2 3 = .pointer (some ⟨bP, 0, none⟩) → ρ2 4 = .pointer (some ⟨bQ, 0, none⟩) → ρ2 2 = .bool t → Mod none_ w2 w4 → (∃ m : Nat, m ≤ p.decls.length ∧ ρ2 7 = .int .i64 m ∧ ρ2 3 = .pointer (some ⟨bP, 0, none⟩) ∧ ρ2 4 = .pointer (some ⟨bQ, 0, none⟩) ∧ ρ2 2 = .bool t ∧ Mod none_ w2 w4) ∧ p.decls.length - (intOf (ρ2 7)).toNat < p.decls.length - (intOf (ρ 7)).toNat := by
      intro ρ2 w4 p7 p0 p1 p2 hw
      refine ⟨⟨n + 1, hlt, p7, p0, p1, p2, hw⟩, ?_⟩
      rw [p7, h7]; simp only [intOf]; omega
    rw [h7] at done
    constructor
    · refine fin _ rfl rfl ?_ ?_ ?_ ?_ _ done
      · exact h7
      · exact h3
      · exact h4
      · exact h2
    · refine fin _ rfl rfl ?_ ?_ ?_ ?_ _ done
      · exact h7
      · exact h3
      · exact h4
      · exact h2
  · obtain rfl : n = p.decls.length := by have := of_decide_eq_false hlt; omega
    rw [sq_x, bk_x, sq_n, dispatcherref02_Same_R1_eq]
    unfold dispatcherref02_Same_R1_F
    simp only [sq_n, sq_x, sq_r, bk_n, bk_r, bk_x, rt_r, rt_n, rs_0, rs_t, pk_1, pk_2, up_at, reduceIte, Nat.reduceEqDiff, h3, h4, h2]
    refine (P1 hm).e _ ▸ (Q1 hm).e _ ▸ ?_
    refine CK_st Tryd.func39 rfl rfl (SameStmts_ok _ w3 _ _ _ t ((hp.b.mod hm02).mod hm) ((hq.b.mod hm02).mod hm) hb hf.2) ?_
    rintro _ w4 ⟨rfl, hm4⟩
    exact ⟨rfl, (hm02.trans hm).trans hm4⟩
end Go.Proofs.YtbnbcimjapiicaaDoor.Tr
