/- RequestGrows, walked: the outer loop. -/
import Derived.Test.YtnopejgpbnlmpaaLawGrows
set_option linter.unusedVariables false
set_option linter.unusedSimpArgs false
namespace Go.Proofs.Ytnopejgpbnlmpaa.Req
open Go Go.X Go.RowKit Go.Proofs.Ytnopejgpbnlmpaa.XF

theorem fo29_2 : fieldOff Try.prog 29 2 = some 2 := by kernel_rfl
theorem fo29_3 : fieldOff Try.prog 29 3 = some 3 := by kernel_rfl
theorem fo29_4 : fieldOff Try.prog 29 4 = some 4 := by kernel_rfl
theorem fo29_5 : fieldOff Try.prog 29 5 = some 5 := by kernel_rfl
theorem pair_of_filter {l js : List Int} (h : (l.filter fun i => !decide (i ∈ js)).length = l.length) : ∀ x ∈ js, x ∉ l := by
  intro x hx hl
  have := List.length_filter_eq_length_iff.1 h x hl
  simp [hx] at this

/-- A round behind its act. -/
theorem Grows_fin {w w5 : World} {B t n : Nat} {rv was : Value} {row : List Int} {xs0 xs : List R} {sv : Value} (hrow : row.length ≤ 20) (hr : reads w 1 rv row.length (ivs row)) (hmod : Mod none_ w w5) (hbase : w.heap.size ≤ B) (htab : ∃ v, IsTab w5 B t v xs) (hfew : xs.length ≤ 256) (hn : n ≤ 600)
    (hwas : w5.ownsRow w.heap.size 3 1 was (places (gT xs0) row).length (ivs (places (gT xs0) row))) (hsub : ∀ x ∈ row, gT xs0 x = true → gT xs x = true) {ρ : Sl} (g7 : ρ 7 = .int .i64 n) (g0 : ρ 0 = sv) (g5 : ρ 5 = .pointer (some ⟨t, 0, none⟩)) (g1 : ρ 1 = rv) (g6 : ρ 6 = was)
    {I : Sl → World → Prop} (hI : ∀ ρ' w' was, ρ' 7 = .int .i64 (n + 1 : Nat) → ρ' 0 = sv → ρ' 5 = .pointer (some ⟨t, 0, none⟩) → ρ' 1 = rv → ρ' 6 = was → InvG w B t w' was row xs → I ρ' w') {K : Exit → Sl → World → Prop} :
    sx fn_ Try.prog 116 dispatcherlaw12_RequestGrows_R2 (blkK 1 (seqK (sx fn_ Try.prog 116 dispatcherlaw12_RequestGrows_R4 (seqK I K)) (seqK I K))) ρ w5 := by
  obtain ⟨v, hT⟩ := htab
  have hr5 := reads_mod hr hmod (fun _ _ _ => id)
  obtain ⟨Ar, cr, hrv, _⟩ := reads_cap hr
  rw [dispatcherlaw12_RequestGrows_R2_eq]
  unfold dispatcherlaw12_RequestGrows_R2_F
  rw [g5, g1, g6]
  refine CK_st Try.func20 rfl rfl (Which_made hT hr5 (by omega)) ?_
  rintro x73 w6 ⟨h73, hm6⟩
  have hp0 := places_le (gT xs0) row
  have hp1 := places_le (gT xs) row
  have hwas6 := owns_mod hwas hm6 (fun _ _ => id)
  refine CK_st Try.func13 rfl rfl (without_ok (reads_of_owns hwas6) (reads_of_owns h73) (by omega) (by omega)) ?_
  rintro x76 w7 ⟨h76, hm7⟩
  rw [places_sub hsub] at h76
  obtain ⟨A6, c6, rfl, _⟩ := reads_cap (reads_of_owns h76)
  rw [len_sl Try.underlying27, BK_gtr]
  rw [show decide ((0 : Int) < ((([] : List Int).length : Nat) : Int)) = false from rfl]
  simp only [CondK_bool, MG_b, NG_b, VG_b, UG_b, PG_b, BG_b, CG_b, IG_b, PK_bool, NK_ptr, not_ok, reduceCtorEq, if_true, if_false, Bool.true_eq_false, Bool.false_eq_true, Bool.not_true, Bool.not_false]
  have h73' := owns_mod h73 hm7 (fun _ _ => id)
  obtain ⟨A3, c3', e73, _⟩ := reads_cap (reads_of_owns h73')
  refine Grows_inner (ns := places (gT xs) row) e73 hrv (reads_of_owns h73') (fun x hx => by have := mem_places.1 hx; exact ⟨this.1, this.2.1⟩) (places_up _ _) (by omega) ?_ ?_ ?_ ?_
  · rfl
  · exact g1
  · rfl
  intro ρ' w8 hk hm8
  have k0 := hk 0 (by simp)
  have k1 := hk 1 (by simp)
  have k5 := hk 5 (by simp)
  have k7 := hk 7 (by simp)
  have k9 := hk 9 (by simp)
  simp only [sq_n, sq_x, sq_r, bk_n, bk_r, bk_x, rt_r, rt_n, rs_0, rs_t, pk_1, pk_2, up_at, reduceIte, Nat.reduceEqDiff] at k0 k1 k5 k7 k9
  rw [dispatcherlaw12_RequestGrows_R6_eq]
  unfold dispatcherlaw12_RequestGrows_R6_F
  simp only [sq_n, sq_x, sq_r, bk_n, bk_r, bk_x, rt_r, rt_n, rs_0, rs_t, pk_1, pk_2, up_at, reduceIte, Nat.reduceEqDiff]
  rw [dispatcherlaw12_RequestGrows_R4_eq]
  unfold dispatcherlaw12_RequestGrows_R4_F
  simp only [sq_n, sq_x, sq_r, bk_n, bk_r, bk_x, rt_r, rt_n, rs_0, rs_t, pk_1, pk_2, up_at, reduceIte, Nat.reduceEqDiff, k7, g7]
  rw [BK_add, wrap_i (by omega) (by omega)]
  have hmA := (hm6.trans hm7).trans hm8
  refine hI _ _ x73 ?_ ?_ ?_ ?_ ?_ ⟨hmod.trans hmA, hbase, ⟨v, hT.none hmA⟩, owns_base (owns_mod h73' hm8 (fun _ _ => id)) hmod.size, hfew⟩
  · rfl
  · simp only [sq_n, sq_x, sq_r, bk_n, bk_r, bk_x, rt_r, rt_n, rs_0, rs_t, pk_1, pk_2, up_at, reduceIte, Nat.reduceEqDiff]; rw [k0, g0]
  · simp only [sq_n, sq_x, sq_r, bk_n, bk_r, bk_x, rt_r, rt_n, rs_0, rs_t, pk_1, pk_2, up_at, reduceIte, Nat.reduceEqDiff]; rw [k5, g5]
  · simp only [sq_n, sq_x, sq_r, bk_n, bk_r, bk_x, rt_r, rt_n, rs_0, rs_t, pk_1, pk_2, up_at, reduceIte, Nat.reduceEqDiff]; rw [k1, g1]
  · simp only [sq_n, sq_x, sq_r, bk_n, bk_r, bk_x, rt_r, rt_n, rs_0, rs_t, pk_1, pk_2, up_at, reduceIte, Nat.reduceEqDiff]; rw [k9]

set_option maxHeartbeats 1600000 in
theorem Grows_law {w : World} {v rv : Value} {al : List A} {row : List Int} (h : Acts w v al) (hr : reads w 1 rv row.length (ivs row)) : Rt Try.prog 4 #[v, rv] w fun u w' => u = .bool true ∧ Mod none_ w w' := by
  obtain ⟨A0, c0, rfl, _⟩ := reads_cap h.1
  obtain ⟨Ar, cr, rfl, _⟩ := reads_cap hr
  refine dispatcherlaw12_RequestGrows_calls ?_
  unfold dispatcherlaw12_RequestGrows_F
  refine CK_st Try.func6 rfl rfl (awake_ok w) ?_
  rintro _ w1 ⟨rfl, hm1⟩
  simp only [CondK_bool, MG_b, NG_b, VG_b, UG_b, PG_b, BG_b, CG_b, IG_b, PK_bool, NK_ptr, not_ok, reduceCtorEq, if_true, if_false, Bool.true_eq_false, Bool.false_eq_true, Bool.not_true, Bool.not_false]
  have h1 : Acts w1 (.slice A0 al.length c0) al := ⟨reads_mod h.1 hm1 (fun _ _ _ => id), fun a ha => (h.2 a ha).mod hm1⟩
  refine CK_st Try.func7 rfl rfl (Great_ok h1) ?_
  rintro _ w1 ⟨rfl, rfl⟩
  cases hg : great al with
  | true => simp only [CondK_bool, MG_b, NG_b, VG_b, UG_b, PG_b, BG_b, CG_b, IG_b, PK_bool, NK_ptr, not_ok, reduceCtorEq, if_true, if_false, Bool.true_eq_false, Bool.false_eq_true, Bool.not_true, Bool.not_false]; exact ⟨trivial, hm1⟩
  | false =>
  simp only [CondK_bool, MG_b, NG_b, VG_b, UG_b, PG_b, BG_b, CG_b, IG_b, PK_bool, NK_ptr, not_ok, reduceCtorEq, if_true, if_false, Bool.true_eq_false, Bool.false_eq_true, Bool.not_true, Bool.not_false]
  rw [len_sl Try.underlying27]
  simp only [CondK_bool, MG_b, NG_b, VG_b, UG_b, PG_b, BG_b, CG_b, IG_b, PK_bool, NK_ptr, not_ok, reduceCtorEq, if_true, if_false, Bool.true_eq_false, Bool.false_eq_true, Bool.not_true, Bool.not_false, BK_gtr]
  by_cases hrow : 20 < row.length
  · rw [decide_eq_true (p := (20 : Int) < (row.length : Int)) (by omega)]
    simp only [CondK_bool, MG_b, NG_b, VG_b, UG_b, PG_b, BG_b, CG_b, IG_b, PK_bool, NK_ptr, not_ok, reduceCtorEq, if_true, if_false, Bool.true_eq_false, Bool.false_eq_true, Bool.not_true, Bool.not_false]; exact ⟨trivial, hm1⟩
  rw [decide_eq_false (p := (20 : Int) < (row.length : Int)) (by omega)]
  simp only [CondK_bool, MG_b, NG_b, VG_b, UG_b, PG_b, BG_b, CG_b, IG_b, PK_bool, NK_ptr, not_ok, reduceCtorEq, if_true, if_false, Bool.true_eq_false, Bool.false_eq_true, Bool.not_true, Bool.not_false]
  obtain ⟨hal, hsm⟩ := great_of hg
  refine CK_st Try.func8 rfl rfl (New_made w1) ?_
  rintro _ w2 ⟨t, rfl, hT2, hm2⟩
  have hBw : w.heap.size ≤ w1.heap.size := hm1.size
  generalize w1.heap.size = B at *
  refine W_loop dispatcherlaw12_RequestGrows_L0_ok (fun ρ w' => ∃ (n : Nat) (was : Value) (xs : List R), n ≤ al.length ∧ ρ 7 = .int .i64 n ∧ ρ 0 = .slice A0 al.length c0 ∧ ρ 5 = .pointer (some ⟨t, 0, none⟩) ∧ ρ 1 = .slice Ar row.length cr ∧ ρ 6 = was ∧ InvG w B t w' was row xs) (fun ρ _ => al.length - (intOf (ρ 7)).toNat)
    ⟨0, .slice none 0 0, [], Nat.zero_le _, rfl, rfl, rfl, rfl, rfl, ⟨hm1.trans hm2, hBw, ⟨_, hT2⟩, by rw [places_nil]; exact World.ownsRow_nil _ _ _ _, by simp⟩⟩ ?_
  clear hm1 hm2 hT2 h1 hg
  rintro ρ w3 ⟨n, was, xs, hn', h7, h0, h5, h1, h6, hI⟩
  rw [dispatcherlaw12_RequestGrows_L0_eq]
  unfold dispatcherlaw12_RequestGrows_L0_F
  rw [h7, h0, len_sl Try.underlying22, BK_lss]
  by_cases hlt : n < al.length
  case neg =>
    obtain rfl : n = al.length := by omega
    rw [show decide ((al.length : Int) < (al.length : Int)) = false by simp]
    simp only [CondK_bool, MG_b, NG_b, VG_b, UG_b, PG_b, BG_b, CG_b, IG_b, PK_bool, NK_ptr, not_ok, reduceCtorEq, if_true, if_false, Bool.true_eq_false, Bool.false_eq_true, Bool.not_true, Bool.not_false, sq_n, sq_x, sq_r, bk_n, bk_r, bk_x, rt_r, rt_n, rs_0, rs_t, pk_1, pk_2, up_at, reduceIte, Nat.reduceEqDiff]
    rw [dispatcherlaw12_RequestGrows_R1_eq]
    unfold dispatcherlaw12_RequestGrows_R1_F
    simp only [sq_n, sq_x, sq_r, bk_n, bk_r, bk_x, rt_r, rt_n, rs_0, rs_t, pk_1, pk_2, up_at, reduceIte, Nat.reduceEqDiff]
    exact ⟨trivial, hI.mod⟩
  rw [show decide ((n : Int) < (al.length : Int)) = true by simp; omega]
  obtain ⟨a, hx⟩ : ∃ a, al[n]? = some a := ⟨_, List.getElem?_eq_getElem hlt⟩
  simp only [CondK_bool, MG_b, NG_b, VG_b, UG_b, PG_b, BG_b, CG_b, IG_b, PK_bool, NK_ptr, not_ok, reduceCtorEq, if_true, if_false, Bool.true_eq_false, Bool.false_eq_true, Bool.not_true, Bool.not_false]
  have ham := List.mem_of_getElem? hx
  have haok := h.2 a ham
  have hal20 := hsm a ham
  refine ixldA (sz := 5) Try.underlying22 c29 Try.underlying29 rfl (reads_mod h.1 hI.mod (fun _ _ _ => id)) (by omega) (by omega) fun y => ?_
  have hfl : (List.drop ((n : Int).toNat * (5 + 1)) (al.flatMap A.enc)).take (5 + 1) = a.enc := fl_drop (k := 6) A.enc_len (by simpa using hx)
  rw [hfl]
  obtain ⟨Aa, ca, hlv, _⟩ := reads_cap haok
  refine lcl_k (cs := a.enc.toArray) zA_zero _ iA29 rfl (encA_one a hlv) fun w4 hb4 hm4 hs4 => ?_
  obtain ⟨hmod0, hbase, ⟨tv, hT0⟩, hwas0, hfew⟩ := hI
  have hmod := hmod0.trans hm4
  have hT := hT0.none hm4
  have hwas := owns_mod hwas0 hm4 (fun _ _ => id)
  clear hmod0 hT0 hwas0
  generalize w3.heap.size = U at *
  rw [f29_0]
  refine ld1 Try.underlying5 rfl (v := .int .u8 a.kind) (by rw [add_pl, cell_blk hb4]; rfl) ?_
  rw [BK_rem (by decide), BK_eql]
  have hBt : ∀ k, touch t tv k → ¬ k < w.heap.size := fun k q => by have := touch_ge hT k q; omega
  have arm : ∀ (ρ : Sl) (b : Bool) (kd : Int), ρ 47 = .bool b → ρ 33 = .int .u8 kd → ρ 7 = .int .i64 n → ρ 0 = .slice A0 al.length c0 → ρ 5 = .pointer (some ⟨t, 0, none⟩) → ρ 1 = .slice Ar row.length cr → ρ 6 = was → ρ 8 = .pointer (some ⟨U, 0, none⟩) →
      ∀ (I : Sl → World → Prop), (∀ (ρ' : Sl) (w' : World) (was : Value) (xs : List R), ρ' 7 = .int .i64 (n + 1 : Nat) → ρ' 0 = .slice A0 al.length c0 → ρ' 5 = .pointer (some ⟨t, 0, none⟩) → ρ' 1 = .slice Ar row.length cr → ρ' 6 = was → InvG w B t w' was row xs → I ρ' w') → ∀ (K : Exit → Sl → World → Prop),
      sx fn_ Try.prog 116 dispatcherlaw12_RequestGrows_R3 (blkK 2 (seqK (sx fn_ Try.prog 116 dispatcherlaw12_RequestGrows_R2 (blkK 1 (seqK (sx fn_ Try.prog 116 dispatcherlaw12_RequestGrows_R4 (seqK I K)) (seqK I K)))) (blkK 1 (seqK (sx fn_ Try.prog 116 dispatcherlaw12_RequestGrows_R4 (seqK I K)) (seqK I K))))) ρ w4 := by
    intro ρ b kd g47 g33 g7 g0 g5 g1 g6 g8 I hIk K
    rw [dispatcherlaw12_RequestGrows_R3_eq]
    unfold dispatcherlaw12_RequestGrows_R3_F
    rw [g47, g33, g5, g8, CondK_bool]
    cases b with
    | true =>
      simp only [if_true]
      rw [f29_1]
      refine ld1 Try.underlying4 rfl (v := .bool a.yes) (by rw [add_pl, cell_blk hb4]; rfl) ?_
      rw [f29_3]
      refine ld1 Try.underlying2 rfl (v := .int .i64 a.v) (by rw [add_pl, cell_blk hb4]; rfl) ?_
      rw [BK_rem (by decide), BK_neq]
      refine CK_st Try.func9 rfl rfl (Add_made hT a.yes _ hfew) ?_
      rintro _ w5 ⟨rfl, v5, hT5, hm5⟩
      simp only [sq_n, sq_x, sq_r, bk_n, bk_r, bk_x, rt_r, rt_n, rs_0, rs_t, pk_1, pk_2, up_at, reduceIte, Nat.reduceEqDiff]
      refine Grows_fin (xs0 := xs) (by omega) hr (hmod.then hm5 fun k hk q => absurd hk (hBt k q)) hbase ⟨v5, hT5⟩ ?_ (by omega) (owns_mod hwas hm5 (own3_touch hT hwas)) (fun x _ hx => gT_add _ _ hx) ?_ ?_ ?_ ?_ ?_ (fun ρ' w' was' => hIk ρ' w' was' _)
      · unfold addOf; split
        · exact hfew
        · simp; omega
      · exact g7
      · exact g0
      · exact g5
      · exact g1
      · exact g6
    | false =>
      simp only [Bool.false_eq_true, if_false]
      rw [BK_eql, CondK_bool]
      cases hk2 : (kd == 2) with
      | true =>
        simp only [if_true]
        refine dispatcherlaw12_RequestGrows_R7_tail (D := []) ?_
        unfold dispatcherlaw12_RequestGrows_R7_T
        simp only [sq_n, sq_x, sq_r, bk_n, bk_r, bk_x, rt_r, rt_n, rs_0, rs_t, pk_1, pk_2, up_at, reduceIte, Nat.reduceEqDiff, g8, g5]
        have hb4' : ({ w4 with drawn := w4.drawn + 1 } : World).heap[U]? = some (.cells a.enc.toArray 29 (0, 0)) := hb4
        have hm4' : Mod none_ w { w4 with drawn := w4.drawn + 1 } := hmod.drawn _
        have hT4' : IsTab { w4 with drawn := w4.drawn + 1 } B t tv xs := hT
        have hwas4' : ({ w4 with drawn := w4.drawn + 1 } : World).ownsRow w.heap.size 3 1 was (places (gT xs) row).length (ivs (places (gT xs) row)) := hwas
        generalize ({ w4 with drawn := w4.drawn + 1 } : World) = w5 at *
        have fld : ∀ (j : Nat) (u : Value), a.enc[j]? = some u → ∀ w', w' = w5 → w'.cell? ((⟨U, 0, none⟩ : Addr).add j) = some u := fun j u he w' hw => by rw [hw, add_pl, cell_blk hb4']; simpa using he
        refine QV_of (fun w' _ => run_fo fo29_2 _ w') (QV_of (fun w' hw => run_ld1 Try.underlying27 rfl (fld 2 a.lv rfl w' hw)) ?_)
        refine QC_st Try.func16 rfl rfl (v := .int .i64 (a.l.headD (-1))) (fun w' hw => Calls.mono (first_ok (haok.mod (hw ▸ hm4'))) fun e w'' ⟨u, he, hu, hw''⟩ => ⟨by rw [he, hu], by rw [hw'']; exact hw⟩) ?_
        refine QV_of (fun w' _ => run_fo fo29_3 _ w') (QV_of (fun w' hw => run_ld1 Try.underlying2 rfl (fld 3 (.int .i64 a.v) rfl w' hw)) ?_)
        refine QV_of (fun w' _ => run_fo fo29_4 _ w') (QV_of (fun w' hw => run_ld1 Try.underlying3 rfl (fld 4 (.int .i64 a.p) rfl w' hw)) ?_)
        refine QV_of (fun w' _ => run_fo fo29_5 _ w') (QV_of (fun w' hw => run_ld1 Try.underlying3 rfl (fld 5 (.int .i64 a.t) rfl w' hw)) ?_)
        refine CK_st Try.func19 rfl rfl (Complete_made hT4') ?_
        rintro _ w6 ⟨rfl, hT6, hm6⟩
        refine Grows_fin (xs0 := xs) (by omega) hr (hm4'.then hm6 fun k hk q => absurd hk (hBt k q)) hbase ⟨tv, hT6⟩ ?_ (by omega) (owns_mod hwas4' hm6 (own3_touch hT4' hwas4')) (fun x _ hx => gT_comp _ _ _ _ hx) ?_ ?_ ?_ ?_ ?_ (fun ρ' w' was' => hIk ρ' w' was' _)
        · unfold compTab; split
          · rw [List.length_set]; exact hfew
          · exact hfew
        · exact g7
        · exact g0
        · exact g5
        · exact g1
        · exact g6
      | false =>
        simp only [Bool.false_eq_true, if_false]
        have hb4' : ({ w4 with drawn := w4.drawn + 1 } : World).heap[U]? = some (.cells a.enc.toArray 29 (0, 0)) := hb4
        have hm4' : Mod none_ w { w4 with drawn := w4.drawn + 1 } := hmod.drawn _
        have hT4' : IsTab { w4 with drawn := w4.drawn + 1 } B t tv xs := hT
        have hwas4' : ({ w4 with drawn := w4.drawn + 1 } : World).ownsRow w.heap.size 3 1 was (places (gT xs) row).length (ivs (places (gT xs) row)) := hwas
        refine dispatcherlaw12_RequestGrows_R8_held (D := []) (Mod none_ { w4 with drawn := w4.drawn + 1 }) (Mod.refl _ _) ?_
        generalize ({ w4 with drawn := w4.drawn + 1 } : World) = w5 at *
        unfold dispatcherlaw12_RequestGrows_R8_H
        simp only [sq_n, sq_x, sq_r, bk_n, bk_r, bk_x, rt_r, rt_n, rs_0, rs_t, pk_1, pk_2, up_at, reduceIte, Nat.reduceEqDiff, g8, g1]
        have fld : ∀ (j : Nat) (u : Value), a.enc[j]? = some u → ∀ w', Mod none_ w5 w' → w'.cell? ((⟨U, 0, none⟩ : Addr).add j) = some u := fun j u he w' hw => by rw [add_pl, cell_blk (hw.blk hb4' id)]; simpa using he
        refine HV_of (fun w' _ => run_fo fo29_2 _ w') (HV_of (fun w' hw => run_ld1 Try.underlying27 rfl (fld 2 a.lv rfl w' hw)) ?_)
        refine HV_of (fun w' _ => run_fo fo29_2 _ w') (HV_of (fun w' hw => run_ld1 Try.underlying27 rfl (fld 2 a.lv rfl w' hw)) ?_)
        rw [hlv]
        refine HI_len Try.underlying27 _ _ _ _ ?_
        rw [← hlv]
        have ha5 := haok.mod hm4'
        refine CK_st Try.func13 rfl rfl (without_ok ha5 (reads_mod hr hm4' (fun _ _ _ => id)) (by omega) (by omega)) ?_
        rintro x37 w6 ⟨h37, hm6⟩
        obtain ⟨A7, c7, rfl, _⟩ := reads_cap (reads_of_owns h37)
        refine ⟨hm6, HI_len Try.underlying27 _ _ _ _ (HB_of (fun _ => rfl) (fun w => run_eql _ _ _ _ w) ?_)⟩
        rw [dispatcherlaw12_RequestGrows_R9_eq]
        unfold dispatcherlaw12_RequestGrows_R9_F
        simp only [sq_n, sq_x, sq_r, bk_n, bk_r, bk_x, rt_r, rt_n, rs_0, rs_t, pk_1, pk_2, up_at, reduceIte, Nat.reduceEqDiff, g8, g5]
        rw [CondK_bool]
        have hT6 := hT4'.none hm6
        have hwas6 := owns_mod hwas4' hm6 (fun _ _ => id)
        have hmod6 := hm4'.trans hm6
        cases heq : ((((a.l.filter fun i => !decide (i ∈ row)).length : Nat) : Int) == (a.l.length : Int)) with
        | false =>
          simp only [Bool.false_eq_true, if_false]
          refine Grows_fin (xs0 := xs) (xs := xs) (by omega) hr hmod6 hbase ⟨tv, hT6⟩ hfew (by omega) hwas6 (fun x _ hx => hx) ?_ ?_ ?_ ?_ ?_ (fun ρ' w' was' => hIk ρ' w' was' _)
          · exact g7
          · exact g0
          · exact g5
          · exact g1
          · exact g6
        | true =>
          simp only [if_true]
          rw [f29_2]
          refine ld1 Try.underlying27 rfl (v := a.lv) (by rw [add_pl, cell_blk (hm6.blk hb4' id)]; rfl) ?_
          have hlb : a.l ≠ [] → ∀ k, a.lv.ownBlock = some k → ¬ touch t tv k := fun hne k hk q => by
            have h1 := reads_lt haok (fun q => hne (by cases hq : a.l with | nil => rfl | cons x l => rw [hq] at q; simp [ivs] at q)) k hk
            exact hBt k q h1
          refine CK_st Try.func10 rfl rfl (Take_made hT6 (ha5.mod hm6) (by omega) hlb) ?_
          rintro _ w7 ⟨o, rfl, hT7, -, hm7⟩
          have hdis := pair_of_filter (l := a.l) (js := row) (by have := eq_of_beq heq; omega)
          refine Grows_fin (xs0 := xs) (by omega) hr (hmod6.then hm7 fun k hk q => absurd hk (hBt k q)) hbase ⟨tv, hT7⟩ ?_ (by omega) (owns_mod hwas6 hm7 (own3_touch hT6 hwas6)) (fun x hx hgx => ?_) ?_ ?_ ?_ ?_ ?_ (fun ρ' w' was' => hIk ρ' w' was' _)
          · split
            · rw [goneTo_len]; exact hfew
            · exact hfew
          · split
            · rename_i hk
              have eg : goneTo xs a.l a.l.length = a.l.foldl goneAt xs := by unfold goneTo; rw [List.take_length]
              rw [eg]
              exact gT_gone a.l (take_range hk) (hdis x hx) hgx
            · exact hgx
          · exact g7
          · exact g0
          · exact g5
          · exact g1
          · exact g6
  have done : ∀ (ρ' : Sl) (w' : World) (was : Value) (xs : List R), ρ' 7 = .int .i64 (n + 1 : Nat) → ρ' 0 = .slice A0 al.length c0 → ρ' 5 = .pointer (some ⟨t, 0, none⟩) → ρ' 1 = .slice Ar row.length cr → ρ' 6 = was → InvG w B t w' was row xs →
      (∃ (n : Nat) (was : Value) (xs : List R), n ≤ al.length ∧ ρ' 7 = .int .i64 n ∧ ρ' 0 = .slice A0 al.length c0 ∧ ρ' 5 = .pointer (some ⟨t, 0, none⟩) ∧ ρ' 1 = .slice Ar row.length cr ∧ ρ' 6 = was ∧ InvG w B t w' was row xs) ∧ al.length - (intOf (ρ' 7)).toNat < al.length - (intOf (Value.int .i64 n)).toNat := by
    intro ρ' w' lf xs e7 e0 e5 e1 e6 hI
    refine ⟨⟨n + 1, lf, xs, hlt, e7, e0, e5, e1, e6, hI⟩, ?_⟩
    rw [e7]
    show al.length - (n + 1) < al.length - n
    omega
  cases hq : (a.kind.tmod 4 == 0) with
  | true =>
    simp only [CondK_bool, MG_b, NG_b, VG_b, UG_b, PG_b, BG_b, CG_b, IG_b, PK_bool, NK_ptr, not_ok, reduceCtorEq, if_true, if_false, Bool.true_eq_false, Bool.false_eq_true, Bool.not_true, Bool.not_false]
    refine arm _ true (a.kind.tmod 4) ?_ ?_ ?_ ?_ ?_ ?_ ?_ ?_ _ done _
    · rfl
    · rfl
    · exact h7
    · exact h0
    · exact h5
    · exact h1
    · exact h6
    · rfl
  | false =>
    simp only [CondK_bool, MG_b, NG_b, VG_b, UG_b, PG_b, BG_b, CG_b, IG_b, PK_bool, NK_ptr, not_ok, reduceCtorEq, if_true, if_false, Bool.true_eq_false, Bool.false_eq_true, Bool.not_true, Bool.not_false]
    rw [BK_eql]
    refine arm _ (a.kind.tmod 4 == 1) (a.kind.tmod 4) ?_ ?_ ?_ ?_ ?_ ?_ ?_ ?_ _ done _
    · rfl
    · rfl
    · exact h7
    · exact h0
    · exact h5
    · exact h1
    · exact h6
    · rfl
end Go.Proofs.Ytnopejgpbnlmpaa.Req
