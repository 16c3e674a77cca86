/- Several texts of this repo, one behind the other, without what is not used here. -/
import Derived.Laws.IdiomStrings
import Derived.MapKept
import Derived.Laws.StructEq
import Derived.Test.YtbnbcimjapiicaaDoorProg
import Derived.Test.YtbnbcimjapiicaaDoorBN3
set_option linter.unusedVariables false
set_option linter.unusedSimpArgs false
set_option maxRecDepth 4000
namespace Go.Proofs.YtbnbcimjapiicaaDoor.Tr
open Go Go.X Go.RowKit Go.Proofs.YtbnbcimjapiicaaDoor.XD Go.Proofs.YtbnbcimjapiicaaDoor.XK
section
variable {lv : Value} {l : List Tk} {c : Nat}
theorem retX {w0 w : World} {b4 b5 a' : Nat} {e pe : Ex} (h4 : w.heap[b4]? = some (.cells zExc.toArray tE (0, 0))) (h5 : w.heap[b5]? = some (.cells e.cells.toArray tE (0, 0))) (hg : Got w0 w e pe) (hi : e.In fun k => k ≠ b4) (hp : PW w lv l c a') (hm : Mod (fun i => i = c) w0 w) (hb : w0.heap.size ≤ b4) (hc : c < w0.heap.size) (hlo : ∀ g, lv.ownBlock = some g → g < w0.heap.size)
    {R : Value → World → Prop} {ρ : Value → Sl} (hq : ∀ x, ρ x 4 = pq b4) (hR : ∀ w', Got w0 w' e pe → PW w' lv l c a' → Mod (fun i => i = c) w0 w' → R (.agg e.cells.toArray) w') :
    VK Tryd.prog (Instr.loadAt 60 (pq b5)) w fun x w => UK Tryd.prog (Instr.storeAt 60 (pq b4) x) w fun _ w => resK Tryd.prog (ρ x) (fun vs w => R (packV vs) w) [ResultVar.cell 4 60] w := by
  refine ldS (cs := e.cells.toArray) rfl Tryd.underlying60 rfl iEx h5 ?_
  refine stS (old := zExc.toArray) (cs := e.cells.toArray) rfl rfl iEx rfl (own_one hg.own) h4 fun w1 h1 hm1 hz1 => ?_
  have hR1 := hR w1 ⟨hg.er, hg.own.mod hm1 hi, hg.in_⟩ (hp.off hm1 fun k q => ⟨by omega, fun g hg => by have := hlo g hg; omega⟩) (hm.then hm1 fun i hi q => by omega)
  exact rsCell (R := fun v w => R v w) (cs := e.cells.toArray) (hq _) Tryd.underlying60 rfl iEx h1 hR1
theorem expr_step (hG : Good l) {n : Nat} (hE : ∀ m, m ≤ n → ExprC lv l c m) (hS : SingleC lv l c n) : ExprC lv l c (n + 1) := by
  intro k a r hr hk w hw
  rw [exprTk] at hr
  refine dispatcherref02_cursor_expr_calls ?_
  unfold dispatcherref02_cursor_expr_F
  refine al_k (cs := zExc.toArray) zEx rfl _ fun w1 hb1 hm1 hz1 => ?_
  have hw1 := hw.mod0 hm1
  have hcw : c < w.heap.size := blk_lt hw.cur
  have hlo : ∀ g, lv.ownBlock = some g → g < w.heap.size := fun g hg => owns_lt hw.toks hg
  refine CK_st Tryd.func87 rfl rfl (good_ok hw1) ?_
  rintro _ w2 ⟨rfl, rfl⟩
  by_cases h4 : 4 < k
  · rw [if_pos h4] at hr
    simp only [↓VG_u, ↓UG_u, ↓MG_u, ↓NG_u, ↓PG_u, ↓BG_u, ↓CG_u, ↓IG_u, ↓VGtt, ↓VGtf, ↓VGft, ↓VGff, ↓UGtt, ↓UGtf, ↓UGft, ↓UGff, ↓MGtt, ↓MGtf, ↓MGft, ↓MGff, ↓NGtt, ↓NGtf, ↓NGft, ↓NGff, ↓PGtt, ↓PGtf, ↓PGft, ↓PGff, ↓BGtt, ↓BGtf, ↓BGft, ↓BGff, ↓CGtt, ↓CGtf, ↓CGft, ↓CGff, ↓IGtt, ↓IGtf, ↓IGft, ↓IGff, ↓PKt, ↓PKf, ↓CDt, ↓CDf, ↓NOTt, ↓NOTf, ↓NK_ptr, ↓GTt (show (4 : Int) < (k : Int) by omega)]
    refine CK_st Tryd.func113 rfl rfl (hS a r hr _ hw1) ?_
    rintro _ w3 ⟨e, rfl, hg, h3, hm3⟩
    refine stS (old := zExc.toArray) (cs := e.cells.toArray) rfl rfl iEx rfl (own_one hg.own) (hm3.blk hb1 (by omega)) fun w4 hb4 hm4 hz4 => ?_
    refine rsCell (R := fun v w' => ∃ e, v = .agg e.cells.toArray ∧ Got w w' e r.1 ∧ PW w' lv l c r.2 ∧ Mod (fun i => i = c) w w') (cs := e.cells.toArray) rfl Tryd.underlying60 rfl iEx hb4 ⟨e, rfl, ⟨hg.er, hg.own.mod hm4 (hg.in_.mono fun k hk q => by omega), hg.in_.mono fun k hk => by omega⟩, h3.off hm4 (fun k q => ⟨by omega, fun g hg => by have := hlo g hg; omega⟩), ((up1 hm1).trans hm3).then hm4 fun i hi q => by omega⟩
  · rw [if_neg h4] at hr
    cases he : exprTk l n (k + 1) a with
    | none => rw [he] at hr; cases hr
    | some q =>
      obtain ⟨e0, a2⟩ := q
      rw [he] at hr
      dsimp only at hr
      simp only [↓VG_u, ↓UG_u, ↓MG_u, ↓NG_u, ↓PG_u, ↓BG_u, ↓CG_u, ↓IG_u, ↓VGtt, ↓VGtf, ↓VGft, ↓VGff, ↓UGtt, ↓UGtf, ↓UGft, ↓UGff, ↓MGtt, ↓MGtf, ↓MGft, ↓MGff, ↓NGtt, ↓NGtf, ↓NGft, ↓NGff, ↓PGtt, ↓PGtf, ↓PGft, ↓PGff, ↓BGtt, ↓BGtf, ↓BGft, ↓BGff, ↓CGtt, ↓CGtf, ↓CGft, ↓CGff, ↓IGtt, ↓IGtf, ↓IGft, ↓IGff, ↓PKt, ↓PKf, ↓CDt, ↓CDf, ↓NOTt, ↓NOTf, ↓NK_ptr, ↓GTf (show (k : Int) ≤ 4 by omega)]
      refine BKadd (a := k) (b := 1) rfl rfl (by omega) (by omega) ?_
      rw [show ((k : Int) + 1) = ((k + 1 : Nat) : Int) by omega]
      refine CK_st Tryd.func105 rfl rfl (hE n (Nat.le_refl n) (k + 1) a _ he (by omega) _ hw1) ?_
      rintro _ w3 ⟨e1, rfl, hg1, h3, hm3⟩
      have hs3 := hm3.size
      have hb13 := hm3.blk hb1 (by omega)
      refine lcl_k (cs := e1.cells.toArray) zEx _ iEx rfl (own_one hg1.own) fun w4 hb4 hm4 hz4 => ?_
      have h4w := h3.mod0 hm4
      have hb14 := hm4.blk hb13 id
      have hm04 : Mod (fun i => i = c) w w4 := ((up1 hm1).trans hm3).trans (up1 hm4)
      obtain ⟨b5, hb5⟩ : ∃ b5, b5 = w3.heap.size := ⟨_, rfl⟩
      rw [← hb5] at hb4 hz4 ⊢
      have hin1 : e1.In fun k => w.heap.size ≤ k ∧ k ≠ w.heap.size ∧ k ≠ b5 := by
        refine (hg1.in_.and hg1.own.lt).mono fun k hk => ?_
        omega
      have hb5' : w.heap.size < b5 := by omega
      refine W_loopG dispatcherref02_cursor_expr_L0_ok (fun m ρ w' => ∃ (e pe : Ex) (a' : Nat), m ≤ n ∧ loopP l m k pe a' = some r ∧ ρ 0 = pq c ∧ ρ 1 = .int .i64 k ∧ ρ 4 = pq w.heap.size ∧ ρ 5 = pq b5 ∧ w'.heap[w.heap.size]? = some (.cells zExc.toArray tE (0, 0)) ∧ w'.heap[b5]? = some (.cells e.cells.toArray tE (0, 0)) ∧ Got w w' e pe ∧ (e.In fun k => k ≠ w.heap.size ∧ k ≠ b5) ∧ PW w' lv l c a' ∧ Mod (fun i => i = c) w w') n
        ⟨e1, e0, a2, Nat.le_refl n, hr, rfl, rfl, rfl, rfl, hb14, hb4, ⟨hg1.er, hg1.own.mod0 hm4, hin1.mono fun k hk => hk.1⟩, hin1.mono fun k hk => hk.2, h4w, hm04⟩ ?_
      rintro m ρ w5 ⟨e, pe, a', hmn, hl, q0, q1, q4, q5, c4, c5, hg, hi, hp, hm⟩
      rw [dispatcherref02_cursor_expr_L0_eq]
      unfold dispatcherref02_cursor_expr_L0_F
      rw [q0, q1, q4, q5]
      cases m with
      | zero => simp [loopP] at hl
      | succ m =>
      rw [loopP] at hl
      refine CK_st Tryd.func87 rfl rfl (good_ok hp) ?_
      rintro _ w6 ⟨rfl, rfl⟩
      refine condT ?_
      refine CK_st Tryd.func83 rfl rfl (next_ok hp hG) ?_
      rintro _ w7 ⟨rfl, hm7⟩
      refine lcl_k (cs := (tkAt l a').cells.toArray) zTkg _ iTk rfl (tk_one _) fun w8 hb8 hm8 hz8 => ?_
      have hm68 := hm7.trans hm8
      have hs0 := hm.size
      have hs7 := hm7.size
      have hb5w : b5 < w6.heap.size := blk_lt c5
      obtain ⟨k0, k1, k2, k3, k4⟩ := tk_fo hb8
      obtain ⟨b6, hb6⟩ : ∃ b6, b6 = w7.heap.size := ⟨_, rfl⟩
      rw [← hb6] at hb8 hz8 k0 k1 k2 k3 k4 ⊢
      simp only [↓k1.e]
      refine CK_st Tryd.func114 rfl rfl (Two_ok _ w8) ?_
      rintro _ w9 ⟨rfl, rfl⟩
      rw [extract_ok (v := .int .u8 (twoP (tkAt l a').text).1) rfl, extract_ok (v := .int .i64 (twoP (tkAt l a').text).2) rfl]
      have c48 := hm68.blk c4 id
      have c58 := hm68.blk c5 id
      have hp8 := hp.mod0 hm68
      have hg8 := hg.mod0 hm68
      have hm08 := hm.trans (up1 hm68)
      have stop : ∀ (K : Exit → Sl → World → Prop), r = (pe, a') → ∀ ρ' : Value → Sl, (∀ x, ρ' x 4 = pq w.heap.size) → VK Tryd.prog (Instr.loadAt 60 (pq b5)) w9 fun x w_1 => UK Tryd.prog (Instr.storeAt 60 (pq w.heap.size) x) w_1 fun _ w_2 => resK Tryd.prog (ρ' x) (fun vs w' => ∃ e, packV vs = .agg e.cells.toArray ∧ Got w w' e r.1 ∧ PW w' lv l c r.2 ∧ Mod (fun i => i = c) w w') [ResultVar.cell 4 60] w_2 := by
        intro K hre ρ' hq
        subst hre
        exact retX c48 c58 hg8 (hi.mono fun k hk => hk.1) hp8 hm08 (Nat.le_refl _) hcw hlo hq (R := fun v w' => ∃ e, v = .agg e.cells.toArray ∧ Got w w' e pe ∧ PW w' lv l c a' ∧ Mod (fun i => i = c) w w') fun w' hg hp hm => ⟨_, rfl, hg, hp, hm⟩
      by_cases hk0 : (tkAt l a').kind = 0
      · rw [if_pos (.inl hk0)] at hl
        cases hl
        simp only [↓VG_u, ↓UG_u, ↓MG_u, ↓NG_u, ↓PG_u, ↓BG_u, ↓CG_u, ↓IG_u, ↓VGtt, ↓VGtf, ↓VGft, ↓VGff, ↓UGtt, ↓UGtf, ↓UGft, ↓UGff, ↓MGtt, ↓MGtf, ↓MGft, ↓MGff, ↓NGtt, ↓NGtf, ↓NGft, ↓NGff, ↓PGtt, ↓PGtf, ↓PGft, ↓PGff, ↓BGtt, ↓BGtf, ↓BGft, ↓BGff, ↓CGtt, ↓CGtf, ↓CGft, ↓CGff, ↓IGtt, ↓IGtf, ↓IGft, ↓IGff, ↓PKt, ↓PKf, ↓CDt, ↓CDf, ↓NOTt, ↓NOTf, ↓NK_ptr, ↓k0.e, ↓EQt hk0]
        simp only [sq_n, sq_x, sq_r, bk_n, bk_r, bk_x, rt_r, rt_n, rs_0, rs_t, pk_1, pk_2, up_at, reduceIte, Nat.reduceEqDiff]
        exact stop (fun _ _ _ => True) rfl _ fun _ => q4
      by_cases ho0 : (twoP (tkAt l a').text).1 = 0
      · rw [if_pos (.inr (.inl ho0))] at hl
        cases hl
        simp only [↓VG_u, ↓UG_u, ↓MG_u, ↓NG_u, ↓PG_u, ↓BG_u, ↓CG_u, ↓IG_u, ↓VGtt, ↓VGtf, ↓VGft, ↓VGff, ↓UGtt, ↓UGtf, ↓UGft, ↓UGff, ↓MGtt, ↓MGtf, ↓MGft, ↓MGff, ↓NGtt, ↓NGtf, ↓NGft, ↓NGff, ↓PGtt, ↓PGtf, ↓PGft, ↓PGff, ↓BGtt, ↓BGtf, ↓BGft, ↓BGff, ↓CGtt, ↓CGtf, ↓CGft, ↓CGff, ↓IGtt, ↓IGtf, ↓IGft, ↓IGff, ↓PKt, ↓PKf, ↓CDt, ↓CDf, ↓NOTt, ↓NOTf, ↓NK_ptr, ↓k0.e, ↓EQf hk0, ↓EQt ho0]
        simp only [sq_n, sq_x, sq_r, bk_n, bk_r, bk_x, rt_r, rt_n, rs_0, rs_t, pk_1, pk_2, up_at, reduceIte, Nat.reduceEqDiff]
        exact stop (fun _ _ _ => True) rfl _ fun _ => q4
      by_cases hst : (twoP (tkAt l a').text).2 ≠ (k : Int)
      · rw [if_pos (.inr (.inr hst))] at hl
        cases hl
        simp only [↓VG_u, ↓UG_u, ↓MG_u, ↓NG_u, ↓PG_u, ↓BG_u, ↓CG_u, ↓IG_u, ↓VGtt, ↓VGtf, ↓VGft, ↓VGff, ↓UGtt, ↓UGtf, ↓UGft, ↓UGff, ↓MGtt, ↓MGtf, ↓MGft, ↓MGff, ↓NGtt, ↓NGtf, ↓NGft, ↓NGff, ↓PGtt, ↓PGtf, ↓PGft, ↓PGff, ↓BGtt, ↓BGtf, ↓BGft, ↓BGff, ↓CGtt, ↓CGtf, ↓CGft, ↓CGff, ↓IGtt, ↓IGtf, ↓IGft, ↓IGff, ↓PKt, ↓PKf, ↓CDt, ↓CDf, ↓NOTt, ↓NOTf, ↓NK_ptr, ↓k0.e, ↓EQf hk0, ↓EQf ho0, ↓NEt hst]
        simp only [sq_n, sq_x, sq_r, bk_n, bk_r, bk_x, rt_r, rt_n, rs_0, rs_t, pk_1, pk_2, up_at, reduceIte, Nat.reduceEqDiff]
        exact stop (fun _ _ _ => True) rfl _ fun _ => q4
      rw [if_neg (by simp only [hk0, ho0, hst, or_self, not_false_eq_true])] at hl
      have hst : (twoP (tkAt l a').text).2 = (k : Int) := by simpa using hst
      simp only [↓VG_u, ↓UG_u, ↓MG_u, ↓NG_u, ↓PG_u, ↓BG_u, ↓CG_u, ↓IG_u, ↓VGtt, ↓VGtf, ↓VGft, ↓VGff, ↓UGtt, ↓UGtf, ↓UGft, ↓UGff, ↓MGtt, ↓MGtf, ↓MGft, ↓MGff, ↓NGtt, ↓NGtf, ↓NGft, ↓NGff, ↓PGtt, ↓PGtf, ↓PGft, ↓PGff, ↓BGtt, ↓BGtf, ↓BGft, ↓BGff, ↓CGtt, ↓CGtf, ↓CGft, ↓CGff, ↓IGtt, ↓IGtf, ↓IGft, ↓IGff, ↓PKt, ↓PKf, ↓CDt, ↓CDf, ↓NOTt, ↓NOTf, ↓NK_ptr, ↓k0.e, ↓EQf hk0, ↓EQf ho0, ↓NEf hst]
      have hal := kind_lt hk0
      have hwl := hG.len
      refine adv2 hp8 (by omega) fun x2 x3 x4 x6 w10 h10 hm10 hz10 => ?_
      refine BKadd (a := k) (b := 1) rfl rfl (by omega) (by omega) ?_
      rw [show ((k : Int) + 1) = ((k + 1 : Nat) : Int) by omega]
      cases hee : exprTk l m (k + 1) (a' + 1) with
      | none => rw [hee] at hl; cases hl
      | some q =>
      obtain ⟨er, a3⟩ := q
      rw [hee] at hl
      dsimp only at hl
      refine CK_st Tryd.func105 rfl rfl (hE m (by omega) (k + 1) (a' + 1) _ hee (by omega) _ h10) ?_
      rintro _ w11 ⟨e2, rfl, hg2, h11, hm11⟩
      have hs8 : w6.heap.size < w9.heap.size := by omega
      have hs11 := hm11.size
      have hb8' := hm11.blk (hm10.blk hb8 (by omega)) (by omega)
      have c411 := hm11.blk (hm10.blk c48 (by omega)) (by omega)
      have c511 := hm11.blk (hm10.blk c58 (by omega)) (by omega)
      have hg11 := (hg8.at hm10 hcw).at hm11 hcw
      have hm011 := (hm08.trans hm10).trans hm11
      refine lcl_k (cs := e2.cells.toArray) zEx _ iEx rfl (own_one hg2.own) fun w12 hb12 hm12 hz12 => ?_
      obtain ⟨k0, k1, k2, k3, k4⟩ := tk_fo (hm12.blk hb8' id)
      simp only [↓k3.e, ↓k4.e]
      rw [build_ok (bEx3 _ _ _)]
      refine lcl_k (cs := (Ex.mk (twoP (tkAt l a').text).1 0 (bs []) nl [] (tkAt l a').line (tkAt l a').col).cells.toArray) zEx _ iEx rfl (ex_cells_one rfl) fun w13 hb13 hm13 hz13 => ?_
      have hm1113 := hm12.trans hm13
      have hb1213 := hm13.blk hb12 id
      have c413 := hm1113.blk c411 id
      have c513 := hm1113.blk c511 id
      obtain ⟨b9, hb9⟩ : ∃ b9, b9 = w11.heap.size := ⟨_, rfl⟩
      obtain ⟨b10, hb10⟩ : ∃ b10, b10 = w12.heap.size := ⟨_, rfl⟩
      rw [← hb10] at hb13 hz13 ⊢
      rw [← hb9] at hb12 hb1213 hz12 ⊢
      have hs12 := hm12.size
      obtain ⟨f0, f1, f2, f3, f4, f5⟩ := ex_fo hb13
      simp only [↓f3.e]
      refine ldS (cs := e.cells.toArray) rfl Tryd.underlying60 rfl iEx c513 ?_
      refine ldS (cs := e2.cells.toArray) rfl Tryd.underlying60 rfl iEx hb1213 ?_
      refine bs_k (cs := (e.cells ++ e2.cells).toArray) (by kernel_rfl) fun w14 hb14' hm14 hz14 => ?_
      have hg14 := (hg11.mod0 hm1113).mod0 hm14
      have hg214 := (hg2.mod0 hm1113).mod0 hm14
      refine appEx (m := [e, e2]) (ExsOwn.nil w14 0) (by simpa using reads_blk (size := 6) (n := 2) hb14' rfl) (by simp) ?_ (by simp) (Nat.zero_le _) fun v15 w15 hO15 hm15 hg15 => ?_
      · intro z hz
        have hnn : ∀ {z : Ex}, z.Own w14 tE → z.In fun k => 0 ≤ k ∧ some k ≠ (Value.slice none 0 0).ownBlock := fun h => h.lt.mono fun k _ => ⟨Nat.zero_le _, by simp [Value.ownBlock]⟩
        simp only [List.mem_cons, List.not_mem_nil, or_false] at hz
        rcases hz with rfl | rfl
        · exact ⟨hg14.own, hnn hg14.own⟩
        · exact ⟨hg214.own, hnn hg214.own⟩
      have hm15' : Mod none_ w14 w15 := hm15.mono fun k _ q => by simp [nl, Value.ownBlock] at q
      have hlow : ∀ k, v15.ownBlock = some k → w14.heap.size ≤ k := by
        intro k hk
        rcases hg15 with q | ⟨g, q, hg⟩
        · rw [q] at hk; simp [nl, Value.ownBlock] at hk
        · rw [q] at hk; cases hk; exact hg
      have hm1115 := (hm1113.trans hm14).trans hm15'
      obtain ⟨nu, hnu⟩ : ∃ nu : Ex, nu = ⟨(twoP (tkAt l a').text).1, 0, bs [], v15, [e, e2], (tkAt l a').line, (tkAt l a').col⟩ := ⟨_, rfl⟩
      refine fst_k (off := 3) (by kernel_rfl) (by kernel_rfl) (owns_slice hO15.row) ((hm14.trans hm15').blk hb13 id) (by simp [Ex.cells]) (cs' := nu.cells.toArray) (by rw [hnu]; rfl) fun x w16 h16 hm16 hz16 => ?_
      obtain ⟨tf1, tf2, tf3, tf4⟩ := tk_fine hG a'
      have hfine : nu.fine := by rw [hnu]; exact fine_mk (two_wf _) (by decide) (by decide) tf3 tf4
      have hown15 : nu.Own w15 tE := by rw [hnu]; exact Ex.own_.2 ⟨hO15.row, hnu ▸ hfine, hO15.own⟩
      have hi2 := hg2.in_
      have hs14 := hm14.size
      have hz14' : w14.heap.size = w13.heap.size + 1 := hz14
      have hinA : e.In fun k => w.heap.size ≤ k ∧ k ≠ w.heap.size ∧ k ≠ b5 ∧ k < b9 := ((hg.in_.and hi).and hg11.own.lt).mono fun k hk => by omega
      have hinB : e2.In fun k => b5 < k ∧ k < b9 := (hi2.and hg2.own.lt).mono fun k hk => by omega
      have hinN : nu.In fun k => w.heap.size ≤ k ∧ k ≠ w.heap.size ∧ k ≠ b5 ∧ k ≠ b10 := by
        rw [hnu]
        refine Ex.in_.2 ⟨fun k hk => by have := hlow k hk; omega, fun z hz => ?_⟩
        simp only [List.mem_cons, List.not_mem_nil, or_false] at hz
        rcases hz with rfl | rfl
        · exact hinA.mono fun k hk => by omega
        · exact hinB.mono fun k hk => by omega
      have hown16 := hown15.mod hm16 (hinN.mono fun k hk q => hk.2.2.2 q)
      refine ldS (cs := nu.cells.toArray) rfl Tryd.underlying60 rfl iEx h16 ?_
      have c516 := hm16.blk ((hm14.trans hm15').blk c513 id) (by omega)
      have c416 := hm16.blk ((hm14.trans hm15').blk c413 id) (by omega)
      refine stS (old := e.cells.toArray) (cs := nu.cells.toArray) rfl rfl iEx rfl (own_one hown16) c516 fun w17 h17 hm17 hz17 => ?_
      have c417 := hm17.blk c416 (by omega)
      have hown17 := hown16.mod hm17 (hinN.mono fun k hk q => hk.2.2.1 q)
      have hp17 : PW w17 lv l c a3 := ((h11.mod0 hm1115).off hm16 fun k q => ⟨by omega, fun g hg => by have := hlo g hg; omega⟩).off hm17 fun k q => ⟨by omega, fun g hg => by have := hlo g hg; omega⟩
      have hm017 : Mod (fun i => i = c) w w17 := ((hm011.trans (up1 hm1115)).then hm16 fun i hi q => by omega).then hm17 fun i hi q => by omega
      have hgN : Got w w17 nu ⟨(twoP (tkAt l a').text).1, 0, bs [], nl, [pe, er], (tkAt l a').line, (tkAt l a').col⟩ := by
        refine ⟨?_, hown17, hinN.mono fun k hk => hk.1⟩
        rw [hnu, Ex.er_eq]
        simp only [List.map_cons, List.map_nil, hg.er, hg2.er]
        rfl
      by_cases hk2 : k = 2
      · rw [if_pos hk2] at hl
        simp only [↓VG_u, ↓UG_u, ↓MG_u, ↓NG_u, ↓PG_u, ↓BG_u, ↓CG_u, ↓IG_u, ↓VGtt, ↓VGtf, ↓VGft, ↓VGff, ↓UGtt, ↓UGtf, ↓UGft, ↓UGff, ↓MGtt, ↓MGtf, ↓MGft, ↓MGff, ↓NGtt, ↓NGtf, ↓NGft, ↓NGff, ↓PGtt, ↓PGtf, ↓PGft, ↓PGff, ↓BGtt, ↓BGtf, ↓BGft, ↓BGff, ↓CGtt, ↓CGtf, ↓CGft, ↓CGff, ↓IGtt, ↓IGtf, ↓IGft, ↓IGff, ↓PKt, ↓PKf, ↓CDt, ↓CDf, ↓NOTt, ↓NOTf, ↓NK_ptr, ↓EQt (show (k : Int) = 2 by omega)]
        simp only [sq_n, sq_x, sq_r, bk_n, bk_r, bk_x, rt_r, rt_n, rs_0, rs_t, pk_1, pk_2, up_at, reduceIte, Nat.reduceEqDiff]
        cases hl
        exact retX c417 h17 hgN (hinN.mono fun k hk => hk.2.1) hp17 hm017 (Nat.le_refl _) hcw hlo (fun _ => q4) (R := fun v w' => ∃ e, v = .agg e.cells.toArray ∧ Got w w' e ⟨(twoP (tkAt l a').text).1, 0, bs [], nl, [pe, er], (tkAt l a').line, (tkAt l a').col⟩ ∧ PW w' lv l c a3 ∧ Mod (fun i => i = c) w w') fun w' hg hp hm => ⟨_, rfl, hg, hp, hm⟩
      · rw [if_neg hk2] at hl
        simp only [↓VG_u, ↓UG_u, ↓MG_u, ↓NG_u, ↓PG_u, ↓BG_u, ↓CG_u, ↓IG_u, ↓VGtt, ↓VGtf, ↓VGft, ↓VGff, ↓UGtt, ↓UGtf, ↓UGft, ↓UGff, ↓MGtt, ↓MGtf, ↓MGft, ↓MGff, ↓NGtt, ↓NGtf, ↓NGft, ↓NGff, ↓PGtt, ↓PGtf, ↓PGft, ↓PGff, ↓BGtt, ↓BGtf, ↓BGft, ↓BGff, ↓CGtt, ↓CGtf, ↓CGft, ↓CGff, ↓IGtt, ↓IGtf, ↓IGft, ↓IGff, ↓PKt, ↓PKf, ↓CDt, ↓CDf, ↓NOTt, ↓NOTf, ↓NK_ptr, ↓EQf (show (k : Int) ≠ 2 by omega)]
        exact ⟨m, Nat.lt_succ_self m, nu, _, a3, by omega, hl, q0, q1, q4, q5, c417, h17, hgN, hinN.mono fun k hk => ⟨hk.2.1, hk.2.2.1⟩, hp17, hm017⟩
theorem exprC_all (hG : Good l) : ∀ n, ExprC lv l c n ∧ SingleC lv l c n := by
  intro n
  induction n using Nat.strongRecOn with
  | ind n ih =>
    cases n with
    | zero => exact ⟨fun k a r h => by simp [exprTk] at h, fun a r h => by simp [singleP] at h⟩
    | succ n => exact ⟨expr_step hG (fun m hm => (ih m (by omega)).1) (ih n (by omega)).2, single_step hG (ih n (by omega)).1⟩
theorem expr_ok (hG : Good l) (n : Nat) : ExprC lv l c n := (exprC_all hG n).1
end
end Go.Proofs.YtbnbcimjapiicaaDoor.Tr
set_option linter.unusedVariables false
set_option linter.unusedSimpArgs false
set_option maxRecDepth 4000
namespace Go.X
open Go Go.RowKit
def St.withE (e : St) (v : Value) (x : List Ex) : St := { e with es := v, exprs := x }
/-- Rows lie in blocks of their own kind. -/
theorem Ex.Own.ne {w : World} {tE ty : TypeId} {b : Nat} {cs : Array Value} {fr : Nat × Nat} (hb : w.heap[b]? = some (.cells cs ty fr)) (hne : tE ≠ ty) : ∀ {e : Ex}, e.Own w tE → e.In fun k => k ≠ b := by
  intro e
  induction e using Ex.ind with
  | h e ih =>
    intro h
    obtain ⟨h1, h2, h3⟩ := Ex.own_.1 h
    exact Ex.in_.2 ⟨fun k hk q => owns_ne_blk h1 hb hne (by rw [hk, q]), fun a ha => ih a ha (h3 a ha)⟩
theorem St.Own.ne {w : World} {tE tS ty : TypeId} {b : Nat} {cs : Array Value} {fr : Nat × Nat} (hb : w.heap[b]? = some (.cells cs ty fr)) (hne : tE ≠ ty) (hns : tS ≠ ty) : ∀ {e : St}, e.Own w tE tS → e.In fun k => k ≠ b := by
  intro e
  induction e using St.ind with
  | h e ih1 ih2 =>
    intro h
    obtain ⟨⟨h1, h2⟩, ⟨h3, h4⟩, ⟨h5, h6⟩, h7⟩ := St.own_.1 h
    exact St.in_.2 ⟨⟨fun k hk q => owns_ne_blk h1 hb hne (by rw [hk, q]), fun a ha => (h2 a ha).ne hb hne⟩, ⟨fun k hk q => owns_ne_blk h3 hb hns (by rw [hk, q]), fun a ha => ih1 a ha (h4 a ha)⟩, fun k hk q => owns_ne_blk h5 hb hns (by rw [hk, q]), fun a ha => ih2 a ha (h6 a ha)⟩
end Go.X
namespace Go.Proofs.YtbnbcimjapiicaaDoor.Tr
open Go Go.X Go.RowKit Go.Proofs.YtbnbcimjapiicaaDoor.XD Go.Proofs.YtbnbcimjapiicaaDoor.XK
section
variable {lv : Value} {l : List Tk} {c : Nat}
theorem PW.off2 {w w' : World} {a : Nat} (h : PW w lv l c a) {S : Nat → Prop} (hm : Mod S w w') (h1 : ¬ S c) (h2 : ∀ k, lv.ownBlock = some k → ¬ S k) : PW w' lv l c a := ⟨owns_mod h.toks hm h2, hm.blk h.cur h1⟩
theorem ExsOwn.ne {w w' : World} {base : Nat} {v : Value} {l : List Ex} (h : ExsOwn w base v l) {b : Nat} (hm : Mod (fun i => i = b) w w') {cs : Array Value} {ty : TypeId} {fr : Nat × Nat} (hb : w.heap[b]? = some (.cells cs ty fr)) (hne : tE ≠ ty) : ExsOwn w' base v l :=
  ⟨owns_mod h.row hm fun k hk q => owns_ne_blk h.row hb hne (by rw [hk, q]), fun a ha => (h.own a ha).mod hm ((h.own a ha).ne hb hne), h.at_⟩
theorem StsOwn.ne {w w' : World} {base : Nat} {v : Value} {l : List St} (h : StsOwn w base v l) {b : Nat} (hm : Mod (fun i => i = b) w w') {cs : Array Value} {ty : TypeId} {fr : Nat × Nat} (hb : w.heap[b]? = some (.cells cs ty fr)) (hne : tE ≠ ty) (hns : tS ≠ ty) : StsOwn w' base v l :=
  ⟨owns_mod h.row hm fun k hk q => owns_ne_blk h.row hb hns (by rw [hk, q]), fun a ha => (h.own a ha).mod hm ((h.own a ha).ne hb hne hns), h.at_⟩
/-- 's.Exprs = append(s.Exprs, c.expr(0))', whatever comes first. -/
theorem addE (hG : Good l) {n a a' : Nat} {pe : Ex} (he : exprTk l n 0 a = some (pe, a')) {base : Nat} {w : World} {b : Nat} {e : St} (hb : w.heap[b]? = some (.cells e.cells.toArray tS (0, 0))) (hO : ExsOwn w base e.es e.exprs) (hp : PW w lv l c a) (hcb : c ≠ b)
    (hlen : e.exprs.length < 1099511627776) (hbase : base ≤ w.heap.size) {K1 K2 K3 : Value → Value → Value → Value → Value → Value → World → Prop}
    (hK : ∀ (w' : World) (x : Ex) (v' : Value), w'.heap[b]? = some (.cells (e.withE v' (e.exprs ++ [x])).cells.toArray tS (0, 0)) → ExsOwn w' base v' (e.exprs ++ [x]) → x.er = pe → PW w' lv l c a' → Mod (fun i => i = c ∨ i = b ∨ some i = e.es.ownBlock) w w' → ∀ x1 x2 x3 x4 x5 x6, K1 x1 x2 x3 x4 x5 x6 w' ∧ K2 x1 x2 x3 x4 x5 x6 w' ∧ K3 x1 x2 x3 x4 x5 x6 w') :
    HK Tryd.prog (fun _ => True) (do pure (Next.value (← Instr.fieldAt 62 (pq b) 5))) fun x26 => (VK Tryd.prog (Instr.loadAt 58 x26) w fun x27 w => True ∧ (CK Tryd.prog (.func (.func 105) #[] #[]) [pq c, .int .i64 0] w fun x29 w => True ∧ (VK Tryd.prog (Instr.buildSlice 58 1 [(0, x29)].toArray) w fun x30 w => True ∧ (IK Tryd.prog .append #[58, 58] 58 [false, false] [x27, x30] w fun x31 w => True ∧ (HK Tryd.prog (fun _ => True) (do pure (Next.value (← Instr.fieldAt 62 (pq b) 5))) fun x32 => UK Tryd.prog (Instr.storeAt 58 x32 x31) w fun _ w => True ∧ K1 x26 x27 x29 x30 x31 x32 w))))) ∧
      (CK Tryd.prog (.func (.func 105) #[] #[]) [pq c, .int .i64 0] w fun x29 w => True ∧ ((VK Tryd.prog (Instr.loadAt 58 x26) w fun x27 w => True ∧ (VK Tryd.prog (Instr.buildSlice 58 1 [(0, x29)].toArray) w fun x30 w => True ∧ (IK Tryd.prog .append #[58, 58] 58 [false, false] [x27, x30] w fun x31 w => True ∧ (HK Tryd.prog (fun _ => True) (do pure (Next.value (← Instr.fieldAt 62 (pq b) 5))) fun x32 => UK Tryd.prog (Instr.storeAt 58 x32 x31) w fun _ w => True ∧ K2 x26 x27 x29 x30 x31 x32 w)))) ∧
        (VK Tryd.prog (Instr.buildSlice 58 1 [(0, x29)].toArray) w fun x30 w => True ∧ (VK Tryd.prog (Instr.loadAt 58 x26) w fun x27 w => True ∧ (IK Tryd.prog .append #[58, 58] 58 [false, false] [x27, x30] w fun x31 w => True ∧ (HK Tryd.prog (fun _ => True) (do pure (Next.value (← Instr.fieldAt 62 (pq b) 5))) fun x32 => UK Tryd.prog (Instr.storeAt 58 x32 x31) w fun _ w => True ∧ K3 x26 x27 x29 x30 x31 x32 w)))))) := by
  refine HV_of (fun w' _ => run_fo (off := 5) (by kernel_rfl) _ w') ?_
  have hrow : ∀ k, e.es.ownBlock = some k → k ≠ b ∧ k ≠ c := fun k hk => ⟨fun q => owns_ne_blk hO.row hb (by decide) (by rw [hk, q]), fun q => owns_ne_blk hO.row hp.cur (by decide) (by rw [hk, q])⟩
  have htk : ∀ k, lv.ownBlock = some k → k ≠ b ∧ some k ≠ e.es.ownBlock := fun k hk => ⟨fun q => owns_ne_blk hp.toks hb (by decide) (by rw [hk, q]), fun q => owns_ne hp.toks hO.row (by decide) k hk q⟩
  have ld : ∀ {w' : World} {K : Value → World → Prop}, w'.heap[b]? = some (.cells e.cells.toArray tS (0, 0)) → K e.es w' → VK Tryd.prog (Instr.loadAt 58 (.pointer (some ((⟨b, 0, none⟩ : Addr).add 5)))) w' K := fun h hk => ld1 uExs rfl (by rw [add_pl, cell_blk h]; rfl) hk
  -- the expression is read
  have ex : ∀ {w' : World} (hm : Mod none_ w w') {K : Value → World → Prop}, (∀ (w2 : World) (x : Ex), x.er = pe → x.Own w2 tE → (x.In fun k => w'.heap.size ≤ k) → PW w2 lv l c a' → Mod (fun i => i = c) w' w2 → K (.agg x.cells.toArray) w2) → CK Tryd.prog (.func (.func 105) #[] #[]) [pq c, .int .i64 0] w' K := by
    intro w' hm K hk
    refine CK_st Tryd.func105 rfl rfl (expr_ok hG n 0 a _ he (by omega) w' (hp.mod0 hm)) ?_
    rintro _ w2 ⟨x, rfl, hg, h2, hm2⟩
    exact hk _ _ hg.er hg.own hg.in_ h2 hm2
  -- what follows
  have tail : ∀ {w2 w3 : World} {x : Ex} {y : Value} {K : Value → Value → World → Prop}, Mod (fun i => i = c) w w2 → Mod none_ w2 w3 → x.er = pe → x.Own w2 tE → (x.In fun k => w.heap.size ≤ k) → PW w2 lv l c a' → reads w3 6 y 1 x.cells →
      (∀ v' w', w'.heap[b]? = some (.cells (e.withE v' (e.exprs ++ [x])).cells.toArray tS (0, 0)) → ExsOwn w' base v' (e.exprs ++ [x]) → PW w' lv l c a' → Mod (fun i => i = c ∨ i = b ∨ some i = e.es.ownBlock) w w' → ∀ u, K v' u w') →
      IK Tryd.prog .append #[58, 58] 58 [false, false] [e.es, y] w3 fun x31 w => True ∧ (HK Tryd.prog (fun _ => True) (do pure (Next.value (← Instr.fieldAt 62 (pq b) 5))) fun x32 => UK Tryd.prog (Instr.storeAt 58 x32 x31) w fun _ w => True ∧ K x31 x32 w) := by
    intro w2 w3 x y K hm2 hm23 her hox hix h2 hy hk
    have hb2 := hm2.blk hb (fun q => hcb q.symm)
    have hb3 := hm23.blk hb2 id
    have hO2 := hO.ne hm2 hp.cur (by decide)
    have hO3 := hO2.mod0 hm23
    have hs2 := hm2.size
    have hs3 := hm23.size
    refine appEx (m := [x]) hO3 (by simpa using hy) (by simp) ?_ (by simp; omega) (by omega) fun v' w4 hO4 hm4 hg4 => ⟨trivial, HV_of (fun w' _ => run_fo (off := 5) (by kernel_rfl) _ w') ?_⟩
    · intro z hz
      rw [List.mem_singleton.1 hz]
      exact ⟨hox.mod0 hm23, hix.mono fun k hk => ⟨by omega, fun q => by have := owns_lt hO.row q.symm; omega⟩⟩
    · have hb4 := hm4.blk hb3 fun q => (hrow b q.symm).1 rfl
      have h4 : PW w4 lv l c a' := (h2.mod0 hm23).off2 hm4 (fun q => (hrow c q.symm).2 rfl) fun k hk q => (htk k hk).2 q
      refine stC (b := b) (o := 0 + 5) (by rw [add_pl]) (by kernel_rfl) (owns_slice hO4.row) hb4 (by simp [St.cells]) fun w5 hb5 hm5 hz5 => ⟨trivial, ?_⟩
      have hcs : e.cells.toArray.setIfInBounds (0 + 5) v' = (e.withE v' (e.exprs ++ [x])).cells.toArray := rfl
      rw [hcs] at hb5
      refine hk v' w5 hb5 (hO4.ne hm5 hb4 (by decide)) (h4.off2 hm5 hcb fun k hk q => (htk k hk).1 q) ?_ _
      exact (((hm2.mono fun _ _ q => Or.inl q).trans (up1 hm23)).trans (hm4.mono fun _ _ q => Or.inr (Or.inr q))).trans (hm5.mono fun _ _ q => Or.inr (Or.inl q))
  have rd : ∀ {w2 w3 : World} {x : Ex}, w3.heap[w2.heap.size]? = some (.cells x.cells.toArray (Tryd.prog.elem 58) (0, 0)) → reads w3 6 (.slice (some ⟨w2.heap.size, 0, none⟩) 1 1) 1 x.cells := fun h => by simpa using reads_blk (size := 6) (n := 1) h rfl
  constructor
  · refine ld hb ⟨trivial, ?_⟩
    refine ex (Mod.refl _ w) fun w2 x her hox hix h2 hm2 => ⟨trivial, ?_⟩
    refine bs_k (cs := x.cells.toArray) (by kernel_rfl) fun w3 h3 hm3 hz3 => ⟨trivial, ?_⟩
    exact tail hm2 hm3 her hox hix h2 (rd h3) fun v' w' hb' hO' hp' hm' u => (hK w' x v' hb' hO' her hp' hm' _ _ _ _ _ _).1
  · refine ex (Mod.refl _ w) fun w2 x her hox hix h2 hm2 => ⟨trivial, ?_⟩
    have hb2 := hm2.blk hb (fun q => hcb q.symm)
    constructor
    · refine ld hb2 ⟨trivial, ?_⟩
      refine bs_k (cs := x.cells.toArray) (by kernel_rfl) fun w3 h3 hm3 hz3 => ⟨trivial, ?_⟩
      exact tail hm2 hm3 her hox hix h2 (rd h3) fun v' w' hb' hO' hp' hm' u => (hK w' x v' hb' hO' her hp' hm' _ _ _ _ _ _).2.1
    · refine bs_k (cs := x.cells.toArray) (by kernel_rfl) fun w3 h3 hm3 hz3 => ⟨trivial, ?_⟩
      refine ld (hm3.blk hb2 id) ⟨trivial, ?_⟩
      exact tail hm2 hm3 her hox hix h2 (rd h3) fun v' w' hb' hO' hp' hm' u => (hK w' x v' hb' hO' her hp' hm' _ _ _ _ _ _).2.2
end
end Go.Proofs.YtbnbcimjapiicaaDoor.Tr
set_option linter.unusedVariables false
set_option linter.unusedSimpArgs false
set_option maxRecDepth 4000
namespace Go.Proofs.YtbnbcimjapiicaaDoor.Tr
open Go Go.X Go.RowKit Go.Proofs.YtbnbcimjapiicaaDoor.XD Go.Proofs.YtbnbcimjapiicaaDoor.XK
section
variable {lv : Value} {l : List Tk} {c : Nat}
theorem len_sls {A : Option Addr} {n cp : Nat} (cs : List Bool) {w : World} {K : Value → World → Prop} : IK Tryd.prog .len #[52] 3 cs [.slice A n cp] w K = K (.int .i64 n) w := len_sl uSs cs A n cp
theorem len_sle {A : Option Addr} {n cp : Nat} (cs : List Bool) {w : World} {K : Value → World → Prop} : IK Tryd.prog .len #[58] 3 cs [.slice A n cp] w K = K (.int .i64 n) w := len_sl uExs cs A n cp
theorem idx_no {b : Bs} : ∀ (r : List Bs) (n : Nat), idxP r b n = 0 ∨ ∃ i, i < r.length ∧ idxP r b n = n + i + 1
  | [], n => .inl rfl
  | t :: r, n => by
    rw [idxP]
    split
    · exact .inr ⟨0, by simp, by simp⟩
    · rcases idx_no r (n + 1) with h | ⟨i, hi, h⟩
      · exact .inl h
      · exact .inr ⟨i + 1, by simpa using hi, by rw [h]; omega⟩
theorem callK_rng (b : Bs) : 0 ≤ callK b ∧ callK b ≤ 22 := by
  unfold callK
  rcases idx_no callL 0 (b := b) with h | ⟨i, hi, h⟩
  · omega
  · have : callL.length = 22 := rfl
    omega
theorem Call_ok (b : Bs) (w : World) : Rt Tryd.prog 107 #[txt b] w fun v w' => v = .int .u8 (callK b) ∧ Mod none_ w w' := by
  refine dispatcherref02_Call_calls ?_
  unfold dispatcherref02_Call_F
  refine bs_k (cs := (callL.map txt).toArray) (by kernel_rfl) fun w1 hb1 hm1 hz1 => ?_
  have hr : reads w1 1 (.slice (some ⟨w.heap.size, 0, none⟩) 22 22) 22 (callL.map txt) := reads_blk hb1 rfl
  refine W_loopG dispatcherref02_Call_L0_ok (fun m ρ w' => ∃ n : Nat, n ≤ 22 ∧ m = 22 - n ∧ ρ 0 = txt b ∧ ρ 3 = .slice (some ⟨w.heap.size, 0, none⟩) 22 22 ∧ ρ 4 = .int .i64 n ∧ idxP (callL.drop n) b n = callK b ∧ w' = w1) 22 ⟨0, by omega, rfl, rfl, rfl, rfl, rfl, rfl⟩ ?_
  rintro m ρ w2 ⟨n, hn, rfl, q0, q3, q4, hi, rfl⟩
  rw [dispatcherref02_Call_L0_eq]
  unfold dispatcherref02_Call_L0_F
  rw [q0, q3, q4, len_sls]
  have hlen : callL.length = 22 := rfl
  by_cases hlt : n < 22
  · have hl' : n < callL.length := by omega
    obtain ⟨t, ht0⟩ : ∃ t, t = callL[n]'hl' := ⟨_, rfl⟩
    have hx : callL[n]? = some t := by rw [ht0]; exact List.getElem?_eq_getElem hl'
    simp only [↓VG_u, ↓UG_u, ↓MG_u, ↓NG_u, ↓PG_u, ↓BG_u, ↓CG_u, ↓IG_u, ↓VGtt, ↓VGtf, ↓VGft, ↓VGff, ↓UGtt, ↓UGtf, ↓UGft, ↓UGff, ↓MGtt, ↓MGtf, ↓MGft, ↓MGff, ↓NGtt, ↓NGtf, ↓NGft, ↓NGff, ↓PGtt, ↓PGtf, ↓PGft, ↓PGff, ↓BGtt, ↓BGtf, ↓BGft, ↓BGff, ↓CGtt, ↓CGtf, ↓CGft, ↓CGff, ↓IGtt, ↓IGtf, ↓IGft, ↓IGff, ↓PKt, ↓PKf, ↓CDt, ↓CDf, ↓NOTt, ↓NOTf, ↓NK_ptr, ↓LTt (show (n : Int) < ((22 : Nat) : Int) by omega)]
    refine ixld uSs cS uS rfl hr (by omega) (u := txt t) (by rw [Int.toNat_natCast, List.getElem?_map, hx]; rfl) fun x14 => ?_
    rw [List.drop_eq_getElem_cons hl', ← ht0, idxP] at hi
    split at hi
    · rename_i ht
      have heq : (⟨t.toArray⟩ : ByteArray) = ⟨b.toArray⟩ := by rw [ht]
      simp only [txt, ↓VG_u, ↓UG_u, ↓MG_u, ↓NG_u, ↓PG_u, ↓BG_u, ↓CG_u, ↓IG_u, ↓VGtt, ↓VGtf, ↓VGft, ↓VGff, ↓UGtt, ↓UGtf, ↓UGft, ↓UGff, ↓MGtt, ↓MGtf, ↓MGft, ↓MGff, ↓NGtt, ↓NGtf, ↓NGft, ↓NGff, ↓PGtt, ↓PGtf, ↓PGft, ↓PGff, ↓BGtt, ↓BGtf, ↓BGft, ↓BGff, ↓CGtt, ↓CGtf, ↓CGft, ↓CGff, ↓IGtt, ↓IGtf, ↓IGft, ↓IGff, ↓PKt, ↓PKf, ↓CDt, ↓CDf, ↓NOTt, ↓NOTf, ↓NK_ptr, ↓SEQt heq]
      refine BKadd (a := n) (b := 1) rfl rfl (by omega) (by omega) ?_
      rw [conv_i (k := .u8) (by kernel_rfl) (by kernel_rfl), IntWalk.u8_in _ (by omega)]
      exact ⟨by rw [← hi]; rfl, hm1⟩
    · rename_i ht
      have hne : (⟨t.toArray⟩ : ByteArray) ≠ ⟨b.toArray⟩ := fun q => ht (by have := congrArg (fun b => b.data.toList) q; simpa using this)
      simp only [txt, ↓VG_u, ↓UG_u, ↓MG_u, ↓NG_u, ↓PG_u, ↓BG_u, ↓CG_u, ↓IG_u, ↓VGtt, ↓VGtf, ↓VGft, ↓VGff, ↓UGtt, ↓UGtf, ↓UGft, ↓UGff, ↓MGtt, ↓MGtf, ↓MGft, ↓MGff, ↓NGtt, ↓NGtf, ↓NGft, ↓NGff, ↓PGtt, ↓PGtf, ↓PGft, ↓PGff, ↓BGtt, ↓BGtf, ↓BGft, ↓BGff, ↓CGtt, ↓CGtf, ↓CGft, ↓CGff, ↓IGtt, ↓IGtf, ↓IGft, ↓IGff, ↓PKt, ↓PKf, ↓CDt, ↓CDf, ↓NOTt, ↓NOTf, ↓NK_ptr, ↓SEQf hne]
      refine BKadd (a := n) (b := 1) rfl rfl (by omega) (by omega) ?_
      exact ⟨22 - (n + 1), by omega, n + 1, hlt, rfl, q0, q3, rfl, hi, rfl⟩
  · simp only [↓VG_u, ↓UG_u, ↓MG_u, ↓NG_u, ↓PG_u, ↓BG_u, ↓CG_u, ↓IG_u, ↓VGtt, ↓VGtf, ↓VGft, ↓VGff, ↓UGtt, ↓UGtf, ↓UGft, ↓UGff, ↓MGtt, ↓MGtf, ↓MGft, ↓MGff, ↓NGtt, ↓NGtf, ↓NGft, ↓NGff, ↓PGtt, ↓PGtf, ↓PGft, ↓PGff, ↓BGtt, ↓BGtf, ↓BGft, ↓BGff, ↓CGtt, ↓CGtf, ↓CGft, ↓CGff, ↓IGtt, ↓IGtf, ↓IGft, ↓IGff, ↓PKt, ↓PKf, ↓CDt, ↓CDf, ↓NOTt, ↓NOTf, ↓NK_ptr, ↓LTf (show (((22 : Nat) : Int)) ≤ (n : Int) by omega)]
    obtain rfl : n = 22 := by omega
    rw [sq_x, bk_x, sq_n, dispatcherref02_Call_R1_eq]
    unfold dispatcherref02_Call_R1_F
    rw [List.drop_of_length_le (by omega)] at hi
    exact ⟨by rw [← hi]; rfl, hm1⟩
theorem aggS (w : World) : (isAgg 9).run Tryd.prog w = .ok false w := by
  unfold isAgg
  rw [Sem.run_bind, run_underlying uS w]
  rfl
theorem fldTk {w : World} {K : Value → World → Prop} (t : Tk) : VK Tryd.prog (Instr.field 109 (.agg t.cells.toArray) 1) w K = K (txt t.text) w := by
  refine VK_eq_of ?_
  unfold Instr.field
  simp [Sem.run_bind, run_underlying Tryd.underlying109, part, aggS, Tk.cells, asAgg]
end
end Go.Proofs.YtbnbcimjapiicaaDoor.Tr
set_option linter.unusedVariables false
set_option linter.unusedSimpArgs false
set_option maxRecDepth 4000
namespace Go.Proofs.YtbnbcimjapiicaaDoor.Tr
open Go Go.X Go.RowKit Go.Proofs.YtbnbcimjapiicaaDoor.XD Go.Proofs.YtbnbcimjapiicaaDoor.XK
theorem st_cells_one {e : St} (h1 : e.es.oneCell' = true) (h2 : e.bs.oneCell' = true) (h3 : e.ls.oneCell' = true) : (e.cells.toArray.all (·.oneCell')) = true := by
  simp only [St.cells, List.all_toArray, List.all_cons, List.all_nil, h1, h2, h3]
  rfl
section
variable {lv : Value} {l : List Tk} {c : Nat}
theorem callR3_W (z : Go.X.At) (K : Exit → Sl → World → Prop) (ρ : Sl) (w : World) : sx z Tryd.prog 84 dispatcherref02_cursor_call_R3 K ρ w = W z Tryd.prog 84 dispatcherref02_cursor_call_R3 K ρ w := by kernel_rfl
theorem call_ok (hG : Good l) {s : St} {n a a' : Nat} {res : List Ex} (hr : callP l n s.kind a = some (res, a')) (hs : s.es = nl) (hx : s.exprs = []) (hbs : s.bs = nl) (hls : s.ls = nl) {w : World} (hw : PW w lv l c a) :
    Rt Tryd.prog 108 #[pq c, .agg s.cells.toArray] w fun v w' => ∃ v' xs, v = .agg (s.withE v' xs).cells.toArray ∧ xs.map Ex.er = res ∧ ExsOwn w' w.heap.size v' xs ∧ PW w' lv l c a' ∧ Mod (fun i => i = c) w w' := by
  unfold callP at hr
  cases hn1 : needP l a [40] with
  | none => rw [hn1] at hr; cases hr
  | some a1 =>
  rw [hn1] at hr
  dsimp only at hr
  obtain ⟨hm1, rfl⟩ := need_some hn1
  cases hl : argsLoop l n (argsP s.kind).1 (argsP s.kind).2 10 [] (a + 1) with
  | none => rw [hl] at hr; cases hr
  | some q =>
  obtain ⟨res', a2⟩ := q
  rw [hl] at hr
  dsimp only at hr
  split at hr
  · cases hr
  rename_i hred
  have hred : redsP s.kind = false := by simpa using hred
  cases hn2 : needP l a2 [41] with
  | none => rw [hn2] at hr; cases hr
  | some a3 =>
  rw [hn2] at hr
  obtain ⟨hm2, rfl⟩ := need_some hn2
  cases hr
  refine dispatcherref02_cursor_call_calls ?_
  unfold dispatcherref02_cursor_call_F
  refine box_k (cs := s.cells.toArray) rfl fun w1 hb1 hmm1 hz1 => ?_
  refine al_k (cs := zStc.toArray) zSt rfl _ fun w2 hb2 hmm2 hz2 => ?_
  have hb12 := hmm2.blk hb1 id
  have hmm02 := hmm1.trans hmm2
  have hcw : c < w.heap.size := blk_lt hw.cur
  have hlo : ∀ g, lv.ownBlock = some g → g < w.heap.size := fun g hg => owns_lt hw.toks hg
  obtain ⟨b3, hb3⟩ : ∃ b3, b3 = w.heap.size := ⟨_, rfl⟩
  obtain ⟨b4, hb4⟩ : ∃ b4, b4 = w1.heap.size := ⟨_, rfl⟩
  have hb34 : b4 = b3 + 1 := by omega
  rw [← hb3] at hb1 hb12 ⊢
  rw [← hb4] at hb2 hz2 ⊢
  obtain ⟨f0, f1, f2, f3, f4, f5, _⟩ := st_fo hb12
  simp only [↓f1.e]
  refine CK_st Tryd.func77 rfl rfl (ArgsR_ok s.kind w2) ?_
  rintro _ w3 ⟨rfl, rfl⟩
  rw [extract_ok (v := .int .i64 ((argsP s.kind).1 : Int)) rfl, extract_ok (v := .int .i64 ((argsP s.kind).2 : Int)) rfl]
  simp only [↓f1.e]
  refine CK_st Tryd.func77 rfl rfl (ArgsR_ok s.kind w3) ?_
  rintro _ w4 ⟨rfl, rfl⟩
  rw [extract_ok (v := .int .i64 ((argsP s.kind).1 : Int)) rfl, extract_ok (v := .int .i64 ((argsP s.kind).2 : Int)) rfl]
  refine CK_st Tryd.func86 rfl rfl (need_ok (hw.mod0 hmm02) hG hm1) ?_
  rintro _ w5 ⟨h5, hm5⟩
  have c3 := hm5.blk hb12 (by omega)
  have c4 := hm5.blk hb2 (by omega)
  have hmost : (argsP s.kind).2 ≤ 8 := by unfold argsP; (repeat' split) <;> decide
  have hm05 : Mod (fun i => i = c) w w5 := (up1 hmm02).trans hm5
  have hsw : s.withE nl [] = s := by cases s; simp only at hs hx; subst hs hx; rfl
  -- behind the arguments
  have fin : ∀ (ρ : Sl) (w9 : World) (v' : Value) (xs : List Ex), ρ 0 = pq c → ρ 3 = pq b3 → ρ 4 = pq b4 → w9.heap[b3]? = some (.cells (s.withE v' xs).cells.toArray tS (0, 0)) → w9.heap[b4]? = some (.cells zStc.toArray tS (0, 0)) → ExsOwn w9 b3 v' xs → xs.map Ex.er = res → PW w9 lv l c a2 → Mod (fun i => i = c) w w9 →
      sx fn_ Tryd.prog 84 dispatcherref02_cursor_call_R0 (retK Tryd.prog [ResultVar.cell 4 62] fun v w' => ∃ v' xs, v = .agg (s.withE v' xs).cells.toArray ∧ xs.map Ex.er = res ∧ ExsOwn w' b3 v' xs ∧ PW w' lv l c (a2 + 1) ∧ Mod (fun i => i = c) w w') ρ w9 := by
    intro ρ w9 v' xs q0 q3 q4 h3 h4 hO her hp hm
    rw [dispatcherref02_cursor_call_R0_eq]
    unfold dispatcherref02_cursor_call_R0_F
    rw [q0, q3]
    obtain ⟨f0, f1, f2, f3, f4, f5, _⟩ := st_fo h3
    simp only [↓f1.e]
    refine CK_st Tryd.func99 rfl rfl (Reduces_ok _ w9) ?_
    rintro _ w9 ⟨rfl, rfl⟩
    rw [show redsP (s.withE v' xs).kind = false from hred]
    refine condF ?_
    rw [dispatcherref02_cursor_call_R2_eq]
    unfold dispatcherref02_cursor_call_R2_F
    simp only [sq_n, sq_x, sq_r, bk_n, bk_r, bk_x, rt_r, rt_n, rs_0, rs_t, pk_1, pk_2, up_at, reduceIte, Nat.reduceEqDiff, q0, q3, q4]
    refine CK_st Tryd.func86 rfl rfl (need_ok hp hG hm2) ?_
    rintro _ w10 ⟨h10, hm10⟩
    have h310 := hm10.blk h3 (by omega)
    have h410 := hm10.blk h4 (by omega)
    have hO10 := hO.ne hm10 hp.cur (by decide)
    refine ldS (cs := (s.withE v' xs).cells.toArray) rfl Tryd.underlying62 rfl iSt h310 ?_
    have hone : ((s.withE v' xs).cells.toArray.all (·.oneCell')) = true := st_cells_one (owns_slice hO10.row) (by show s.bs.oneCell' = true; rw [hbs]; rfl) (by show s.ls.oneCell' = true; rw [hls]; rfl)
    refine stS (old := zStc.toArray) (cs := (s.withE v' xs).cells.toArray) rfl rfl iSt rfl hone h410 fun w11 h11 hm11 hz11 => ?_
    refine rsCell (R := fun v w' => ∃ v' xs, v = .agg (s.withE v' xs).cells.toArray ∧ xs.map Ex.er = res ∧ ExsOwn w' b3 v' xs ∧ PW w' lv l c (a2 + 1) ∧ Mod (fun i => i = c) w w') (cs := (s.withE v' xs).cells.toArray) q4 Tryd.underlying62 rfl iSt h11 ⟨v', xs, rfl, her, hO10.ne hm11 h410 (by decide), h10.off hm11 (fun k q => ⟨by omega, fun g hg => by have := hlo g hg; omega⟩), (hm.trans hm10).then hm11 fun i hi q => by omega⟩
  refine W_loopG dispatcherref02_cursor_call_L1_ok (fun m ρ w' => ∃ (v' : Value) (xs : List Ex) (a5 : Nat), argsLoop l n (argsP s.kind).1 (argsP s.kind).2 m (xs.map Ex.er) a5 = some (res, a2) ∧ ρ 0 = pq c ∧ ρ 3 = pq b3 ∧ ρ 4 = pq b4 ∧ ρ 6 = .int .i64 ((argsP s.kind).2 : Int) ∧ ρ 7 = .int .i64 ((argsP s.kind).1 : Int) ∧ w'.heap[b3]? = some (.cells (s.withE v' xs).cells.toArray tS (0, 0)) ∧ w'.heap[b4]? = some (.cells zStc.toArray tS (0, 0)) ∧ ExsOwn w' b3 v' xs ∧ PW w' lv l c a5 ∧ Mod (fun i => i = c) w w') 10
    ⟨nl, [], a + 1, hl, rfl, rfl, rfl, rfl, rfl, by rw [hsw]; exact c3, c4, ExsOwn.nil _ _, h5, hm05⟩ ?_
  rintro m ρ w6 ⟨v', xs, a5, hal, q0, q3, q4, q6, q7, d3, d4, hO, hp, hm⟩
  cases m with
  | zero => simp [argsLoop] at hal
  | succ m =>
  rw [argsLoop, List.length_map] at hal
  rw [dispatcherref02_cursor_call_L1_eq]
  unfold dispatcherref02_cursor_call_L1_F
  rw [q0, q3, q6, q7]
  obtain ⟨A, cp, hv', _⟩ := reads_cap hO.ok.1
  refine CK_st Tryd.func87 rfl rfl (good_ok hp) ?_
  rintro _ w7 ⟨rfl, rfl⟩
  have g5 : ∀ {w' : World}, w'.heap[b3]? = some (.cells (s.withE v' xs).cells.toArray tS (0, 0)) → FO Tryd.prog w' 62 5 5 ⟨b3, 0, none⟩ 58 (.slice A xs.length cp) := fun h => by rw [← hv']; exact (st_fo h).2.2.2.2.2.1
  have hs6 := hm.size
  by_cases hlen : xs.length < (argsP s.kind).2
  · rw [if_pos hlen] at hal
    simp only [↓VG_u, ↓UG_u, ↓MG_u, ↓NG_u, ↓PG_u, ↓BG_u, ↓CG_u, ↓IG_u, ↓VGtt, ↓VGtf, ↓VGft, ↓VGff, ↓UGtt, ↓UGtf, ↓UGft, ↓UGff, ↓MGtt, ↓MGtf, ↓MGft, ↓MGff, ↓NGtt, ↓NGtf, ↓NGft, ↓NGff, ↓PGtt, ↓PGtf, ↓PGft, ↓PGff, ↓BGtt, ↓BGtf, ↓BGft, ↓BGff, ↓CGtt, ↓CGtf, ↓CGft, ↓CGff, ↓IGtt, ↓IGtf, ↓IGft, ↓IGff, ↓PKt, ↓PKf, ↓CDt, ↓CDf, ↓NOTt, ↓NOTf, ↓NK_ptr, ↓(g5 d3).e, ↓len_sle, ↓LTt (show (xs.length : Int) < ((argsP s.kind).2 : Int) by omega)]
    -- one argument more
    have more : ∀ (ρ' : Sl) (w8 : World) (a6 : Nat), ρ' 0 = pq c → ρ' 3 = pq b3 → ρ' 4 = pq b4 → ρ' 6 = .int .i64 ((argsP s.kind).2 : Int) → ρ' 7 = .int .i64 ((argsP s.kind).1 : Int) → w8.heap[b3]? = some (.cells (s.withE v' xs).cells.toArray tS (0, 0)) → w8.heap[b4]? = some (.cells zStc.toArray tS (0, 0)) → ExsOwn w8 b3 v' xs → PW w8 lv l c a6 → Mod (fun i => i = c) w w8 →
        (match exprTk l n 0 a6 with | none => none | some (e, a) => argsLoop l n (argsP s.kind).1 (argsP s.kind).2 m (xs.map Ex.er ++ [e]) a) = some (res, a2) →
        ∀ K : Exit → Sl → World → Prop, (∀ ρ2 w9 v9 xs9 a9, argsLoop l n (argsP s.kind).1 (argsP s.kind).2 m (xs9.map Ex.er) a9 = some (res, a2) → ρ2 0 = pq c → ρ2 3 = pq b3 → ρ2 4 = pq b4 → ρ2 6 = .int .i64 ((argsP s.kind).2 : Int) → ρ2 7 = .int .i64 ((argsP s.kind).1 : Int) → w9.heap[b3]? = some (.cells (s.withE v9 xs9).cells.toArray tS (0, 0)) → w9.heap[b4]? = some (.cells zStc.toArray tS (0, 0)) → ExsOwn w9 b3 v9 xs9 → PW w9 lv l c a9 → Mod (fun i => i = c) w w9 → K .normal ρ2 w9) →
        sx fn_ Tryd.prog 84 dispatcherref02_cursor_call_R3 (blkK 1 K) ρ' w8 := by
      intro ρ' w8 a6 p0 p3 p4 p6 p7 e3 e4 hO8 hp8 hm8 hal8 K hK
      cases he : exprTk l n 0 a6 with
      | none => rw [he] at hal8; cases hal8
      | some q =>
      obtain ⟨pe, a7⟩ := q
      rw [he] at hal8
      dsimp only at hal8
      rw [callR3_W]
      refine dispatcherref02_cursor_call_R3_held (D := []) (fun _ => True) trivial ?_
      unfold dispatcherref02_cursor_call_R3_H
      rw [p0, p3]
      have hd8 : Mod none_ w8 { w8 with drawn := w8.drawn + 1 } := (Mod.refl _ w8).drawn _
      refine addE (e := s.withE v' xs) (base := b3) hG he (hd8.blk e3 id) (hO8.mod0 hd8) (hp8.mod0 hd8) (by omega) (by show xs.length < _; omega) (Nat.le_of_lt (blk_lt e3)) fun w9 x v9 hb9 hO9 her9 hp9 hm9 x1 x2 x3 x4 x5 x6 => ?_
      have hwr : ∀ k, (s.withE v' xs).es.ownBlock = some k → b3 ≤ k ∧ k ≠ b4 := fun k hk => ⟨owns_low hO8.row hk, fun q => owns_ne_blk hO8.row e4 (by decide) (by rw [q] at hk; exact hk)⟩
      have hm09 : Mod (fun i => i = c) w w9 := (hm8.trans (up1 hd8)).then hm9 fun i hi q => by
        rcases q with q | q | q
        · exact q
        · omega
        · have := (hwr i q.symm).1; omega
      have e49 : w9.heap[b4]? = some (.cells zStc.toArray tS (0, 0)) := hm9.blk (hd8.blk e4 id) fun q => by
        rcases q with q | q | q
        · omega
        · omega
        · exact (hwr b4 q.symm).2 rfl
      have e39 : w9.heap[b3]? = some (.cells (s.withE v9 (xs ++ [x])).cells.toArray tS (0, 0)) := hb9
      have fin2 : ∀ ρ2, ρ2 0 = pq c → ρ2 3 = pq b3 → ρ2 4 = pq b4 → ρ2 6 = .int .i64 ((argsP s.kind).2 : Int) → ρ2 7 = .int .i64 ((argsP s.kind).1 : Int) → blkK 1 K .normal ρ2 w9 := by
        intro ρ2 t0 t3 t4 t6 t7
        rw [bk_n]
        exact hK ρ2 w9 v9 (xs ++ [x]) a7 (by rw [List.map_append, List.map_singleton, her9]; exact hal8) t0 t3 t4 t6 t7 e39 e49 hO9 hp9 hm09
      refine ⟨fin2 _ ?_ ?_ ?_ ?_ ?_, fin2 _ ?_ ?_ ?_ ?_ ?_, fin2 _ ?_ ?_ ?_ ?_ ?_⟩
      · exact p0
      · exact p3
      · exact p4
      · exact p6
      · exact p7
      · exact p0
      · exact p3
      · exact p4
      · exact p6
      · exact p7
      · exact p0
      · exact p3
      · exact p4
      · exact p6
      · exact p7
    have next : ∀ (ρ2 : Sl) (w9 : World) (v9 : Value) (xs9 : List Ex) (a9 : Nat), argsLoop l n (argsP s.kind).1 (argsP s.kind).2 m (xs9.map Ex.er) a9 = some (res, a2) → ρ2 0 = pq c → ρ2 3 = pq b3 → ρ2 4 = pq b4 → ρ2 6 = .int .i64 ((argsP s.kind).2 : Int) → ρ2 7 = .int .i64 ((argsP s.kind).1 : Int) → w9.heap[b3]? = some (.cells (s.withE v9 xs9).cells.toArray tS (0, 0)) → w9.heap[b4]? = some (.cells zStc.toArray tS (0, 0)) → ExsOwn w9 b3 v9 xs9 → PW w9 lv l c a9 → Mod (fun i => i = c) w w9 →
        ∃ m', m' < m + 1 ∧ ∃ (v' : Value) (xs : List Ex) (a5 : Nat), argsLoop l n (argsP s.kind).1 (argsP s.kind).2 m' (xs.map Ex.er) a5 = some (res, a2) ∧ ρ2 0 = pq c ∧ ρ2 3 = pq b3 ∧ ρ2 4 = pq b4 ∧ ρ2 6 = .int .i64 ((argsP s.kind).2 : Int) ∧ ρ2 7 = .int .i64 ((argsP s.kind).1 : Int) ∧ w9.heap[b3]? = some (.cells (s.withE v' xs).cells.toArray tS (0, 0)) ∧ w9.heap[b4]? = some (.cells zStc.toArray tS (0, 0)) ∧ ExsOwn w9 b3 v' xs ∧ PW w9 lv l c a5 ∧ Mod (fun i => i = c) w w9 :=
      fun ρ2 w9 v9 xs9 a9 h0 h1 h2 h3 h4 h5 h6 h7 h8 h9 h10 => ⟨m, Nat.lt_succ_self m, v9, xs9, a9, h0, h1, h2, h3, h4, h5, h6, h7, h8, h9, h10⟩
    by_cases hpos : 0 < xs.length
    · rw [if_pos hpos] at hal
      simp only [↓GTt (show (0 : Int) < (xs.length : Int) by omega), ↓CDt, ↓(g5 d3).e, ↓len_sle]
      have comma : (match needP l a5 [44] with | none => none | some a => match exprTk l n 0 a with | none => none | some (e, a) => argsLoop l n (argsP s.kind).1 (argsP s.kind).2 m (xs.map Ex.er ++ [e]) a) = some (res, a2) → ∀ (ρ' : Sl) (w8 : World), Mod none_ w7 w8 → ρ' 0 = pq c → ρ' 3 = pq b3 → ρ' 4 = pq b4 → ρ' 6 = .int .i64 ((argsP s.kind).2 : Int) → ρ' 7 = .int .i64 ((argsP s.kind).1 : Int) →
          ∀ K : Exit → Sl → World → Prop, (∀ ρ2 w9 v9 xs9 a9, argsLoop l n (argsP s.kind).1 (argsP s.kind).2 m (xs9.map Ex.er) a9 = some (res, a2) → ρ2 0 = pq c → ρ2 3 = pq b3 → ρ2 4 = pq b4 → ρ2 6 = .int .i64 ((argsP s.kind).2 : Int) → ρ2 7 = .int .i64 ((argsP s.kind).1 : Int) → w9.heap[b3]? = some (.cells (s.withE v9 xs9).cells.toArray tS (0, 0)) → w9.heap[b4]? = some (.cells zStc.toArray tS (0, 0)) → ExsOwn w9 b3 v9 xs9 → PW w9 lv l c a9 → Mod (fun i => i = c) w w9 → K .normal ρ2 w9) →
          CK Tryd.prog (.func (.func 86) #[] #[]) [pq c, .string ⟨#[44]⟩] w8 fun x49 w => sx fn_ Tryd.prog 84 dispatcherref02_cursor_call_R3 (blkK 1 K) (up (up ρ' 48 (pq c)) 49 x49) w := by
        intro hal ρ' w8 hm78 p0 p3 p4 p6 p7 K hK
        cases hnc : needP l a5 [44] with
        | none => rw [hnc] at hal; cases hal
        | some a8 =>
        rw [hnc] at hal
        dsimp only at hal
        obtain ⟨hmc, rfl⟩ := need_some hnc
        refine CK_st Tryd.func86 rfl rfl (need_ok (hp.mod0 hm78) hG hmc) ?_
        rintro _ w9 ⟨h9, hm9⟩
        refine more _ w9 (a5 + 1) ?_ ?_ ?_ ?_ ?_ (hm9.blk (hm78.blk d3 id) (by omega)) (hm9.blk (hm78.blk d4 id) (by omega)) ((hO.mod0 hm78).ne hm9 (hp.mod0 hm78).cur (by decide)) h9 ((hm.trans (up1 hm78)).trans hm9) hal K hK
        · exact p0
        · exact p3
        · exact p4
        · exact p6
        · exact p7
      by_cases hle : (argsP s.kind).1 ≤ xs.length
      · simp only [↓VG_u, ↓UG_u, ↓MG_u, ↓NG_u, ↓PG_u, ↓BG_u, ↓CG_u, ↓IG_u, ↓VGtt, ↓VGtf, ↓VGft, ↓VGff, ↓UGtt, ↓UGtf, ↓UGft, ↓UGff, ↓MGtt, ↓MGtf, ↓MGft, ↓MGff, ↓NGtt, ↓NGtf, ↓NGft, ↓NGff, ↓PGtt, ↓PGtf, ↓PGft, ↓PGff, ↓BGtt, ↓BGtf, ↓BGft, ↓BGff, ↓CGtt, ↓CGtf, ↓CGft, ↓CGff, ↓IGtt, ↓IGtf, ↓IGft, ↓IGff, ↓PKt, ↓PKf, ↓CDt, ↓CDf, ↓NOTt, ↓NOTf, ↓NK_ptr, ↓GEt (show ((argsP s.kind).1 : Int) ≤ (xs.length : Int) by omega)]
        refine CK_st Tryd.func83 rfl rfl (next_ok hp hG) ?_
        rintro _ w8 ⟨rfl, hm8⟩
        simp only [↓fldTk]
        by_cases ht : (tkAt l a5).text = [41]
        · rw [if_pos ⟨hle, ht⟩] at hal
          have heq : (⟨(tkAt l a5).text.toArray⟩ : ByteArray) = ⟨#[41]⟩ := by rw [ht]
          simp only [txt, ↓VG_u, ↓UG_u, ↓MG_u, ↓NG_u, ↓PG_u, ↓BG_u, ↓CG_u, ↓IG_u, ↓VGtt, ↓VGtf, ↓VGft, ↓VGff, ↓UGtt, ↓UGtf, ↓UGft, ↓UGff, ↓MGtt, ↓MGtf, ↓MGft, ↓MGff, ↓NGtt, ↓NGtf, ↓NGft, ↓NGff, ↓PGtt, ↓PGtf, ↓PGft, ↓PGff, ↓BGtt, ↓BGtf, ↓BGft, ↓BGff, ↓CGtt, ↓CGtf, ↓CGft, ↓CGff, ↓IGtt, ↓IGtf, ↓IGft, ↓IGff, ↓PKt, ↓PKf, ↓CDt, ↓CDf, ↓NOTt, ↓NOTf, ↓NK_ptr, ↓SEQt heq]
          cases hal
          rw [sq_x, bk_x, sq_n]
          refine fin _ w8 v' xs ?_ ?_ ?_ (hm8.blk d3 id) (hm8.blk d4 id) (hO.mod0 hm8) rfl (hp.mod0 hm8) (hm.trans (up1 hm8))
          · exact q0
          · exact q3
          · exact q4
        · rw [if_neg (fun q => ht q.2)] at hal
          have hne : (⟨(tkAt l a5).text.toArray⟩ : ByteArray) ≠ ⟨#[41]⟩ := fun q => ht (by have := congrArg (fun b => b.data.toList) q; simpa using this)
          simp only [txt, ↓VG_u, ↓UG_u, ↓MG_u, ↓NG_u, ↓PG_u, ↓BG_u, ↓CG_u, ↓IG_u, ↓VGtt, ↓VGtf, ↓VGft, ↓VGff, ↓UGtt, ↓UGtf, ↓UGft, ↓UGff, ↓MGtt, ↓MGtf, ↓MGft, ↓MGff, ↓NGtt, ↓NGtf, ↓NGft, ↓NGff, ↓PGtt, ↓PGtf, ↓PGft, ↓PGff, ↓BGtt, ↓BGtf, ↓BGft, ↓BGff, ↓CGtt, ↓CGtf, ↓CGft, ↓CGff, ↓IGtt, ↓IGtf, ↓IGft, ↓IGff, ↓PKt, ↓PKf, ↓CDt, ↓CDf, ↓NOTt, ↓NOTf, ↓NK_ptr, ↓SEQf hne]
          refine comma hal _ w8 hm8 ?_ ?_ ?_ ?_ ?_ _ next
          · exact q0
          · exact q3
          · exact q4
          · exact q6
          · exact q7
      · rw [if_neg (fun q => hle q.1)] at hal
        simp only [↓VG_u, ↓UG_u, ↓MG_u, ↓NG_u, ↓PG_u, ↓BG_u, ↓CG_u, ↓IG_u, ↓VGtt, ↓VGtf, ↓VGft, ↓VGff, ↓UGtt, ↓UGtf, ↓UGft, ↓UGff, ↓MGtt, ↓MGtf, ↓MGft, ↓MGff, ↓NGtt, ↓NGtf, ↓NGft, ↓NGff, ↓PGtt, ↓PGtf, ↓PGft, ↓PGff, ↓BGtt, ↓BGtf, ↓BGft, ↓BGff, ↓CGtt, ↓CGtf, ↓CGft, ↓CGff, ↓IGtt, ↓IGtf, ↓IGft, ↓IGff, ↓PKt, ↓PKf, ↓CDt, ↓CDf, ↓NOTt, ↓NOTf, ↓NK_ptr, ↓GEf (show (xs.length : Int) < ((argsP s.kind).1 : Int) by omega)]
        refine comma hal _ w7 (Mod.refl _ _) ?_ ?_ ?_ ?_ ?_ _ next
        · exact q0
        · exact q3
        · exact q4
        · exact q6
        · exact q7
    · rw [if_neg hpos] at hal
      simp only [↓GTf (show (xs.length : Int) ≤ 0 by omega), ↓CDf]
      refine more _ w7 a5 ?_ ?_ ?_ ?_ ?_ d3 d4 hO hp hm hal _ next
      · exact q0
      · exact q3
      · exact q4
      · exact q6
      · exact q7
  · rw [if_neg hlen] at hal
    cases hal
    simp only [↓VG_u, ↓UG_u, ↓MG_u, ↓NG_u, ↓PG_u, ↓BG_u, ↓CG_u, ↓IG_u, ↓VGtt, ↓VGtf, ↓VGft, ↓VGff, ↓UGtt, ↓UGtf, ↓UGft, ↓UGff, ↓MGtt, ↓MGtf, ↓MGft, ↓MGff, ↓NGtt, ↓NGtf, ↓NGft, ↓NGff, ↓PGtt, ↓PGtf, ↓PGft, ↓PGff, ↓BGtt, ↓BGtf, ↓BGft, ↓BGff, ↓CGtt, ↓CGtf, ↓CGft, ↓CGff, ↓IGtt, ↓IGtf, ↓IGft, ↓IGff, ↓PKt, ↓PKf, ↓CDt, ↓CDf, ↓NOTt, ↓NOTf, ↓NK_ptr, ↓(g5 d3).e, ↓len_sle, ↓LTf (show ((argsP s.kind).2 : Int) ≤ (xs.length : Int) by omega)]
    rw [sq_x, bk_x, sq_n]
    refine fin _ w7 v' xs ?_ ?_ ?_ d3 d4 hO rfl hp hm
    · exact q0
    · exact q3
    · exact q4
end
end Go.Proofs.YtbnbcimjapiicaaDoor.Tr
set_option linter.unusedVariables false
set_option linter.unusedSimpArgs false
set_option maxRecDepth 4000
namespace Go.Proofs.YtbnbcimjapiicaaDoor.Tr
open Go Go.X Go.RowKit Go.Proofs.YtbnbcimjapiicaaDoor.XD Go.Proofs.YtbnbcimjapiicaaDoor.XK
structure GotS (w w' : World) (e : St) (pe : St) : Prop where
  er : e.er = pe
  own : e.Own w' tE tS
  in_ : e.In fun i => w.heap.size ≤ i
theorem bSt2 (a b : Int) : Tryd.prog.built 62 [(8, .int .i64 a), (9, .int .i64 b)] = some (St.mk 0 0 0 (bs []) 0 nl [] nl [] nl [] a b).cells.toArray := by kernel_rfl
section
variable {lv : Value} {l : List Tk} {c : Nat}
def StmtC (lv : Value) (l : List Tk) (c n : Nat) : Prop := ∀ (a : Nat) (r : St × Nat), stmtP l n a = some r → ∀ w, PW w lv l c a →
  Rt Tryd.prog 88 #[pq c] w fun v w' => ∃ e, v = .agg e.cells.toArray ∧ GotS w w' e r.1 ∧ PW w' lv l c r.2 ∧ Mod (fun i => i = c) w w'
def BlockC (lv : Value) (l : List Tk) (c n : Nat) : Prop := ∀ (a : Nat) (r : List St × Nat), blockP l n a = some r → ∀ w, PW w lv l c a →
  Rt Tryd.prog 106 #[pq c] w fun v w' => ∃ ss, StsOwn w' w.heap.size v ss ∧ ss.map St.er = r.1 ∧ PW w' lv l c r.2 ∧ Mod (fun i => i = c) w w'
/-- Three variables of a call's: a result's, a word's, a statement's. -/
structure FrS (lv : Value) (l : List Tk) (c : Nat) (w0 w : World) (b2 b3 b4 : Nat) (t : Tk) (e : St) (a : Nat) : Prop where
  h2 : w.heap[b2]? = some (.cells zStc.toArray tS (0, 0))
  h3 : w.heap[b3]? = some (.cells t.cells.toArray tT (0, 0))
  h4 : w.heap[b4]? = some (.cells e.cells.toArray tS (0, 0))
  pw : PW w lv l c a
  m : Mod (fun i => i = c) w0 w
  lo : w0.heap.size ≤ b2 ∧ b2 < b3 ∧ b3 < b4 ∧ c < w0.heap.size ∧ ∀ g, lv.ownBlock = some g → g < w0.heap.size
  ex : ExsOwn w (b4 + 1) e.es e.exprs
  bd : StsOwn w (b4 + 1) e.bs e.body
  nls : e.ls = nl ∧ e.els = []
variable {w0 w w' : World} {b2 b3 b4 : Nat} {t : Tk} {e : St} {a : Nat}
theorem FrS.ltw (h : FrS lv l c w0 w b2 b3 b4 t e a) : b4 < w.heap.size := blk_lt h.h4
theorem FrS.cur (h : FrS lv l c w0 w b2 b3 b4 t e a) {a' : Nat} (hm : Mod (fun i => i = c) w w') (hp : PW w' lv l c a') : FrS lv l c w0 w' b2 b3 b4 t e a' := by
  have := h.lo
  exact ⟨hm.blk h.h2 (by omega), hm.blk h.h3 (by omega), hm.blk h.h4 (by omega), hp, h.m.trans hm, h.lo, h.ex.ne hm h.pw.cur (by decide), h.bd.ne hm h.pw.cur (by decide) (by decide), h.nls⟩
theorem FrS.mod0 (h : FrS lv l c w0 w b2 b3 b4 t e a) (hm : Mod none_ w w') : FrS lv l c w0 w' b2 b3 b4 t e a := h.cur (up1 hm) (h.pw.mod0 hm)
theorem FrS.put (h : FrS lv l c w0 w b2 b3 b4 t e a) {e' : St} (hm : Mod (fun i => i = b4) w w') (hb : w'.heap[b4]? = some (.cells e'.cells.toArray tS (0, 0))) (hx : ExsOwn w' (b4 + 1) e'.es e'.exprs) (hd : StsOwn w' (b4 + 1) e'.bs e'.body) (hn : e'.ls = nl ∧ e'.els = []) : FrS lv l c w0 w' b2 b3 b4 t e' a := by
  have := h.lo
  refine ⟨hm.blk h.h2 (by omega), hm.blk h.h3 (by omega), hb, h.pw.off hm fun k q => ?_, h.m.then hm fun i hi q => by omega, h.lo, hx, hd, hn⟩
  refine ⟨by omega, fun g hg => ?_⟩
  have := h.lo.2.2.2.2 g hg
  omega
/-- A field of the statement's own, stored. -/
theorem FrS.fst (h : FrS lv l c w0 w b2 b3 b4 t e a) {i off : Nat} {t' : TypeId} {v : Value} (e' : St) (h1 : fieldOff Tryd.prog 62 i = some off) (hc1 : Tryd.prog.cellsOf t' = 1) (hv : v.oneCell' = true) (ho : off < 10) (hcs : e.cells.toArray.setIfInBounds off v = e'.cells.toArray) (hes : e'.es = e.es ∧ e'.exprs = e.exprs) (hbs : e'.bs = e.bs ∧ e'.body = e.body) (hn : e'.ls = nl ∧ e'.els = [])
    {K : Value → Value → World → Prop} (hk : ∀ x w', FrS lv l c w0 w' b2 b3 b4 t e' a → K x undef w') : VK Tryd.prog (Instr.fieldAt 62 (pq b4) i) w fun x w => UK Tryd.prog (Instr.storeAt t' x v) w (K x) := by
  refine fst_k h1 hc1 hv h.h4 (by simpa [St.cells] using ho) hcs fun x w1 hb1 hm1 hz1 => hk _ _ (h.put hm1 hb1 ?_ ?_ hn)
  · rw [hes.1, hes.2]; exact h.ex.off hm1 fun k q => by omega
  · rw [hbs.1, hbs.2]; exact h.bd.off hm1 fun k q => by omega
theorem FrS.no (h : FrS lv l c w0 w b2 b3 b4 t e a) (hG : Good l) {s : Bs} (hf : mayP l a s = false) {K : Value → World → Prop} (hk : ∀ w', FrS lv l c w0 w' b2 b3 b4 t e a → K (.bool false) w') : CK Tryd.prog (.func (.func 82) #[] #[]) [pq c, txt s] w K := by
  refine CK_st Tryd.func82 rfl rfl (may_ok h.pw hG s) ?_
  rintro _ w1 ⟨rfl, h1, hm1⟩
  rw [hf] at h1 ⊢
  exact hk _ (h.cur hm1 h1)
theorem FrS.yes (h : FrS lv l c w0 w b2 b3 b4 t e a) (hG : Good l) {s : Bs} (hf : mayP l a s = true) {K : Value → World → Prop} (hk : ∀ w', FrS lv l c w0 w' b2 b3 b4 t e (a + 1) → K (.bool true) w') : CK Tryd.prog (.func (.func 82) #[] #[]) [pq c, txt s] w K := by
  refine CK_st Tryd.func82 rfl rfl (may_ok h.pw hG s) ?_
  rintro _ w1 ⟨rfl, h1, hm1⟩
  rw [hf] at h1 ⊢
  exact hk _ (h.cur hm1 h1)
theorem FrS.need (h : FrS lv l c w0 w b2 b3 b4 t e a) (hG : Good l) {s : Bs} (hf : mayP l a s = true) {K : Value → World → Prop} (hk : ∀ v w', FrS lv l c w0 w' b2 b3 b4 t e (a + 1) → K v w') : CK Tryd.prog (.func (.func 86) #[] #[]) [pq c, txt s] w K := by
  refine CK_st Tryd.func86 rfl rfl (need_ok h.pw hG hf) ?_
  rintro v w1 ⟨h1, hm1⟩
  exact hk _ _ (h.cur hm1 h1)
theorem FrS.name (h : FrS lv l c w0 w b2 b3 b4 t e a) (hG : Good l) (hk1 : (tkAt l a).kind = 1) {K : Value → World → Prop} (hk : ∀ w', FrS lv l c w0 w' b2 b3 b4 t e (a + 1) → K (txt (tkAt l a).text) w') : CK Tryd.prog (.func (.func 84) #[] #[]) [pq c] w K := by
  refine CK_st Tryd.func84 rfl rfl (name_ok h.pw hG hk1) ?_
  rintro _ w1 ⟨rfl, h1, hm1⟩
  exact hk _ (h.cur hm1 h1)
/-- The statement's variable is what is told. -/
theorem FrS.retS (h : FrS lv l c w0 w b2 b3 b4 t e a) {pe : St} (her : e.er = pe) (hf : e.fine) {R : Value → World → Prop} {ρ : Value → Sl} (hq : ∀ x, ρ x 2 = pq b2) (hR : ∀ w', GotS w0 w' e pe → PW w' lv l c a → Mod (fun i => i = c) w0 w' → R (.agg e.cells.toArray) w') :
    VK Tryd.prog (Instr.loadAt 62 (pq b4)) w fun x w => UK Tryd.prog (Instr.storeAt 62 (pq b2) x) w fun _ w => resK Tryd.prog (ρ x) (fun vs w => R (packV vs) w) [ResultVar.cell 2 62] w := by
  have lo := h.lo
  refine ldS (cs := e.cells.toArray) rfl Tryd.underlying62 rfl iSt h.h4 ?_
  have hone : (e.cells.toArray.all (·.oneCell')) = true := st_cells_one (owns_slice h.ex.row) (owns_slice h.bd.row) (by rw [h.nls.1]; rfl)
  refine stS (old := zStc.toArray) (cs := e.cells.toArray) rfl rfl iSt rfl hone h.h2 fun w1 h1 hm1 hz1 => ?_
  have hx := h.ex.off hm1 fun k q => by omega
  have hd := h.bd.off hm1 fun k q => by omega
  have hown : e.Own w1 tE tS := St.own_.2 ⟨⟨owns_base hx.row (Nat.zero_le _), hx.own⟩, ⟨owns_base hd.row (Nat.zero_le _), hd.own⟩, ⟨by rw [h.nls.1, h.nls.2]; exact owns_none _ _ _ _, by rw [h.nls.2]; simp⟩, hf⟩
  have hin : e.In fun i => w0.heap.size ≤ i := by
    refine St.in_.2 ⟨⟨fun k hk => by have := owns_low hx.row hk; omega, fun z hz => (hx.at_ z hz).mono fun k hk => by omega⟩, ⟨fun k hk => by have := owns_low hd.row hk; omega, fun z hz => (hd.at_ z hz).mono fun k hk => by omega⟩, ?_⟩
    rw [h.nls.1, h.nls.2]
    exact ⟨fun k hk => by simp [nl, Value.ownBlock] at hk, by simp⟩
  have hR1 := hR w1 ⟨her, hown, hin⟩ (h.pw.off hm1 fun k q => ⟨by omega, fun g hg => by have := lo.2.2.2.2 g hg; omega⟩) (h.m.then hm1 fun i hi q => by omega)
  exact rsCell (R := fun v w => R v w) (cs := e.cells.toArray) (hq _) Tryd.underlying62 rfl iSt h1 hR1
/-- An expression added. -/
theorem FrS.add (h : FrS lv l c w0 w b2 b3 b4 t e a) (hG : Good l) {n a' : Nat} {pe : Ex} (he : exprTk l n 0 a = some (pe, a')) (hlen : e.exprs.length < 1000) (hb0 : e.body = []) {K1 K2 K3 : Value → Value → Value → Value → Value → Value → World → Prop}
    (hK : ∀ (w' : World) (x : Ex) (v' : Value), FrS lv l c w0 w' b2 b3 b4 t (e.withE v' (e.exprs ++ [x])) a' → x.er = pe → ∀ x1 x2 x3 x4 x5 x6, K1 x1 x2 x3 x4 x5 x6 w' ∧ K2 x1 x2 x3 x4 x5 x6 w' ∧ K3 x1 x2 x3 x4 x5 x6 w') :
    HK Tryd.prog (fun _ => True) (do pure (Next.value (← Instr.fieldAt 62 (pq b4) 5))) fun x26 => (VK Tryd.prog (Instr.loadAt 58 x26) w fun x27 w => True ∧ (CK Tryd.prog (.func (.func 105) #[] #[]) [pq c, .int .i64 0] w fun x29 w => True ∧ (VK Tryd.prog (Instr.buildSlice 58 1 [(0, x29)].toArray) w fun x30 w => True ∧ (IK Tryd.prog .append #[58, 58] 58 [false, false] [x27, x30] w fun x31 w => True ∧ (HK Tryd.prog (fun _ => True) (do pure (Next.value (← Instr.fieldAt 62 (pq b4) 5))) fun x32 => UK Tryd.prog (Instr.storeAt 58 x32 x31) w fun _ w => True ∧ K1 x26 x27 x29 x30 x31 x32 w))))) ∧
      (CK Tryd.prog (.func (.func 105) #[] #[]) [pq c, .int .i64 0] w fun x29 w => True ∧ ((VK Tryd.prog (Instr.loadAt 58 x26) w fun x27 w => True ∧ (VK Tryd.prog (Instr.buildSlice 58 1 [(0, x29)].toArray) w fun x30 w => True ∧ (IK Tryd.prog .append #[58, 58] 58 [false, false] [x27, x30] w fun x31 w => True ∧ (HK Tryd.prog (fun _ => True) (do pure (Next.value (← Instr.fieldAt 62 (pq b4) 5))) fun x32 => UK Tryd.prog (Instr.storeAt 58 x32 x31) w fun _ w => True ∧ K2 x26 x27 x29 x30 x31 x32 w)))) ∧
        (VK Tryd.prog (Instr.buildSlice 58 1 [(0, x29)].toArray) w fun x30 w => True ∧ (VK Tryd.prog (Instr.loadAt 58 x26) w fun x27 w => True ∧ (IK Tryd.prog .append #[58, 58] 58 [false, false] [x27, x30] w fun x31 w => True ∧ (HK Tryd.prog (fun _ => True) (do pure (Next.value (← Instr.fieldAt 62 (pq b4) 5))) fun x32 => UK Tryd.prog (Instr.storeAt 58 x32 x31) w fun _ w => True ∧ K3 x26 x27 x29 x30 x31 x32 w)))))) := by
  have lo := h.lo
  have hltw := h.ltw
  refine addE (base := b4 + 1) hG he h.h4 h.ex h.pw (by omega) (by omega) hltw fun w1 x v' hb1 hO1 her hp1 hm1 x1 x2 x3 x4 x5 x6 => hK w1 x v' ?_ her _ _ _ _ _ _
  have hrow : ∀ k, e.es.ownBlock = some k → b4 + 1 ≤ k := fun k hk => owns_low h.ex.row hk
  have hne : ∀ k, k ≤ b4 → k ≠ c → k ≠ b4 → ¬ (k = c ∨ k = b4 ∨ some k = e.es.ownBlock) := fun k hk h1 h2 q => by
    rcases q with q | q | q
    · exact h1 q
    · exact h2 q
    · have := hrow k q.symm; omega
  refine ⟨hm1.blk h.h2 (hne _ (by omega) (by omega) (by omega)), hm1.blk h.h3 (hne _ (by omega) (by omega) (by omega)), hb1, hp1, h.m.then hm1 fun i hi q => ?_, lo, hO1, ?_, h.nls⟩
  · rcases q with q | q | q
    · exact q
    · omega
    · have := hrow i q.symm; omega
  · have hbr : ∀ k, e.bs.ownBlock = some k → b4 + 1 ≤ k := fun k hk => owns_low h.bd.row hk
    refine ⟨owns_mod h.bd.row hm1 fun k hk q => ?_, fun z hz => ?_, h.bd.at_⟩
    · rcases q with q | q | q
      · have := hbr k hk; omega
      · have := hbr k hk; omega
      · exact owns_ne h.bd.row h.ex.row (by decide) k hk q
    · have hz : z ∈ e.body := hz
      rw [hb0] at hz
      cases hz
/-- The sign behind a statement; it is told. -/
theorem FrS.done (h : FrS lv l c w0 w b2 b3 b4 t e a) (hG : Good l) (hs : mayP l a [59] = true) {pe : St} (her : e.er = pe) (hf : e.fine) {ρ : Sl} (q0 : ρ 0 = pq c) (q2 : ρ 2 = pq b2) (q4 : ρ 4 = pq b4) :
    sx fn_ Tryd.prog 141 dispatcherref02_cursor_stmt_R0 (retK Tryd.prog [ResultVar.cell 2 62] fun v w' => ∃ e, v = .agg e.cells.toArray ∧ GotS w0 w' e pe ∧ PW w' lv l c (a + 1) ∧ Mod (fun i => i = c) w0 w') ρ w := by
  rw [dispatcherref02_cursor_stmt_R0_eq]
  unfold dispatcherref02_cursor_stmt_R0_F
  rw [q0, q2, q4]
  refine h.need (s := [59]) hG hs fun v w1 h1 => ?_
  simp only [sq_n, sq_x, sq_r, bk_n, bk_r, bk_x, rt_r, rt_n, rs_0, rs_t, pk_1, pk_2, up_at, reduceIte, Nat.reduceEqDiff]
  refine h1.retS her hf (R := fun v w' => ∃ e, v = .agg e.cells.toArray ∧ GotS w0 w' e pe ∧ PW w' lv l c (a + 1) ∧ Mod (fun i => i = c) w0 w') (fun x => ?_) fun w' hg hp hm => ⟨_, rfl, hg, hp, hm⟩
  exact q2
theorem stF {op kind red turns line col : Int} {name : ByteArray} {es bs ls : Value} {ex : List Ex} {bd el : List St} (h1 : (Lit.int .u8 op).wf = true) (h2 : (Lit.int .u8 kind).wf = true) (h3 : (Lit.int .u8 red).wf = true) (h4 : name.size ≤ maxLen) (h5 : (Lit.int .i64 turns).wf = true) (h6 : (Lit.int .i64 line).wf = true) (h7 : (Lit.int .i64 col).wf = true) : (St.mk op kind red name turns es ex bs bd ls el line col).fine := ⟨h1, h2, h3, h4, h5, h6, h7⟩
theorem u8_wf {n : Int} (h0 : 0 ≤ n) (h1 : n ≤ 255) : (Lit.int .u8 n).wf = true := by
  simp [Lit.wf, IntKind.min, IntKind.max, IntKind.signed, IntKind.bits]
  omega
theorem stmt_step (hG : Good l) {n : Nat} (hB : BlockC lv l c n) : StmtC lv l c (n + 1) := by
  intro a r hr w hw
  rw [stmtP] at hr
  refine dispatcherref02_cursor_stmt_calls ?_
  unfold dispatcherref02_cursor_stmt_F
  refine al_k (cs := zStc.toArray) zSt rfl _ fun w1 hb1 hm1 hz1 => ?_
  refine CK_st Tryd.func83 rfl rfl (next_ok (hw.mod0 hm1) hG) ?_
  rintro _ w2 ⟨rfl, hm2⟩
  refine lcl_k (cs := (tkAt l a).cells.toArray) zTkg _ iTk rfl (tk_one _) fun w3 hb3 hm3 hz3 => ?_
  obtain ⟨k0, k1, k2, k3, k4⟩ := tk_fo hb3
  simp only [↓k3.e, ↓k4.e]
  rw [build_ok (bSt2 _ _)]
  refine lcl_k (cs := (St.mk 0 0 0 (bs []) 0 nl [] nl [] nl [] (tkAt l a).line (tkAt l a).col).cells.toArray) zSt _ iSt rfl (st_cells_one rfl rfl rfl) fun w4 hb4 hm4 hz4 => ?_
  have hs2 := hm2.size
  have hm14 := (hm2.trans hm3).trans hm4
  have hm04 := hm1.trans hm14
  have hF : FrS lv l c w w4 w.heap.size w2.heap.size w3.heap.size (tkAt l a) (St.mk 0 0 0 (bs []) 0 nl [] nl [] nl [] (tkAt l a).line (tkAt l a).col) a :=
    ⟨hm14.blk hb1 id, hm4.blk hb3 id, hb4, hw.mod0 hm04, up1 hm04, ⟨Nat.le_refl _, by omega, by omega, blk_lt hw.cur, fun g hg => owns_lt hw.toks hg⟩, ExsOwn.nil _ _, StsOwn.nil _ _, rfl, rfl⟩
  generalize w3.heap.size = b4 at *
  generalize w2.heap.size = b3 at *
  obtain ⟨tf1, tf2, tf3, tf4⟩ := tk_fine hG a
  have hwl := hG.len
  obtain ⟨k0, k1, k2, k3, k4⟩ := tk_fo hF.h3
  simp only [↓k0.e]
  by_cases hk1 : (tkAt l a).kind = 1
  · rw [if_pos hk1] at hr
    split at hr
    · cases hr
    rename_i hmay
    have hmay : mayP l (a + 1) [91] = false := by simpa using hmay
    cases hn1 : needP l (a + 1) [61] with
    | none => rw [hn1] at hr; cases hr
    | some a2 =>
    rw [hn1] at hr
    dsimp only at hr
    obtain ⟨hm1', rfl⟩ := need_some hn1
    cases he : exprTk l n 0 (a + 1 + 1) with
    | none => rw [he] at hr; cases hr
    | some q =>
    obtain ⟨pe, a3⟩ := q
    rw [he] at hr
    dsimp only at hr
    cases hn2 : needP l a3 [59] with
    | none => rw [hn2] at hr; cases hr
    | some a4 =>
    rw [hn2] at hr
    obtain ⟨hm2', rfl⟩ := need_some hn2
    cases hr
    simp only [↓EQt hk1, ↓CDt]
    refine hF.fst (off := 0) ⟨1, 0, 0, bs [], 0, nl, [], nl, [], nl, [], _, _⟩ (by kernel_rfl) (by kernel_rfl) rfl (by omega) rfl ⟨rfl, rfl⟩ ⟨rfl, rfl⟩ ⟨rfl, rfl⟩ fun x w5 hF5 => ?_
    refine hF5.name hG hk1 fun w6 hF6 => ?_
    refine hF6.fst (off := 3) ⟨1, 0, 0, bs (tkAt l a).text, 0, nl, [], nl, [], nl, [], _, _⟩ (by kernel_rfl) (by kernel_rfl) rfl (by omega) rfl ⟨rfl, rfl⟩ ⟨rfl, rfl⟩ ⟨rfl, rfl⟩ fun x w7 hF7 => ?_
    refine hF7.no (s := [91]) hG hmay fun w8 hF8 => ?_
    simp only [↓CDf]
    rw [dispatcherref02_cursor_stmt_R1_eq]
    unfold dispatcherref02_cursor_stmt_R1_F
    simp only [sq_n, sq_x, sq_r, bk_n, bk_r, bk_x, rt_r, rt_n, rs_0, rs_t, pk_1, pk_2, up_at, reduceIte, Nat.reduceEqDiff]
    refine hF8.need (s := [61]) hG hm1' fun v w9 hF9 => ?_
    refine dispatcherref02_cursor_stmt_R10_held (D := []) (fun _ => True) trivial ?_
    unfold dispatcherref02_cursor_stmt_R10_H
    simp only [sq_n, sq_x, sq_r, bk_n, bk_r, bk_x, rt_r, rt_n, rs_0, rs_t, pk_1, pk_2, up_at, reduceIte, Nat.reduceEqDiff]
    refine (hF9.mod0 ((Mod.refl _ w9).drawn (w9.drawn + 1))).add hG he (by simp) rfl fun w10 x v' hF10 her x1 x2 x3 x4 x5 x6 => ?_
    have fin : ∀ ρ : Sl, ρ 0 = pq c → ρ 2 = pq w.heap.size → ρ 4 = pq b4 → _ := fun ρ q0 q2 q4 => hF10.done (ρ := ρ) hG hm2' (pe := ⟨1, 0, 0, bs (tkAt l a).text, 0, nl, [pe], nl, [], nl, [], (tkAt l a).line, (tkAt l a).col⟩) (by rw [St.er_eq]; simp only [St.withE, List.nil_append, List.map_cons, List.map_nil, her]; rfl) (show (St.mk 1 0 0 (bs (tkAt l a).text) 0 v' [x] nl [] nl [] (tkAt l a).line (tkAt l a).col).fine from stF (by decide) (by decide) (by decide) (bs_size tf1) (by decide) tf3 tf4) q0 q2 q4
    exact ⟨fin _ rfl rfl rfl, fin _ rfl rfl rfl, fin _ rfl rfl rfl⟩
  rw [if_neg hk1] at hr
  simp only [↓EQf hk1, ↓CDf]
  split at hr
  · cases hr
  rename_i hif
  have hif : mayP l a [105, 102] = false := by simpa using hif
  refine hF.no (s := [105, 102]) hG hif fun w5 hF5 => ?_
  simp only [↓CDf]
  cases hwh : mayP l a [119, 104, 105, 108, 101] with
  | true =>
    rw [hwh, if_pos rfl] at hr
    refine hF5.yes (s := [119, 104, 105, 108, 101]) hG hwh fun w6 hF6 => ?_
    simp only [↓CDt]
    cases he : exprTk l n 0 (a + 1) with
    | none => rw [he] at hr; cases hr
    | some q =>
    obtain ⟨pe, a3⟩ := q
    rw [he] at hr
    dsimp only at hr
    cases hb : blockP l n a3 with
    | none => rw [hb] at hr; cases hr
    | some q =>
    obtain ⟨pb, a4⟩ := q
    rw [hb] at hr
    cases hr
    refine hF6.fst (off := 0) ⟨4, 0, 0, bs [], 0, nl, [], nl, [], nl, [], _, _⟩ (by kernel_rfl) (by kernel_rfl) rfl (by omega) rfl ⟨rfl, rfl⟩ ⟨rfl, rfl⟩ ⟨rfl, rfl⟩ fun x w7 hF7 => ?_
    refine dispatcherref02_cursor_stmt_R6_held (D := []) (fun _ => True) trivial ?_
    unfold dispatcherref02_cursor_stmt_R6_H
    simp only [sq_n, sq_x, sq_r, bk_n, bk_r, bk_x, rt_r, rt_n, rs_0, rs_t, pk_1, pk_2, up_at, reduceIte, Nat.reduceEqDiff]
    refine (hF7.mod0 ((Mod.refl _ w7).drawn (w7.drawn + 1))).add hG he (by simp) rfl fun w8 x v' hF8 her x1 x2 x3 x4 x5 x6 => ?_
    have fin : ∀ ρ : Sl, ρ 0 = pq c → ρ 2 = pq w.heap.size → ρ 4 = pq b4 → sx fn_ Tryd.prog 141 dispatcherref02_cursor_stmt_R7 (blkK 0 (seqK (sx fn_ Tryd.prog 141 dispatcherref02_cursor_stmt_R0 (retK Tryd.prog [ResultVar.cell 2 62] fun v w' => ∃ e, v = .agg e.cells.toArray ∧ GotS w w' e ⟨4, 0, 0, bs [], 0, nl, [pe], nl, pb, nl, [], (tkAt l a).line, (tkAt l a).col⟩ ∧ PW w' lv l c a4 ∧ Mod (fun i => i = c) w w')) (retK Tryd.prog [ResultVar.cell 2 62] fun v w' => ∃ e, v = .agg e.cells.toArray ∧ GotS w w' e ⟨4, 0, 0, bs [], 0, nl, [pe], nl, pb, nl, [], (tkAt l a).line, (tkAt l a).col⟩ ∧ PW w' lv l c a4 ∧ Mod (fun i => i = c) w w'))) ρ w8 := by
      intro ρ q0 q2 q4
      rw [dispatcherref02_cursor_stmt_R7_eq]
      unfold dispatcherref02_cursor_stmt_R7_F
      rw [q0, q2, q4]
      refine CK_st Tryd.func106 rfl rfl (hB _ _ hb _ hF8.pw) ?_
      rintro v9 w9 ⟨ss, hO9, hss, h9, hm9⟩
      have hF9 := hF8.cur hm9 h9
      have hlt := hF8.ltw
      refine fst_k (off := 6) (by kernel_rfl) (by kernel_rfl) (owns_slice hO9.row) hF9.h4 (by simp [St.cells, St.withE]) (cs' := (St.mk 4 0 0 (bs []) 0 v' [x] v9 ss nl [] (tkAt l a).line (tkAt l a).col).cells.toArray) rfl fun x10 w10 h10 hm10 hz10 => ?_
      have hF10 : FrS lv l c w w10 w.heap.size b3 b4 (tkAt l a) (St.mk 4 0 0 (bs []) 0 v' [x] v9 ss nl [] (tkAt l a).line (tkAt l a).col) a4 := hF9.put hm10 h10 (hF9.ex.off hm10 fun k q => by omega) ((hO9.off hm10 fun k q => by omega).low (by omega)) ⟨rfl, rfl⟩
      simp only [sq_n, sq_x, sq_r, bk_n, bk_r, bk_x, rt_r, rt_n, rs_0, rs_t, pk_1, pk_2, up_at, reduceIte, Nat.reduceEqDiff]
      refine hF10.retS (pe := ⟨4, 0, 0, bs [], 0, nl, [pe], nl, pb, nl, [], (tkAt l a).line, (tkAt l a).col⟩) (by rw [St.er_eq]; simp only [List.map_cons, List.map_nil, her, hss]; rfl) (stF (by decide) (by decide) (by decide) (by decide) (by decide) tf3 tf4) (R := fun v w' => ∃ e, v = .agg e.cells.toArray ∧ GotS w w' e ⟨4, 0, 0, bs [], 0, nl, [pe], nl, pb, nl, [], (tkAt l a).line, (tkAt l a).col⟩ ∧ PW w' lv l c a4 ∧ Mod (fun i => i = c) w w') (fun x => ?_) fun w' hg hp hm => ⟨_, rfl, hg, hp, hm⟩
      exact q2
    exact ⟨fin _ rfl rfl rfl, fin _ rfl rfl rfl, fin _ rfl rfl rfl⟩
  | false =>
    rw [hwh, if_neg (by simp)] at hr
    refine hF5.no (s := [119, 104, 105, 108, 101]) hG hwh fun w6 hF6 => ?_
    simp only [↓CDf]
    cases hfo : mayP l a [102, 111, 114] with
    | true =>
      rw [hfo, if_pos rfl] at hr
      refine hF6.yes (s := [102, 111, 114]) hG hfo fun w7 hF7 => ?_
      simp only [↓CDt]
      split at hr
      rotate_left
      · cases hr
      rename_i hk1'
      cases hn1 : needP l (a + 2) [60] with
      | none => rw [hn1] at hr; cases hr
      | some a1 =>
      rw [hn1] at hr
      dsimp only at hr
      obtain ⟨hm1', ha1⟩ := need_some hn1
      split at hr
      · cases hr
      rename_i hsz
      have hsz : mayP l a1 [115, 105, 122, 101] = false := by simpa using hsz
      split at hr
      rotate_left
      · cases hr
      rename_i hnum
      cases hb : blockP l n (a1 + 1) with
      | none => rw [hb] at hr; cases hr
      | some q =>
      obtain ⟨pb, a4⟩ := q
      rw [hb] at hr
      cases hr
      obtain ⟨uf1, _⟩ := tk_fine hG (a + 1)
      obtain ⟨_, vf2, _⟩ := tk_fine hG a1
      refine hF7.fst (off := 0) ⟨5, 0, 0, bs [], 0, nl, [], nl, [], nl, [], _, _⟩ (by kernel_rfl) (by kernel_rfl) rfl (by omega) rfl ⟨rfl, rfl⟩ ⟨rfl, rfl⟩ ⟨rfl, rfl⟩ fun x w8 hF8 => ?_
      refine hF8.name hG hk1' fun w9 hF9 => ?_
      refine hF9.fst (off := 3) ⟨5, 0, 0, bs (tkAt l (a + 1)).text, 0, nl, [], nl, [], nl, [], _, _⟩ (by kernel_rfl) (by kernel_rfl) rfl (by omega) rfl ⟨rfl, rfl⟩ ⟨rfl, rfl⟩ ⟨rfl, rfl⟩ fun x w10 hF10 => ?_
      refine hF10.need (s := [60]) hG hm1' fun v w11 hF11 => ?_
      rw [← ha1] at hF11
      refine hF11.no (s := [115, 105, 122, 101]) hG hsz fun w12 hF12 => ?_
      simp only [↓VG_u, ↓UG_u, ↓MG_u, ↓NG_u, ↓PG_u, ↓BG_u, ↓CG_u, ↓IG_u, ↓VGtt, ↓VGtf, ↓VGft, ↓VGff, ↓UGtt, ↓UGtf, ↓UGft, ↓UGff, ↓MGtt, ↓MGtf, ↓MGft, ↓MGff, ↓NGtt, ↓NGtf, ↓NGft, ↓NGff, ↓PGtt, ↓PGtf, ↓PGft, ↓PGff, ↓BGtt, ↓BGtf, ↓BGft, ↓BGff, ↓CGtt, ↓CGtf, ↓CGft, ↓CGff, ↓IGtt, ↓IGtf, ↓IGft, ↓IGff, ↓PKt, ↓PKf, ↓CDt, ↓CDf, ↓NOTt, ↓NOTf, ↓NK_ptr]
      refine CK_st Tryd.func85 rfl rfl (number_ok hF12.pw hG hnum.1 hnum.2.1 hnum.2.2) ?_
      rintro _ w13 ⟨rfl, h13, hm13⟩
      have hF13 := hF12.cur hm13 h13
      refine hF13.fst (off := 4) ⟨5, 0, 0, bs (tkAt l (a + 1)).text, (tkAt l a1).num, nl, [], nl, [], nl, [], _, _⟩ (by kernel_rfl) (by kernel_rfl) rfl (by omega) rfl ⟨rfl, rfl⟩ ⟨rfl, rfl⟩ ⟨rfl, rfl⟩ fun x w14 hF14 => ?_
      rw [dispatcherref02_cursor_stmt_R8_eq]
      unfold dispatcherref02_cursor_stmt_R8_F
      simp only [sq_n, sq_x, sq_r, bk_n, bk_r, bk_x, rt_r, rt_n, rs_0, rs_t, pk_1, pk_2, up_at, reduceIte, Nat.reduceEqDiff]
      refine CK_st Tryd.func106 rfl rfl (hB _ _ hb _ hF14.pw) ?_
      rintro v15 w15 ⟨ss, hO15, hss, h15, hm15⟩
      have hF15 := hF14.cur hm15 h15
      have hlt := hF14.ltw
      refine fst_k (off := 6) (by kernel_rfl) (by kernel_rfl) (owns_slice hO15.row) hF15.h4 (by simp [St.cells]) (cs' := (St.mk 5 0 0 (bs (tkAt l (a + 1)).text) (tkAt l a1).num nl [] v15 ss nl [] (tkAt l a).line (tkAt l a).col).cells.toArray) rfl fun x16 w16 h16 hm16 hz16 => ?_
      have hF16 : FrS lv l c w w16 w.heap.size b3 b4 (tkAt l a) (St.mk 5 0 0 (bs (tkAt l (a + 1)).text) (tkAt l a1).num nl [] v15 ss nl [] (tkAt l a).line (tkAt l a).col) a4 := hF15.put hm16 h16 (hF15.ex.off hm16 fun k q => by omega) ((hO15.off hm16 fun k q => by omega).low (by omega)) ⟨rfl, rfl⟩
      refine hF16.retS (pe := ⟨5, 0, 0, bs (tkAt l (a + 1)).text, (tkAt l a1).num, nl, [], nl, pb, nl, [], (tkAt l a).line, (tkAt l a).col⟩) (by rw [St.er_eq]; simp only [List.map_nil, hss]; rfl) (stF (by decide) (by decide) (by decide) (bs_size uf1) vf2 tf3 tf4) (R := fun v w' => ∃ e, v = .agg e.cells.toArray ∧ GotS w w' e ⟨5, 0, 0, bs (tkAt l (a + 1)).text, (tkAt l a1).num, nl, [], nl, pb, nl, [], (tkAt l a).line, (tkAt l a).col⟩ ∧ PW w' lv l c a4 ∧ Mod (fun i => i = c) w w') (fun x => rfl) fun w' hg hp hm => ⟨_, rfl, hg, hp, hm⟩
    | false =>
      rw [hfo, if_neg (by simp)] at hr
      refine hF6.no (s := [102, 111, 114]) hG hfo fun w7 hF7 => ?_
      simp only [↓CDf]
      cases has : mayP l a [97, 115, 115, 101, 114, 116] with
      | true =>
        rw [has, if_pos rfl] at hr
        refine hF7.yes (s := [97, 115, 115, 101, 114, 116]) hG has fun w8 hF8 => ?_
        simp only [↓CDt]
        cases he : exprTk l n 0 (a + 1) with
        | none => rw [he] at hr; cases hr
        | some q =>
        obtain ⟨pe, a3⟩ := q
        rw [he] at hr
        dsimp only at hr
        cases hn2 : needP l a3 [59] with
        | none => rw [hn2] at hr; cases hr
        | some a4 =>
        rw [hn2] at hr
        obtain ⟨hm2', rfl⟩ := need_some hn2
        cases hr
        refine hF8.fst (off := 0) ⟨6, 0, 0, bs [], 0, nl, [], nl, [], nl, [], _, _⟩ (by kernel_rfl) (by kernel_rfl) rfl (by omega) rfl ⟨rfl, rfl⟩ ⟨rfl, rfl⟩ ⟨rfl, rfl⟩ fun x w9 hF9 => ?_
        refine dispatcherref02_cursor_stmt_R9_held (D := []) (fun _ => True) trivial ?_
        unfold dispatcherref02_cursor_stmt_R9_H
        simp only [sq_n, sq_x, sq_r, bk_n, bk_r, bk_x, rt_r, rt_n, rs_0, rs_t, pk_1, pk_2, up_at, reduceIte, Nat.reduceEqDiff]
        refine (hF9.mod0 ((Mod.refl _ w9).drawn (w9.drawn + 1))).add hG he (by simp) rfl fun w10 x v' hF10 her x1 x2 x3 x4 x5 x6 => ?_
        have fin : ∀ ρ : Sl, ρ 0 = pq c → ρ 2 = pq w.heap.size → ρ 4 = pq b4 → _ := fun ρ q0 q2 q4 => hF10.done (ρ := ρ) hG hm2' (pe := ⟨6, 0, 0, bs [], 0, nl, [pe], nl, [], nl, [], (tkAt l a).line, (tkAt l a).col⟩) (by rw [St.er_eq]; simp only [St.withE, List.nil_append, List.map_cons, List.map_nil, her]; rfl) (show (St.mk 6 0 0 (bs []) 0 v' [x] nl [] nl [] (tkAt l a).line (tkAt l a).col).fine from stF (by decide) (by decide) (by decide) (by decide) (by decide) tf3 tf4) q0 q2 q4
        exact ⟨fin _ rfl rfl rfl, fin _ rfl rfl rfl, fin _ rfl rfl rfl⟩
      | false =>
        rw [has, if_neg (by simp)] at hr
        refine hF7.no (s := [97, 115, 115, 101, 114, 116]) hG has fun w8 hF8 => ?_
        simp only [↓CDf]
        split at hr
        · cases hr
        rename_i hst
        have hst : mayP l a [115, 116, 111, 112] = false := by simpa using hst
        refine hF8.no (s := [115, 116, 111, 112]) hG hst fun w9 hF9 => ?_
        simp only [↓CDf]
        split at hr
        rotate_left
        · cases hr
        rename_i hkc
        cases hc : callP l n (callK (tkAt l a).text) (a + 1) with
        | none => rw [hc] at hr; cases hr
        | some q =>
        obtain ⟨es, a3⟩ := q
        rw [hc] at hr
        dsimp only at hr
        cases hn2 : needP l a3 [59] with
        | none => rw [hn2] at hr; cases hr
        | some a4 =>
        rw [hn2] at hr
        obtain ⟨hm2', rfl⟩ := need_some hn2
        cases hr
        have hal := kind_lt (l := l) (a := a) (by rw [hkc.1]; decide)
        have hrng := callK_rng (tkAt l a).text
        obtain ⟨k0, k1, k2, k3, k4⟩ := tk_fo hF9.h3
        simp only [↓VG_u, ↓UG_u, ↓MG_u, ↓NG_u, ↓PG_u, ↓BG_u, ↓CG_u, ↓IG_u, ↓VGtt, ↓VGtf, ↓VGft, ↓VGff, ↓UGtt, ↓UGtf, ↓UGft, ↓UGff, ↓MGtt, ↓MGtf, ↓MGft, ↓MGff, ↓NGtt, ↓NGtf, ↓NGft, ↓NGff, ↓PGtt, ↓PGtf, ↓PGft, ↓PGff, ↓BGtt, ↓BGtf, ↓BGft, ↓BGff, ↓CGtt, ↓CGtf, ↓CGft, ↓CGff, ↓IGtt, ↓IGtf, ↓IGft, ↓IGff, ↓PKt, ↓PKf, ↓CDt, ↓CDf, ↓NOTt, ↓NOTf, ↓NK_ptr, ↓k0.e, ↓EQt hkc.1, ↓k1.e]
        refine CK_st Tryd.func107 rfl rfl (Call_ok _ w9) ?_
        rintro _ w10 ⟨rfl, hm10⟩
        have hF10 := hF9.mod0 hm10
        simp only [↓VG_u, ↓UG_u, ↓MG_u, ↓NG_u, ↓PG_u, ↓BG_u, ↓CG_u, ↓IG_u, ↓VGtt, ↓VGtf, ↓VGft, ↓VGff, ↓UGtt, ↓UGtf, ↓UGft, ↓UGff, ↓MGtt, ↓MGtf, ↓MGft, ↓MGff, ↓NGtt, ↓NGtf, ↓NGft, ↓NGff, ↓PGtt, ↓PGtf, ↓PGft, ↓PGff, ↓BGtt, ↓BGtf, ↓BGft, ↓BGff, ↓CGtt, ↓CGtf, ↓CGft, ↓CGff, ↓IGtt, ↓IGtf, ↓IGft, ↓IGff, ↓PKt, ↓PKf, ↓CDt, ↓CDf, ↓NOTt, ↓NOTf, ↓NK_ptr, ↓GTt hkc.2]
        refine adv2 hF10.pw (by omega) fun x2 x3 x4 x6 w11 h11 hm11 hz11 => ?_
        have hF11 := hF10.cur hm11 h11
        refine hF11.fst (off := 0) ⟨8, 0, 0, bs [], 0, nl, [], nl, [], nl, [], _, _⟩ (by kernel_rfl) (by kernel_rfl) rfl (by omega) rfl ⟨rfl, rfl⟩ ⟨rfl, rfl⟩ ⟨rfl, rfl⟩ fun x w12 hF12 => ?_
        obtain ⟨k0, k1, k2, k3, k4⟩ := tk_fo hF12.h3
        simp only [↓k1.e]
        refine CK_st Tryd.func107 rfl rfl (Call_ok _ w12) ?_
        rintro _ w13 ⟨rfl, hm13⟩
        have hF13 := hF12.mod0 hm13
        refine hF13.fst (off := 1) ⟨8, callK (tkAt l a).text, 0, bs [], 0, nl, [], nl, [], nl, [], _, _⟩ (by kernel_rfl) (by kernel_rfl) rfl (by omega) rfl ⟨rfl, rfl⟩ ⟨rfl, rfl⟩ ⟨rfl, rfl⟩ fun x w14 hF14 => ?_
        refine ldS (cs := (St.mk 8 (callK (tkAt l a).text) 0 (bs []) 0 nl [] nl [] nl [] (tkAt l a).line (tkAt l a).col).cells.toArray) rfl Tryd.underlying62 rfl iSt hF14.h4 ?_
        refine CK_st Tryd.func108 rfl rfl (call_ok hG (s := ⟨8, callK (tkAt l a).text, 0, bs [], 0, nl, [], nl, [], nl, [], _, _⟩) hc rfl rfl rfl rfl hF14.pw) ?_
        rintro _ w15 ⟨v', xs, rfl, hxs, hO15, h15, hm15⟩
        have hF15 := hF14.cur hm15 h15
        have hlt := hF14.ltw
        refine stS (old := (St.mk 8 (callK (tkAt l a).text) 0 (bs []) 0 nl [] nl [] nl [] (tkAt l a).line (tkAt l a).col).cells.toArray) (cs := (St.mk 8 (callK (tkAt l a).text) 0 (bs []) 0 v' xs nl [] nl [] (tkAt l a).line (tkAt l a).col).cells.toArray) rfl rfl iSt rfl (st_cells_one (owns_slice hO15.row) rfl rfl) hF15.h4 fun w16 h16 hm16 hz16 => ?_
        have hF16 : FrS lv l c w w16 w.heap.size b3 b4 (tkAt l a) (St.mk 8 (callK (tkAt l a).text) 0 (bs []) 0 v' xs nl [] nl [] (tkAt l a).line (tkAt l a).col) a3 := hF15.put hm16 h16 ((hO15.off hm16 fun k q => by omega).low (by omega)) (hF15.bd.off hm16 fun k q => by omega) ⟨rfl, rfl⟩
        refine hF16.done hG hm2' (pe := ⟨8, callK (tkAt l a).text, 0, bs [], 0, nl, es, nl, [], nl, [], (tkAt l a).line, (tkAt l a).col⟩) (by rw [St.er_eq]; simp only [List.map_nil, hxs]; rfl) (stF (by decide) (u8_wf hrng.1 (by omega)) (by decide) (by decide) (by decide) tf3 tf4) ?_ ?_ ?_
        · rfl
        · rfl
        · rfl
end
end Go.Proofs.YtbnbcimjapiicaaDoor.Tr
set_option linter.unusedVariables false
set_option linter.unusedSimpArgs false
set_option maxRecDepth 4000
namespace Go.Proofs.YtbnbcimjapiicaaDoor.Tr
open Go Go.X Go.RowKit Go.Proofs.YtbnbcimjapiicaaDoor.XD Go.Proofs.YtbnbcimjapiicaaDoor.XK
section
variable {lv : Value} {l : List Tk} {c : Nat}
theorem block_step (hG : Good l) {n : Nat} (hn : n ≤ 1000) (hS : ∀ m, m ≤ n → StmtC lv l c m) : BlockC lv l c (n + 1) := by
  intro a r hr w hw
  rw [blockP] at hr
  cases hn1 : needP l a [123] with
  | none => rw [hn1] at hr; cases hr
  | some a1 =>
  rw [hn1] at hr
  dsimp only at hr
  obtain ⟨hm1, rfl⟩ := need_some hn1
  have hcw : c < w.heap.size := blk_lt hw.cur
  refine dispatcherref02_cursor_block_calls ?_
  unfold dispatcherref02_cursor_block_F
  refine CK_st Tryd.func86 rfl rfl (need_ok (s := [123]) hw hG hm1) ?_
  rintro _ w1 ⟨h1, hmm1⟩
  have hwl := hG.len
  refine W_loopG dispatcherref02_cursor_block_L0_ok (fun m ρ w' => ∃ (xs : List St) (a5 : Nat), m ≤ n ∧ xs.length + m ≤ n ∧ stmtsP l m (xs.map St.er) a5 = some r ∧ ρ 0 = pq c ∧ StsOwn w' w.heap.size (ρ 3) xs ∧ PW w' lv l c a5 ∧ Mod (fun i => i = c) w w') n
    ⟨[], a + 1, Nat.le_refl n, by simp, hr, rfl, StsOwn.nil _ _, h1, hmm1⟩ ?_
  rintro m ρ w2 ⟨xs, a5, hmn, hxn, hss, q0, hO, hp, hm⟩
  cases m with
  | zero => simp [stmtsP] at hss
  | succ m =>
  rw [stmtsP] at hss
  rw [dispatcherref02_cursor_block_L0_eq]
  unfold dispatcherref02_cursor_block_L0_F
  rw [q0]
  refine CK_st Tryd.func87 rfl rfl (good_ok hp) ?_
  rintro _ w3 ⟨rfl, rfl⟩
  simp only [↓VG_u, ↓UG_u, ↓MG_u, ↓NG_u, ↓PG_u, ↓BG_u, ↓CG_u, ↓IG_u, ↓VGtt, ↓VGtf, ↓VGft, ↓VGff, ↓UGtt, ↓UGtf, ↓UGft, ↓UGff, ↓MGtt, ↓MGtf, ↓MGft, ↓MGff, ↓NGtt, ↓NGtf, ↓NGft, ↓NGff, ↓PGtt, ↓PGtf, ↓PGft, ↓PGff, ↓BGtt, ↓BGtf, ↓BGft, ↓BGff, ↓CGtt, ↓CGtf, ↓CGft, ↓CGff, ↓IGtt, ↓IGtf, ↓IGft, ↓IGff, ↓PKt, ↓PKf, ↓CDt, ↓CDf, ↓NOTt, ↓NOTf, ↓NK_ptr]
  refine CK_st Tryd.func82 rfl rfl (may_ok hp hG [125]) ?_
  rintro _ w4 ⟨rfl, h4, hm4⟩
  have hO4 := hO.ne hm4 hp.cur (by decide) (by decide)
  have hm04 := hm.trans hm4
  cases hmy : mayP l a5 [125] with
  | true =>
    rw [hmy] at h4 hss
    simp only [if_true] at h4 hss
    cases hss
    simp only [↓VG_u, ↓UG_u, ↓MG_u, ↓NG_u, ↓PG_u, ↓BG_u, ↓CG_u, ↓IG_u, ↓VGtt, ↓VGtf, ↓VGft, ↓VGff, ↓UGtt, ↓UGtf, ↓UGft, ↓UGff, ↓MGtt, ↓MGtf, ↓MGft, ↓MGff, ↓NGtt, ↓NGtf, ↓NGft, ↓NGff, ↓PGtt, ↓PGtf, ↓PGft, ↓PGff, ↓BGtt, ↓BGtf, ↓BGft, ↓BGff, ↓CGtt, ↓CGtf, ↓CGft, ↓CGff, ↓IGtt, ↓IGtf, ↓IGft, ↓IGff, ↓PKt, ↓PKf, ↓CDt, ↓CDf, ↓NOTt, ↓NOTf, ↓NK_ptr]
    rw [sq_x, bk_x, sq_n, dispatcherref02_cursor_block_R1_eq]
    unfold dispatcherref02_cursor_block_R1_F
    exact ⟨xs, hO4, rfl, h4, hm04⟩
  | false =>
    rw [hmy] at h4 hss
    simp only [Bool.false_eq_true, if_false] at h4 hss
    cases hst : stmtP l m a5 with
    | none => rw [hst] at hss; cases hss
    | some q =>
    obtain ⟨ps, a6⟩ := q
    rw [hst] at hss
    dsimp only at hss
    simp only [↓VG_u, ↓UG_u, ↓MG_u, ↓NG_u, ↓PG_u, ↓BG_u, ↓CG_u, ↓IG_u, ↓VGtt, ↓VGtf, ↓VGft, ↓VGff, ↓UGtt, ↓UGtf, ↓UGft, ↓UGff, ↓MGtt, ↓MGtf, ↓MGft, ↓MGff, ↓NGtt, ↓NGtf, ↓NGft, ↓NGff, ↓PGtt, ↓PGtf, ↓PGft, ↓PGff, ↓BGtt, ↓BGtf, ↓BGft, ↓BGff, ↓CGtt, ↓CGtf, ↓CGft, ↓CGff, ↓IGtt, ↓IGtf, ↓IGft, ↓IGff, ↓PKt, ↓PKf, ↓CDt, ↓CDf, ↓NOTt, ↓NOTf, ↓NK_ptr]
    refine CK_st Tryd.func88 rfl rfl (hS m (by omega) a5 _ hst _ h4) ?_
    rintro _ w5 ⟨e, rfl, hg, h5, hm5⟩
    have hO5 := hO4.ne hm5 h4.cur (by decide) (by decide)
    have hs4 := hm04.size
    have hs5 := hm5.size
    have hm05 := hm04.trans hm5
    refine snocSt hO5 hg.own (hg.in_.mono fun k hk => ⟨by omega, fun q => by have := owns_lt hO4.row q.symm; omega⟩) (by omega) (by omega) fun y v' w6 hO6 hm6 _ => ?_
    have hrow : ∀ k, (ρ 3).ownBlock = some k → k ≠ c := fun k hk q => owns_ne_blk hO5.row h5.cur (by decide) (by rw [hk, q])
    have htk : ∀ k, lv.ownBlock = some k → some k ≠ (ρ 3).ownBlock := fun k hk q => owns_ne h5.toks hO5.row (by decide) k hk q
    refine ⟨m, Nat.lt_succ_self m, xs ++ [e], a6, by omega, by rw [List.length_append]; simp; omega, ?_, q0, hO6, h5.off2 hm6 (fun q => hrow c q.symm rfl) (fun k hk q => htk k hk q), hm05.then hm6 fun i hi q => ?_⟩
    · rw [List.map_append, List.map_singleton, hg.er]; exact hss
    · have := owns_low hO5.row q.symm
      omega
theorem stmtC_all (hG : Good l) : ∀ n, n ≤ 1000 → StmtC lv l c n ∧ BlockC lv l c n := by
  intro n
  induction n using Nat.strongRecOn with
  | ind n ih =>
    intro hn
    cases n with
    | zero => exact ⟨fun a r h => by simp [stmtP] at h, fun a r h => by simp [blockP] at h⟩
    | succ n => exact ⟨stmt_step hG (ih n (by omega) (by omega)).2, block_step hG (by omega) (fun m hm => (ih m (by omega) (by omega)).1)⟩
theorem stmt_ok (hG : Good l) (n : Nat) (hn : n ≤ 1000) : StmtC lv l c n := (stmtC_all hG n hn).1
end
end Go.Proofs.YtbnbcimjapiicaaDoor.Tr
set_option linter.unusedVariables false
set_option linter.unusedSimpArgs false
set_option maxRecDepth 4000
namespace Go.Proofs.YtbnbcimjapiicaaDoor.Tr
open Go Go.X Go.RowKit Go.Proofs.YtbnbcimjapiicaaDoor.XD Go.Proofs.YtbnbcimjapiicaaDoor.XK
abbrev tD : TypeId := 40
abbrev tP : TypeId := 25
abbrev tW : TypeId := 30
def zPc : Array Value := #[.slice none 0 0, .slice none 0 0]
def zWc : Array Value := #[.int .i64 0, .int .i64 0, .int .i64 0]
theorem zWr' : (Tryd.prog.info? 30).bind (·.zero) = some (.agg zWc) := by kernel_rfl
theorem iWr' : (Tryd.prog.info? 30).map (·.size) = some 3 := by kernel_rfl
structure DsOwn (w : World) (base : Nat) (v : Value) (l : List De) : Prop where
  row : w.ownsRow base tD 4 v l.length (l.flatMap De.cells)
  fine : ∀ a ∈ l, a.fine
theorem DsOwn.mod {S : Nat → Prop} {w w' : World} {base : Nat} {v : Value} {l : List De} (h : DsOwn w base v l) (hm : Mod S w w') (hS : ∀ k, v.ownBlock = some k → ¬ S k) : DsOwn w' base v l := ⟨owns_mod h.row hm hS, h.fine⟩
section
variable {lv : Value} {l : List Tk}
/-- A parser's variables: results, the program. -/
structure FrP (lv : Value) (l : List Tk) (c : Nat) (w0 w : World) (b2 b3 b5 : Nat) (p : Pr) (a : Nat) : Prop where
  h2 : w.heap[b2]? = some (.cells zPc tP (0, 0))
  h3 : w.heap[b3]? = some (.cells zWc tW (0, 0))
  h5 : w.heap[b5]? = some (.cells p.cells.toArray tP (0, 0))
  pw : PW w lv l c a
  m : Mod none_ w0 w
  lo : w0.heap.size ≤ b2 ∧ b2 < b3 ∧ b3 < c ∧ c < b5 ∧ ∀ g, lv.ownBlock = some g → g < w0.heap.size
  d : DsOwn w (b5 + 1) p.ds p.decls
  b : StsOwn w (b5 + 1) p.bs p.body
variable {c : Nat} {w0 w w' : World} {b2 b3 b5 : Nat} {p : Pr} {a : Nat}
theorem FrP.ltw (h : FrP lv l c w0 w b2 b3 b5 p a) : b5 < w.heap.size := blk_lt h.h5
theorem FrP.cur (h : FrP lv l c w0 w b2 b3 b5 p a) {a' : Nat} (hm : Mod (fun i => i = c) w w') (hp : PW w' lv l c a') : FrP lv l c w0 w' b2 b3 b5 p a' := by
  have := h.lo
  exact ⟨hm.blk h.h2 (by omega), hm.blk h.h3 (by omega), hm.blk h.h5 (by omega), hp, h.m.then hm fun i hi q => by omega, h.lo, h.d.mod hm (fun k hk q => by have := owns_low h.d.row hk; omega), h.b.off hm fun k q => by omega⟩
theorem FrP.mod0 (h : FrP lv l c w0 w b2 b3 b5 p a) (hm : Mod none_ w w') : FrP lv l c w0 w' b2 b3 b5 p a := h.cur (up1 hm) (h.pw.mod0 hm)
/-- A block above the program's that is no row of it. -/
theorem FrP.fresh (h : FrP lv l c w0 w b2 b3 b5 p a) {b : Nat} (hm : Mod (fun i => i = b) w w') (hb : b5 < b) (hd : p.ds.ownBlock ≠ some b) (hB : ∀ k, p.bs.ownBlock = some k → k ≠ b) (hB2 : ∀ z ∈ p.body, z.In fun k => k ≠ b) : FrP lv l c w0 w' b2 b3 b5 p a := by
  have := h.lo
  refine ⟨hm.blk h.h2 (by omega), hm.blk h.h3 (by omega), hm.blk h.h5 (by omega), h.pw.off hm fun k q => ⟨by omega, fun g hg => by have := h.lo.2.2.2.2 g hg; omega⟩, h.m.then hm fun i hi q => by omega, h.lo, h.d.mod hm (fun k hk q => hd (by rw [hk, q])), ⟨owns_mod h.b.row hm (fun k hk q => hB k hk q), fun z hz => (h.b.own z hz).mod hm ((hB2 z hz).mono fun k hk q => hk q), h.b.at_⟩⟩
/-- 'p.Body = append(p.Body, c.stmt())', whatever comes first. -/
theorem FrP.addS (h : FrP lv l c w0 w b2 b3 b5 p a) (hG : Good l) {n a' : Nat} {ps : St} (hn : n ≤ 1000) (hst : stmtP l n a = some (ps, a')) (hlen : p.body.length < 1099511627776) {K1 K2 K3 : Value → Value → Value → Value → Value → Value → World → Prop}
    (hK : ∀ (w' : World) (x : St) (v' : Value), FrP lv l c w0 w' b2 b3 b5 ⟨p.ds, p.decls, v', p.body ++ [x]⟩ a' → x.er = ps → ∀ x1 x2 x3 x4 x5 x6, K1 x1 x2 x3 x4 x5 x6 w' ∧ K2 x1 x2 x3 x4 x5 x6 w' ∧ K3 x1 x2 x3 x4 x5 x6 w') :
    HK Tryd.prog (fun _ => True) (do pure (Next.value (← Instr.fieldAt 25 (pq b5) 1))) fun x26 => (VK Tryd.prog (Instr.loadAt 23 x26) w fun x27 w => True ∧ (CK Tryd.prog (.func (.func 88) #[] #[]) [pq c] w fun x29 w => True ∧ (VK Tryd.prog (Instr.buildSlice 23 1 [(0, x29)].toArray) w fun x30 w => True ∧ (IK Tryd.prog .append #[23, 23] 23 [false, false] [x27, x30] w fun x31 w => True ∧ (HK Tryd.prog (fun _ => True) (do pure (Next.value (← Instr.fieldAt 25 (pq b5) 1))) fun x32 => UK Tryd.prog (Instr.storeAt 23 x32 x31) w fun _ w => True ∧ K1 x26 x27 x29 x30 x31 x32 w))))) ∧
      (CK Tryd.prog (.func (.func 88) #[] #[]) [pq c] w fun x29 w => True ∧ ((VK Tryd.prog (Instr.loadAt 23 x26) w fun x27 w => True ∧ (VK Tryd.prog (Instr.buildSlice 23 1 [(0, x29)].toArray) w fun x30 w => True ∧ (IK Tryd.prog .append #[23, 23] 23 [false, false] [x27, x30] w fun x31 w => True ∧ (HK Tryd.prog (fun _ => True) (do pure (Next.value (← Instr.fieldAt 25 (pq b5) 1))) fun x32 => UK Tryd.prog (Instr.storeAt 23 x32 x31) w fun _ w => True ∧ K2 x26 x27 x29 x30 x31 x32 w)))) ∧
        (VK Tryd.prog (Instr.buildSlice 23 1 [(0, x29)].toArray) w fun x30 w => True ∧ (VK Tryd.prog (Instr.loadAt 23 x26) w fun x27 w => True ∧ (IK Tryd.prog .append #[23, 23] 23 [false, false] [x27, x30] w fun x31 w => True ∧ (HK Tryd.prog (fun _ => True) (do pure (Next.value (← Instr.fieldAt 25 (pq b5) 1))) fun x32 => UK Tryd.prog (Instr.storeAt 23 x32 x31) w fun _ w => True ∧ K3 x26 x27 x29 x30 x31 x32 w)))))) := by
  have lo := h.lo
  have hltw := h.ltw
  refine HV_of (fun w' _ => run_fo (off := 1) (by kernel_rfl) _ w') ?_
  have ld : ∀ {w' : World} {K : Value → World → Prop}, w'.heap[b5]? = some (.cells p.cells.toArray tP (0, 0)) → K p.bs w' → VK Tryd.prog (Instr.loadAt 23 (.pointer (some ((⟨b5, 0, none⟩ : Addr).add 1)))) w' K := fun h hk => ld1 uSts rfl (by rw [add_pl, cell_blk h]; rfl) hk
  have ex : ∀ {w' : World} (hm : Mod none_ w w') {K : Value → World → Prop}, (∀ (w2 : World) (x : St), x.er = ps → x.Own w2 tE tS → (x.In fun k => w'.heap.size ≤ k) → FrP lv l c w0 w2 b2 b3 b5 p a' → w'.heap.size ≤ w2.heap.size → K (.agg x.cells.toArray) w2) → CK Tryd.prog (.func (.func 88) #[] #[]) [pq c] w' K := by
    intro w' hm K hk
    refine CK_st Tryd.func88 rfl rfl (stmt_ok hG n hn a _ hst w' (h.pw.mod0 hm)) ?_
    rintro _ w2 ⟨x, rfl, hg, h2, hm2⟩
    exact hk _ _ hg.er hg.own hg.in_ ((h.mod0 hm).cur hm2 h2) hm2.size
  have tail : ∀ {w2 w3 : World} {x : St} {y : Value} {K : Value → Value → World → Prop}, FrP lv l c w0 w2 b2 b3 b5 p a' → w.heap.size ≤ w2.heap.size → Mod none_ w2 w3 → x.er = ps → x.Own w2 tE tS → (x.In fun k => w.heap.size ≤ k ∧ k < w2.heap.size) → reads w3 10 y 1 x.cells → (∀ k, p.bs.ownBlock = some k → k < w.heap.size) →
      (∀ v' w', FrP lv l c w0 w' b2 b3 b5 ⟨p.ds, p.decls, v', p.body ++ [x]⟩ a' → ∀ u, K v' u w') →
      IK Tryd.prog .append #[23, 23] 23 [false, false] [p.bs, y] w3 fun x31 w => True ∧ (HK Tryd.prog (fun _ => True) (do pure (Next.value (← Instr.fieldAt 25 (pq b5) 1))) fun x32 => UK Tryd.prog (Instr.storeAt 23 x32 x31) w fun _ w => True ∧ K x31 x32 w) := by
    intro w2 w3 x y K hF2 hs2 hm23 her hox hix hy hbs hk
    have hF3 := hF2.mod0 hm23
    have hs3 := hm23.size
    refine appSt (m := [x]) hF3.b (by simpa using hy) (by simp) ?_ (by simp; omega) (by omega) fun v' w4 hO4 hm4 hg4 => ⟨trivial, HV_of (fun w' _ => run_fo (off := 1) (by kernel_rfl) _ w') ?_⟩
    · intro z hz
      rw [List.mem_singleton.1 hz]
      exact ⟨hox.mod0 hm23, hix.mono fun k hk => ⟨by omega, fun q => by have := hbs k q.symm; omega⟩⟩
    · have hrow : ∀ k, p.bs.ownBlock = some k → b5 + 1 ≤ k := fun k hk => owns_low hF3.b.row hk
      have hno : ∀ k, k ≤ b5 → ¬ some k = p.bs.ownBlock := fun k hk q => by have := hrow k q.symm; omega
      have hb4 := hm4.blk hF3.h5 (hno b5 (Nat.le_refl _))
      refine stC (b := b5) (o := 0 + 1) (by rw [add_pl]) (by kernel_rfl) (owns_slice hO4.row) hb4 (by simp [Pr.cells]) fun w5 hb5 hm5 hz5 => ⟨trivial, ?_⟩
      have hcs : p.cells.toArray.setIfInBounds (0 + 1) v' = (Pr.cells ⟨p.ds, p.decls, v', p.body ++ [x]⟩).toArray := rfl
      rw [hcs] at hb5
      have hds : ∀ k, p.ds.ownBlock = some k → ¬ some k = p.bs.ownBlock := fun k hk q => owns_ne hF3.d.row hF3.b.row (by decide) k hk q
      refine hk v' w5 ⟨hm5.blk (hm4.blk hF3.h2 (hno _ (by omega))) (by omega), hm5.blk (hm4.blk hF3.h3 (hno _ (by omega))) (by omega), hb5, ?_, ?_, lo, ?_, ?_⟩ _
      · refine (hF3.pw.off2 hm4 (hno _ (by omega)) fun k hk q => ?_).off hm5 fun k q => ⟨by omega, fun g hg => by have := lo.2.2.2.2 g hg; omega⟩
        exact owns_ne hF3.pw.toks hF3.b.row (by decide) k hk q
      · exact (hF3.m.then hm4 fun i hi q => by have := hrow i q.symm; omega).then hm5 fun i hi q => by omega
      · exact (hF3.d.mod hm4 hds).mod hm5 fun k hk q => by have := owns_low hF3.d.row hk; omega
      · exact hO4.off hm5 fun k q => by omega
  have hbs : ∀ k, p.bs.ownBlock = some k → k < w.heap.size := fun k hk => owns_lt h.b.row hk
  have rd : ∀ {w2 w3 : World} {x : St}, w3.heap[w2.heap.size]? = some (.cells x.cells.toArray (Tryd.prog.elem 23) (0, 0)) → reads w3 10 (.slice (some ⟨w2.heap.size, 0, none⟩) 1 1) 1 x.cells := fun h => by simpa using reads_blk (size := 10) (n := 1) h rfl
  constructor
  · refine ld h.h5 ⟨trivial, ?_⟩
    refine ex (Mod.refl _ w) fun w2 x her hox hix hF2 hs2 => ⟨trivial, ?_⟩
    refine bs_k (cs := x.cells.toArray) (by kernel_rfl) fun w3 h3 hm3 hz3 => ⟨trivial, ?_⟩
    exact tail hF2 hs2 hm3 her hox (hix.and hox.lt) (rd h3) hbs fun v' w' hF' u => (hK w' x v' hF' her _ _ _ _ _ _).1
  · refine ex (Mod.refl _ w) fun w2 x her hox hix hF2 hs2 => ⟨trivial, ?_⟩
    constructor
    · refine ld hF2.h5 ⟨trivial, ?_⟩
      refine bs_k (cs := x.cells.toArray) (by kernel_rfl) fun w3 h3 hm3 hz3 => ⟨trivial, ?_⟩
      exact tail hF2 hs2 hm3 her hox (hix.and hox.lt) (rd h3) hbs fun v' w' hF' u => (hK w' x v' hF' her _ _ _ _ _ _).2.1
    · refine bs_k (cs := x.cells.toArray) (by kernel_rfl) fun w3 h3 hm3 hz3 => ⟨trivial, ?_⟩
      refine ld (hF2.mod0 hm3).h5 ⟨trivial, ?_⟩
      exact tail hF2 hs2 hm3 her hox (hix.and hox.lt) (rd h3) hbs fun v' w' hF' u => (hK w' x v' hF' her _ _ _ _ _ _).2.2
end
end Go.Proofs.YtbnbcimjapiicaaDoor.Tr
set_option linter.unusedVariables false
set_option linter.unusedSimpArgs false
set_option maxRecDepth 4000
namespace Go.Proofs.YtbnbcimjapiicaaDoor.Tr
open Go Go.X Go.RowKit Go.Proofs.YtbnbcimjapiicaaDoor.XD Go.Proofs.YtbnbcimjapiicaaDoor.XK
section
variable {lv : Value} {l : List Tk} {c : Nat} {w0 w w' : World} {b2 b3 b5 : Nat} {p : Pr} {a : Nat}
theorem bDe (s : Bs) (x y : Int) : Tryd.prog.built 40 [(0, txt s), (2, .int .i64 x), (3, .int .i64 y)] = some (De.mk (bs s) 0 x y).cells.toArray := by kernel_rfl
theorem deFine (s : Bs) (x y : Int) (h1 : (bs s).size ≤ maxLen) (h2 : (Lit.int .i64 x).wf = true) (h3 : (Lit.int .i64 y).wf = true) : (De.mk (bs s) 0 x y).fine := ⟨h1, (by decide : (Lit.int .i64 0).wf = true), h2, h3⟩
theorem zDe' : (Tryd.prog.info? 40).bind (·.zero) = some (.agg (De.mk (bs []) 0 0 0).cells.toArray) := by kernel_rfl
/-- Words' class is asked for the declaration's end: its sign, the declaration more. -/
theorem decl_end (h : FrP lv l c w0 w b2 b3 b5 p a) (hG : Good l) (hs : mayP l a [59] = true) {b7 : Nat} {d : De} (hd : w.heap[b7]? = some (.cells d.cells.toArray tD (0, 0))) (hf : d.fine) (hb7 : b5 < b7) (hrow : ∀ k, p.ds.ownBlock = some k → k ≠ b7) (hlen : p.decls.length < 1000000) {ρ : Sl} (q4 : ρ 4 = pq c) (q5 : ρ 5 = pq b5) (q7 : ρ 7 = pq b7) {K : Exit → Sl → World → Prop}
    (hK : ∀ w' v' ρ', FrP lv l c w0 w' b2 b3 b5 ⟨v', p.decls ++ [d], p.bs, p.body⟩ (a + 1) → ρ' 0 = ρ 0 → ρ' 4 = pq c → ρ' 5 = pq b5 → ρ' 2 = ρ 2 → ρ' 3 = ρ 3 → K .normal ρ' w') : sx fn_ Tryd.prog 105 dispatcherref02_Parse_R6 K ρ w := by
  have lo := h.lo
  rw [dispatcherref02_Parse_R6_eq]
  unfold dispatcherref02_Parse_R6_F
  rw [q4, q5, q7]
  refine CK_st Tryd.func86 rfl rfl (need_ok (s := [59]) h.pw hG hs) ?_
  rintro _ w1 ⟨h1, hm1⟩
  have hF1 := h.cur hm1 h1
  have hd1 := hm1.blk hd (by omega)
  have f0 : FO Tryd.prog w1 25 0 0 ⟨b5, 0, none⟩ 22 p.ds := FO.blk hF1.h5 (by kernel_rfl) uDes rfl rfl
  simp only [↓f0.e]
  refine ldS (cs := d.cells.toArray) rfl Tryd.underlying40 rfl iDe hd1 ?_
  have hltw := hF1.ltw
  refine snoc (cs := d.cells.toArray) eDes hF1.d.row (by kernel_rfl) rfl (by intro u hu; have := de_one d; rw [Array.all_eq_true_iff_forall_mem] at this; exact this u (by simpa using hu)) (by unfold maxLen; omega) (by omega) (by omega) fun y v' w2 ho2 hm2 _ => ?_
  have hlow : ∀ k, p.ds.ownBlock = some k → b5 + 1 ≤ k := fun k hk => owns_low hF1.d.row hk
  have hno : ∀ k, k ≤ b5 → ¬ some k = p.ds.ownBlock := fun k hk q => by have := hlow k q.symm; omega
  refine fst_k (off := 0) (by kernel_rfl) (by kernel_rfl) (owns_slice ho2) (hm2.blk hF1.h5 (hno _ (Nat.le_refl _))) (by simp [Pr.cells]) (cs' := (Pr.cells ⟨v', p.decls ++ [d], p.bs, p.body⟩).toArray) rfl fun x w3 h3 hm3 hz3 => ?_
  have hdrow : w2.ownsRow (b5 + 1) tD 4 v' (p.decls ++ [d]).length ((p.decls ++ [d]).flatMap De.cells) := by
    rw [List.length_append, List.flatMap_append]; simpa using ho2
  have hbd : ∀ k, p.bs.ownBlock = some k → ¬ some k = p.ds.ownBlock := fun k hk q => owns_ne hF1.b.row hF1.d.row (by decide) k hk q
  have hbd2 : ∀ z ∈ p.body, z.In fun k => ¬ some k = p.ds.ownBlock := by
    intro z hz
    cases hq : p.ds.ownBlock with
    | none => exact (hF1.b.own z hz).lt.mono fun k _ q => by cases q
    | some g =>
      obtain ⟨cur, hcur⟩ := owns_blk hF1.d.row hq
      exact ((hF1.b.own z hz).ne hcur (by decide) (by decide)).mono fun k hk q => hk (by injection q)
  refine hK w3 v' _ ⟨hm3.blk (hm2.blk hF1.h2 (hno _ (by omega))) (by omega), hm3.blk (hm2.blk hF1.h3 (hno _ (by omega))) (by omega), h3, ?_, ?_, lo, ?_, ?_⟩ ?_ ?_ ?_ ?_ ?_
  · refine (hF1.pw.off2 hm2 (hno _ (by omega)) fun k hk q => ?_).off hm3 fun k q => ⟨by omega, fun g hg => by have := lo.2.2.2.2 g hg; omega⟩
    exact owns_ne hF1.pw.toks hF1.d.row (by decide) k hk q
  · exact (hF1.m.then hm2 fun i hi q => by have := hlow i q.symm; omega).then hm3 fun i hi q => by omega
  · refine DsOwn.mod (w := w2) ⟨hdrow, fun z hz => ?_⟩ hm3 fun k hk q => by have := owns_low hdrow hk; omega
    rcases List.mem_append.1 hz with hz | hz
    · exact hF1.d.fine z hz
    · rw [List.mem_singleton.1 hz]; exact hf
  · have hB2 : StsOwn w2 (b5 + 1) p.bs p.body := ⟨owns_mod hF1.b.row hm2 hbd, fun z hz => (hF1.b.own z hz).mod hm2 (hbd2 z hz), hF1.b.at_⟩
    exact hB2.off hm3 fun k q => by omega
  · rfl
  · exact q4
  · exact q5
  · rfl
  · rfl
/-- A declaration, its name told. -/
theorem decl_mid (h : FrP lv l c w0 w b2 b3 b5 p a) (hG : Good l) {m : Nat} {name : Bs} {ln cl : Int} {r : List De × Nat}
    (hr : (if mayP l a [91] then (if (tkAt l (a + 1)).kind = 2 ∧ 1 ≤ (tkAt l (a + 1)).num ∧ (tkAt l (a + 1)).num ≤ 1000 then (match needP l (a + 2) [93] with | none => none | some a1 => match needP l a1 [59] with | none => none | some a2 => declsP l m (p.decls ++ [⟨bs name, (tkAt l (a1 - 2)).num, ln, cl⟩]) a2) else none) else (match needP l a [59] with | none => none | some a1 => declsP l m (p.decls ++ [⟨bs name, 0, ln, cl⟩]) a1)) = some r)
    {b7 : Nat} (hd : w.heap[b7]? = some (.cells (De.mk (bs name) 0 ln cl).cells.toArray tD (0, 0))) (hf : (De.mk (bs name) 0 ln cl).fine) (hb7 : b5 < b7) (hrow : ∀ k, p.ds.ownBlock = some k → k ≠ b7) (hbs : p.bs = nl) (hbd : p.body = []) (hlen : p.decls.length < 1000000) {ρ : Sl} (q4 : ρ 4 = pq c) (q5 : ρ 5 = pq b5) (q7 : ρ 7 = pq b7) {K : Exit → Sl → World → Prop}
    (hK : ∀ w' v' d a' ρ', declsP l m (p.decls ++ [d]) a' = some r → FrP lv l c w0 w' b2 b3 b5 ⟨v', p.decls ++ [d], p.bs, p.body⟩ a' → ρ' 0 = ρ 0 → ρ' 4 = pq c → ρ' 5 = pq b5 → ρ' 2 = ρ 2 → ρ' 3 = ρ 3 → K .normal ρ' w') : sx fn_ Tryd.prog 105 dispatcherref02_Parse_R3 (blkK 1 K) ρ w := by
  have lo := h.lo
  rw [dispatcherref02_Parse_R3_eq]
  unfold dispatcherref02_Parse_R3_F
  rw [q4, q7]
  refine CK_st Tryd.func82 rfl rfl (may_ok h.pw hG [91]) ?_
  rintro _ w1 ⟨rfl, h1, hm1⟩
  cases hmy : mayP l a [91] with
  | true =>
    rw [hmy] at h1 hr
    simp only [if_true] at h1 hr
    split at hr
    rotate_left
    · cases hr
    rename_i hnum
    cases hn1 : needP l (a + 2) [93] with
    | none => rw [hn1] at hr; cases hr
    | some a1 =>
    rw [hn1] at hr
    dsimp only at hr
    obtain ⟨hm1', rfl⟩ := need_some hn1
    cases hn2 : needP l (a + 2 + 1) [59] with
    | none => rw [hn2] at hr; cases hr
    | some a2 =>
    rw [hn2] at hr
    dsimp only at hr
    obtain ⟨hm2', rfl⟩ := need_some hn2
    rw [show a + 2 + 1 - 2 = a + 1 by omega] at hr
    have hF1 := h.cur hm1 h1
    have hd1 := hm1.blk hd (by omega)
    refine condT ?_
    refine CK_st Tryd.func85 rfl rfl (number_ok hF1.pw hG hnum.1 hnum.2.1 hnum.2.2) ?_
    rintro _ w2 ⟨rfl, h2, hm2⟩
    have hF2 := hF1.cur hm2 h2
    refine fst_k (off := 1) (by kernel_rfl) (by kernel_rfl) rfl (hm2.blk hd1 (by omega)) (by simp [De.cells]) (cs' := (De.mk (bs name) (tkAt l (a + 1)).num ln cl).cells.toArray) rfl fun x w3 h3 hm3 hz3 => ?_
    have hF3 := hF2.fresh hm3 hb7 (fun q => hrow b7 q rfl) (fun k hk => by rw [hbs] at hk; simp [nl, Value.ownBlock] at hk) (by rw [hbd]; simp)
    refine CK_st Tryd.func86 rfl rfl (need_ok (s := [93]) hF3.pw hG hm1') ?_
    rintro _ w4 ⟨h4, hm4⟩
    have hF4 := hF3.cur hm4 h4
    obtain ⟨_, vf2, _⟩ := tk_fine hG (a + 1)
    refine decl_end (d := De.mk (bs name) (tkAt l (a + 1)).num ln cl) hF4 hG hm2' (hm4.blk h3 (by omega)) ⟨hf.1, vf2, hf.2.2⟩ hb7 hrow hlen ?_ ?_ ?_ fun w' v' ρ' hF' p0 p4 p5 p2 p3 => ?_
    · exact q4
    · exact q5
    · exact q7
    · rw [bk_n]
      exact hK w' v' _ _ ρ' hr hF' p0 p4 p5 p2 p3
  | false =>
    rw [hmy] at h1 hr
    simp only [Bool.false_eq_true, if_false] at h1 hr
    cases hn1 : needP l a [59] with
    | none => rw [hn1] at hr; cases hr
    | some a1 =>
    rw [hn1] at hr
    dsimp only at hr
    obtain ⟨hm1', rfl⟩ := need_some hn1
    have hF1 := h.cur hm1 h1
    refine condF ?_
    refine decl_end (d := De.mk (bs name) 0 ln cl) hF1 hG hm1' (hm1.blk hd (by omega)) hf hb7 hrow hlen ?_ ?_ ?_ fun w' v' ρ' hF' p0 p4 p5 p2 p3 => ?_
    · exact q4
    · exact q5
    · exact q7
    · rw [bk_n]
      exact hK w' v' _ _ ρ' hr hF' p0 p4 p5 p2 p3
theorem len_tks {A : Option Addr} {n cp : Nat} (cs : List Bool) {w : World} {K : Value → World → Prop} : IK Tryd.prog .len #[92] 3 cs [.slice A n cp] w K = K (.int .i64 n) w := len_sl uTks cs A n cp
theorem hone (p : Pr) (h1 : p.ds.oneCell' = true) (h2 : p.bs.oneCell' = true) : p.cells.toArray.all (·.oneCell') = true := by simp [Pr.cells, h1, h2]
theorem bWrg : Tryd.prog.built tW [(0, .int .i64 20)] = some #[.int .i64 20, .int .i64 0, .int .i64 0] := by kernel_rfl
theorem bWrZ : Tryd.prog.built tW [] = some zWc := by kernel_rfl
theorem iPr' : (Tryd.prog.info? tP).map (·.size) = some 2 := by kernel_rfl
/-- The words are out: what lies there is handed back. -/
theorem parse_last (h : FrP lv l c w0 w b2 b3 b5 p a) (ha : l.length ≤ a) (hdp : St.deepAt p.body 1 ≤ 32) (hf : p.fits) {ρ : Sl} (q0 : ρ 0 = lv) (q4 : ρ 4 = pq c) (q5 : ρ 5 = pq b5) (q2 : ρ 2 = pq b2) (q3 : ρ 3 = pq b3) {A : Option Addr} {cp : Nat} (hlv : lv = .slice A l.length cp) {R : Value → World → Prop}
    (hR : ∀ w', PrOwn w' w0.heap.size p → Mod none_ w0 w' → R (.tuple #[.agg p.cells.toArray, .agg zWc]) w') : sx fn_ Tryd.prog 105 dispatcherref02_Parse_R5 (retK Tryd.prog [ResultVar.cell 2 tP, ResultVar.cell 3 tW] R) ρ w := by
  have lo := h.lo
  rw [dispatcherref02_Parse_R5_eqR]
  unfold dispatcherref02_Parse_R5_FR
  rw [q0, q2, q3, q4, q5, hlv, build_ok bWrg]
  refine lcl_k (cs := #[.int .i64 20, .int .i64 0, .int .i64 0]) zWr' _ iWr' rfl (by kernel_rfl) fun w1 hb1 hm1 hz1 => ?_
  have hF1 := h.mod0 hm1
  refine CK_st Tryd.func87 rfl rfl (good_ok hF1.pw) ?_
  rintro _ w2 ⟨rfl, rfl⟩
  obtain ⟨f0, f1, f2⟩ := cur_fo hF1.pw
  simp only [↓VG_u, ↓UG_u, ↓MG_u, ↓NG_u, ↓PG_u, ↓BG_u, ↓CG_u, ↓IG_u, ↓VGtt, ↓VGtf, ↓VGft, ↓VGff, ↓UGtt, ↓UGtf, ↓UGft, ↓UGff, ↓MGtt, ↓MGtf, ↓MGft, ↓MGff, ↓NGtt, ↓NGtf, ↓NGft, ↓NGff, ↓PGtt, ↓PGtf, ↓PGft, ↓PGff, ↓BGtt, ↓BGtf, ↓BGft, ↓BGff, ↓CGtt, ↓CGtf, ↓CGft, ↓CGff, ↓IGtt, ↓IGtf, ↓IGft, ↓IGff, ↓PKt, ↓PKf, ↓CDt, ↓CDf, ↓NOTt, ↓NOTf, ↓NK_ptr]
  refine CK_st Tryd.func87 rfl rfl (good_ok hF1.pw) ?_
  rintro _ w2 ⟨rfl, rfl⟩
  simp only [↓VG_u, ↓UG_u, ↓MG_u, ↓NG_u, ↓PG_u, ↓BG_u, ↓CG_u, ↓IG_u, ↓VGtt, ↓VGtf, ↓VGft, ↓VGff, ↓UGtt, ↓UGtf, ↓UGft, ↓UGff, ↓MGtt, ↓MGtf, ↓MGft, ↓MGff, ↓NGtt, ↓NGtf, ↓NGft, ↓NGff, ↓PGtt, ↓PGtf, ↓PGft, ↓PGff, ↓BGtt, ↓BGtf, ↓BGft, ↓BGff, ↓CGtt, ↓CGtf, ↓CGft, ↓CGff, ↓IGtt, ↓IGtf, ↓IGft, ↓IGff, ↓PKt, ↓PKf, ↓CDt, ↓CDf, ↓NOTt, ↓NOTf, ↓NK_ptr]
  refine ldS (cs := p.cells.toArray) rfl Tryd.underlying25 rfl iPr' hF1.h5 ?_
  have hO : PrOwn w2 (b5 + 1) p := ⟨hF1.d.row, hF1.d.fine, hF1.b⟩
  refine CK_st Tryd.func57 rfl rfl (DeepR_ok hO.ok hf) ?_
  rintro _ w3 ⟨rfl, hm3⟩
  have hF3 := hF1.mod0 hm3
  have hO3 := hO.mod0 hm3
  simp only [↓VG_u, ↓UG_u, ↓MG_u, ↓NG_u, ↓PG_u, ↓BG_u, ↓CG_u, ↓IG_u, ↓VGtt, ↓VGtf, ↓VGft, ↓VGff, ↓UGtt, ↓UGtf, ↓UGft, ↓UGff, ↓MGtt, ↓MGtf, ↓MGft, ↓MGff, ↓NGtt, ↓NGtf, ↓NGft, ↓NGff, ↓PGtt, ↓PGtf, ↓PGft, ↓PGff, ↓BGtt, ↓BGtf, ↓BGft, ↓BGff, ↓CGtt, ↓CGtf, ↓CGft, ↓CGff, ↓IGtt, ↓IGtf, ↓IGft, ↓IGff, ↓PKt, ↓PKf, ↓CDt, ↓CDf, ↓NOTt, ↓NOTf, ↓NK_ptr, ↓GTf (show ((St.deepAt p.body 1 : Nat) : Int) ≤ 32 by omega)]
  refine ldS (cs := p.cells.toArray) rfl Tryd.underlying25 rfl iPr' hF3.h5 ?_
  rw [build_ok bWrZ]
  refine stS (old := zPc) (cs := p.cells.toArray) rfl rfl iPr' rfl (hone _ (owns_slice hO3.d) (owns_slice hO3.b.row)) hF3.h2 fun w4 h4 hm4 hz4 => ?_
  refine stS (old := zWc) (cs := zWc) rfl rfl iWr' rfl (by kernel_rfl) (hm4.blk hF3.h3 (by omega)) fun w5 h5 hm5 hz5 => ?_
  refine rsCell (R := fun v w' => ∃ x3, (do loadVar tW (← asAddr (pq b3)) : Sem Value).run Tryd.prog w' = .ok x3 w' ∧ R (.tuple #[v, x3]) w') (cs := p.cells.toArray) rfl Tryd.underlying25 rfl iPr' (hm5.blk h4 (by omega)) ?_
  refine rsCell (R := fun x3 w' => R (.tuple #[.agg p.cells.toArray, x3]) w') (cs := zWc) rfl Tryd.underlying30 rfl iWr' h5 ?_
  refine hR _ ?_ ((hF3.m.then hm4 fun i hi q => by omega).then hm5 fun i hi q => by omega)
  have e1 : ∀ {S : Nat → Prop} {u u' : World}, PrOwn u (b5 + 1) p → Mod S u u' → (∀ k, S k → k < b5 + 1) → PrOwn u' (b5 + 1) p := fun hO hm hS => ⟨owns_mod hO.d hm fun k hk q => by have := owns_low hO.d hk; have := hS k q; omega, hO.f, hO.b.off hm hS⟩
  have hO5 := e1 (e1 hO3 hm4 fun k q => by omega) hm5 fun k q => by omega
  exact ⟨owns_base hO5.d (by omega), hO5.f, hO5.b.low (by omega)⟩
/-- The body's statements, one after another. -/
theorem parse_body (hG : Good l) {fuel : Nat} (hfu : fuel ≤ 1000) {ssF : List St} {v : Value} {ds : List De} (h : FrP lv l c w0 w b2 b3 b5 ⟨v, ds, nl, []⟩ a) (hbs : bodyP l fuel (l.length + 1) [] a = some ssF) (hdp : St.deepAt ssF 1 ≤ 32) (hf : Pr.fits ⟨nl, ds, nl, ssF⟩) {ρ : Sl} (q0 : ρ 0 = lv) (q4 : ρ 4 = pq c) (q5 : ρ 5 = pq b5) (q2 : ρ 2 = pq b2) (q3 : ρ 3 = pq b3) {A : Option Addr} {cp : Nat} (hlv : lv = .slice A l.length cp) {R : Value → World → Prop}
    (hR : ∀ w' q, Pr.er q = ⟨nl, ds, nl, ssF⟩ → PrOwn w' w0.heap.size q → Mod none_ w0 w' → R (.tuple #[.agg q.cells.toArray, .agg zWc]) w') : sx fn_ Tryd.prog 105 dispatcherref02_Parse_R1 (retK Tryd.prog [ResultVar.cell 2 tP, ResultVar.cell 3 tW] R) ρ w := by
  subst hlv
  have lo := h.lo
  have hwl := hG.len
  rw [dispatcherref02_Parse_R1_eq]
  unfold dispatcherref02_Parse_R1_F
  refine W_loopG dispatcherref02_Parse_L4_ok (fun m ρ w' => ∃ (v' : Value) (ss : List St) (a : Nat), bodyP l fuel m (ss.map St.er) a = some ssF ∧ ss.length + m ≤ l.length + 1 ∧ ρ 0 = .slice A l.length cp ∧ ρ 4 = pq c ∧ ρ 5 = pq b5 ∧ ρ 2 = pq b2 ∧ ρ 3 = pq b3 ∧ FrP (.slice A l.length cp) l c w0 w' b2 b3 b5 ⟨v, ds, v', ss⟩ a) (l.length + 1)
    ⟨nl, [], a, hbs, by simp, q0, q4, q5, q2, q3, h⟩ ?_
  rintro m ρ w5 ⟨v', ss, a, hbd, hlen, q0, q4, q5, q2, q3, hF5⟩
  cases m with
  | zero => simp [bodyP] at hbd
  | succ m =>
  rw [bodyP] at hbd
  rw [dispatcherref02_Parse_L4_eq]
  unfold dispatcherref02_Parse_L4_F
  rw [q0, q4]
  refine CK_st Tryd.func87 rfl rfl (good_ok hF5.pw) ?_
  rintro _ w6 ⟨rfl, rfl⟩
  obtain ⟨f0, f1, f2⟩ := cur_fo hF5.pw
  by_cases hlt : a < l.length
  · rw [if_pos hlt] at hbd
    cases hst : stmtP l fuel a with
    | none => rw [hst] at hbd; cases hbd
    | some q =>
    obtain ⟨ps, a1⟩ := q
    rw [hst] at hbd
    dsimp only at hbd
    simp only [↓VG_u, ↓UG_u, ↓MG_u, ↓NG_u, ↓PG_u, ↓BG_u, ↓CG_u, ↓IG_u, ↓VGtt, ↓VGtf, ↓VGft, ↓VGff, ↓UGtt, ↓UGtf, ↓UGft, ↓UGff, ↓MGtt, ↓MGtf, ↓MGft, ↓MGff, ↓NGtt, ↓NGtf, ↓NGft, ↓NGff, ↓PGtt, ↓PGtf, ↓PGft, ↓PGff, ↓BGtt, ↓BGtf, ↓BGft, ↓BGff, ↓CGtt, ↓CGtf, ↓CGft, ↓CGff, ↓IGtt, ↓IGtf, ↓IGft, ↓IGff, ↓PKt, ↓PKf, ↓CDt, ↓CDf, ↓NOTt, ↓NOTf, ↓NK_ptr, ↓f1.e, ↓len_tks, ↓LTt (show ((a : Nat) : Int) < (l.length : Int) by omega)]
    have st : ∀ (ρ2 : Sl), ρ2 0 = .slice A l.length cp → ρ2 4 = pq c → ρ2 5 = pq b5 → ρ2 2 = pq b2 → ρ2 3 = pq b3 → ∀ K : Exit → Sl → World → Prop, (∀ ρ' w', (∃ m', m' < m + 1 ∧ ∃ (v' : Value) (ss : List St) (a : Nat), bodyP l fuel m' (ss.map St.er) a = some ssF ∧ ss.length + m' ≤ l.length + 1 ∧ ρ' 0 = .slice A l.length cp ∧ ρ' 4 = pq c ∧ ρ' 5 = pq b5 ∧ ρ' 2 = pq b2 ∧ ρ' 3 = pq b3 ∧ FrP (.slice A l.length cp) l c w0 w' b2 b3 b5 ⟨v, ds, v', ss⟩ a) → K .normal ρ' w') → W fn_ Tryd.prog 105 dispatcherref02_Parse_R7 (blkK 3 K) ρ2 w6 := by
      intro ρ2 p0 p4 p5 p2 p3 K hK
      refine dispatcherref02_Parse_R7_held (D := []) (fun _ => True) trivial ?_
      unfold dispatcherref02_Parse_R7_H
      rw [p5, p4]
      have hd8 : Mod none_ w6 { w6 with drawn := w6.drawn + 1 } := (Mod.refl _ w6).drawn _
      refine (hF5.mod0 hd8).addS hG hfu hst (by show ss.length < _; omega) fun w' x v2 hF' hx => ?_
      have fin : ∀ (ρ' : Sl), ρ' 0 = .slice A l.length cp → ρ' 4 = pq c → ρ' 5 = pq b5 → ρ' 2 = pq b2 → ρ' 3 = pq b3 → blkK 3 K .normal ρ' w' := by
        intro ρ' p0 p4 p5 p2 p3
        exact hK _ _ ⟨m, Nat.lt_succ_self m, v2, ss ++ [x], a1, by rw [List.map_append, List.map_singleton, hx]; exact hbd, by rw [List.length_append]; simp; omega, p0, p4, p5, p2, p3, hF'⟩
      intro x1 x2 x3 x4 x5 x6
      refine ⟨fin _ ?_ ?_ ?_ ?_ ?_, fin _ ?_ ?_ ?_ ?_ ?_, fin _ ?_ ?_ ?_ ?_ ?_⟩
      all_goals first | exact p0 | exact p4 | exact p5 | exact p2 | exact p3
    refine st _ ?_ ?_ ?_ ?_ ?_ _ fun ρ' w' h => h
    · exact q0
    · exact q4
    · exact q5
    · exact q2
    · exact q3
  · rw [if_neg hlt] at hbd
    have hss : ss.map St.er = ssF := by injection hbd
    simp only [↓VG_u, ↓UG_u, ↓MG_u, ↓NG_u, ↓PG_u, ↓BG_u, ↓CG_u, ↓IG_u, ↓VGtt, ↓VGtf, ↓VGft, ↓VGff, ↓UGtt, ↓UGtf, ↓UGft, ↓UGff, ↓MGtt, ↓MGtf, ↓MGft, ↓MGff, ↓NGtt, ↓NGtf, ↓NGft, ↓NGff, ↓PGtt, ↓PGtf, ↓PGft, ↓PGff, ↓BGtt, ↓BGtf, ↓BGft, ↓BGff, ↓CGtt, ↓CGtf, ↓CGft, ↓CGff, ↓IGtt, ↓IGtf, ↓IGft, ↓IGff, ↓PKt, ↓PKf, ↓CDt, ↓CDf, ↓NOTt, ↓NOTf, ↓NK_ptr, ↓f1.e, ↓len_tks, ↓LTf (show ((l.length : Nat) : Int) ≤ (a : Int) by omega)]
    rw [sq_x, bk_x, sq_n]
    have he : Pr.er ⟨v, ds, v', ss⟩ = ⟨nl, ds, nl, ssF⟩ := by rw [← hss]; rfl
    have hfe : Pr.fits ⟨v, ds, v', ss⟩ := by
      refine ⟨hf.1, ?_⟩
      have := hf.2
      rw [← hss] at this
      rw [← St.szL_er]; exact this
    rw [← hss, St.deepAt_er] at hdp
    refine parse_last hF5 (by omega) hdp hfe ?_ ?_ ?_ ?_ ?_ rfl fun w' h1 h2 => hR w' _ he h1 h2
    · exact q0
    · exact q4
    · exact q5
    · exact q2
    · exact q3
theorem Parse_ok {lv : Value} {l : List Tk} (hG : Good l) {fuel : Nat} (hfu : fuel ≤ 1000) {pr : Pr} (hp : parseP l fuel = some pr) (hfit : pr.fits) {w : World} (ht : w.ownsRow 0 tT 5 lv l.length (l.flatMap Tk.cells)) :
    Rt Tryd.prog 65 #[lv] w fun v w' => ∃ q : Pr, v = .tuple #[.agg q.cells.toArray, .agg zWc] ∧ q.er = pr ∧ PrOwn w' w.heap.size q ∧ Mod none_ w w' := by
  unfold parseP at hp
  cases hds : declsP l (l.length + 1) [] 0 with
  | none => rw [hds] at hp; cases hp
  | some q =>
  obtain ⟨dsF, aF⟩ := q
  rw [hds] at hp
  dsimp only at hp
  cases hbs : bodyP l fuel (l.length + 1) [] aF with
  | none => rw [hbs] at hp; cases hp
  | some ssF =>
  rw [hbs] at hp
  dsimp only at hp
  split at hp
  rotate_left
  · cases hp
  rename_i hdeep
  cases hp
  obtain ⟨A, cp, hlv, _⟩ := reads_cap (reads_of_owns ht)
  have hwl := hG.len
  refine dispatcherref02_Parse_calls ?_
  unfold dispatcherref02_Parse_F
  refine al_k (cs := zPc) zPr rfl _ fun w1 hb1 hm1 hz1 => ?_
  refine al_k (cs := zWc) zWr' rfl _ fun w2 hb2 hm2 hz2 => ?_
  rw [build_ok (cs := #[lv, .int .i64 (0 : Nat), .int .i64 (-1)]) (by rw [hlv]; kernel_rfl)]
  refine box_k (cs := #[lv, .int .i64 (0 : Nat), .int .i64 (-1)]) rfl fun w3 hb3 hm3 hz3 => ?_
  refine al_k (cs := zPc) zPr rfl _ fun w4 hb4 hm4 hz4 => ?_
  have hm24 := hm3.trans hm4
  have hm14 := hm2.trans hm24
  have hm04 := hm1.trans hm14
  have hF : FrP lv l w2.heap.size w w4 w.heap.size w1.heap.size w3.heap.size ⟨nl, [], nl, []⟩ 0 :=
    ⟨hm14.blk hb1 id, hm24.blk hb2 id, hb4, ⟨owns_mod ht hm04 fun _ _ => id, hm4.blk hb3 id⟩, hm04, ⟨Nat.le_refl _, by omega, by omega, by omega, fun g hg => owns_lt ht hg⟩, ⟨owns_none _ _ _ _, by simp⟩, StsOwn.nil _ _⟩
  generalize w3.heap.size = b5 at *
  generalize w2.heap.size = c at *
  generalize w1.heap.size = b3 at *
  refine W_loopG dispatcherref02_Parse_L0_ok (fun m ρ w' => ∃ (v : Value) (ds : List De) (a : Nat), declsP l m ds a = some (dsF, aF) ∧ ds.length + m ≤ l.length + 1 ∧ ρ 0 = lv ∧ ρ 4 = pq c ∧ ρ 5 = pq b5 ∧ ρ 2 = pq w.heap.size ∧ ρ 3 = pq b3 ∧ FrP lv l c w w' w.heap.size b3 b5 ⟨v, ds, nl, []⟩ a) (l.length + 1)
    ⟨nl, [], 0, hds, by simp, rfl, rfl, rfl, rfl, rfl, hF⟩ ?_
  rintro m ρ w5 ⟨v, ds, a, hdl, hlen, q0, q4, q5, q2, q3, hF5⟩
  have lo := hF5.lo
  cases m with
  | zero => simp [declsP] at hdl
  | succ m =>
  rw [declsP] at hdl
  rw [dispatcherref02_Parse_L0_eq]
  unfold dispatcherref02_Parse_L0_F
  rw [q4]
  refine CK_st Tryd.func82 rfl rfl (may_ok hF5.pw hG [105, 110, 116]) ?_
  rintro _ w6 ⟨rfl, h6, hm6⟩
  have hF6 := hF5.cur hm6 h6
  cases hmy : mayP l a [105, 110, 116] with
  | true =>
    rw [hmy] at hF6 hdl
    simp only [if_true] at hF6 hdl
    split at hdl
    rotate_left
    · cases hdl
    rename_i hk1
    refine condT ?_
    refine CK_st Tryd.func83 rfl rfl (next_ok hF6.pw hG) ?_
    rintro _ w7 ⟨rfl, hm7⟩
    refine lcl_k (cs := (tkAt l (a + 1)).cells.toArray) zTkg _ iTk rfl (tk_one _) fun w8 hb8 hm8 hz8 => ?_
    have hF8 := hF6.mod0 (hm7.trans hm8)
    have hltw := hF6.ltw
    have hs7 := hm7.size
    obtain ⟨tf1, tf2, tf3, tf4⟩ := tk_fine hG (a + 1)
    obtain ⟨b6, hb6⟩ : ∃ b6, b6 = w7.heap.size := ⟨_, rfl⟩
    rw [← hb6] at hb8 hz8 ⊢
    have hd8 : Mod none_ w8 { w8 with drawn := w8.drawn + 1 } := (Mod.refl _ w8).drawn _
    refine dispatcherref02_Parse_R2_held (D := []) (fun w' => w'.heap[b6]? = some (.cells (tkAt l (a + 1)).cells.toArray tT (0, 0))) hb8 ?_
    unfold dispatcherref02_Parse_R2_H
    simp only [sq_n, sq_x, sq_r, bk_n, bk_r, bk_x, rt_r, rt_n, rs_0, rs_t, pk_1, pk_2, up_at, reduceIte, Nat.reduceEqDiff, q4]
    refine HV_of (fun w' _ => run_fo (off := 3) (by kernel_rfl) _ w') ?_
    refine HV_of (v := .int .i64 (tkAt l (a + 1)).line) (fun w' hw => run_ld1 uI rfl (by rw [add_pl, cell_blk hw]; rfl)) ?_
    refine HV_of (fun w' _ => run_fo (off := 4) (by kernel_rfl) _ w') ?_
    refine HV_of (v := .int .i64 (tkAt l (a + 1)).col) (fun w' hw => run_ld1 uI rfl (by rw [add_pl, cell_blk hw]; rfl)) ?_
    have fin : ∀ (ρ' : Sl) (w9 : World) (b7 : Nat), ρ' 0 = lv → ρ' 4 = pq c → ρ' 5 = pq b5 → ρ' 2 = pq w.heap.size → ρ' 3 = pq b3 → ρ' 7 = pq b7 → FrP lv l c w w9 w.heap.size b3 b5 ⟨v, ds, nl, []⟩ (a + 1 + 1) → w9.heap[b7]? = some (.cells (De.mk (bs (tkAt l (a + 1)).text) 0 (tkAt l (a + 1)).line (tkAt l (a + 1)).col).cells.toArray tD (0, 0)) → b5 < b7 → (∀ k, v.ownBlock = some k → k ≠ b7) →
        ∀ K : Exit → Sl → World → Prop, (∀ ρ2 w10, (∃ m', m' < m + 1 ∧ ∃ (v : Value) (ds : List De) (a : Nat), declsP l m' ds a = some (dsF, aF) ∧ ds.length + m' ≤ l.length + 1 ∧ ρ2 0 = lv ∧ ρ2 4 = pq c ∧ ρ2 5 = pq b5 ∧ ρ2 2 = pq w.heap.size ∧ ρ2 3 = pq b3 ∧ FrP lv l c w w10 w.heap.size b3 b5 ⟨v, ds, nl, []⟩ a) → K .normal ρ2 w10) →
        sx fn_ Tryd.prog 105 dispatcherref02_Parse_R3 (blkK 1 K) ρ' w9 := by
      intro ρ' w9 b7 p0 p4 p5 p2 p3 p7 hF9 hd9 hlt hne K hK
      refine decl_mid (m := m) hF9 hG (r := (dsF, aF)) hdl hd9 (deFine _ _ _ (bs_size tf1) tf3 tf4) hlt hne rfl rfl (by show ds.length < _; omega) p4 p5 p7 fun w' v' d a' ρ2 hd' hF' t0 t4 t5 t2 t3 => ?_
      exact hK _ _ ⟨m, Nat.lt_succ_self m, v', ds ++ [d], a', hd', by rw [List.length_append]; simp; omega, by rw [t0, p0], t4, t5, by rw [t2, p2], by rw [t3, p3], hF'⟩
    have hdr : ∀ k, v.ownBlock = some k → k < w5.heap.size := fun k hk => owns_lt hF5.d.row hk
    have hs6 := hm6.size
    constructor
    · refine CK_st Tryd.func84 rfl rfl (name_ok (hF8.mod0 hd8).pw hG hk1) ?_
      rintro _ w9 ⟨rfl, h9, hm9⟩
      have hF9 := (hF8.mod0 hd8).cur hm9 h9
      have hb9 := hm9.blk (hd8.blk hb8 id) (by omega)
      refine ⟨hb9, HV_of (v := .agg (De.mk (bs (tkAt l (a + 1)).text) 0 (tkAt l (a + 1)).line (tkAt l (a + 1)).col).cells.toArray) (fun w' _ => run_build (P := Tryd.prog) w' _ _ _ (by simpa using bDe _ _ _)) ?_⟩
      refine al_k (cs := (De.mk (bs []) 0 0 0).cells.toArray) zDe' rfl _ fun w10 hb10 hm10 hz10 => ⟨hm10.blk hb9 id, ?_⟩
      have hs9 := hm9.size
      have hs9' : w8.heap.size ≤ w9.heap.size := hs9
      refine stS (old := (De.mk (bs []) 0 0 0).cells.toArray) (cs := (De.mk (bs (tkAt l (a + 1)).text) 0 (tkAt l (a + 1)).line (tkAt l (a + 1)).col).cells.toArray) rfl rfl iDe rfl (de_one _) hb10 fun w11 h11 hm11 hz11 => ⟨hm11.blk (hm10.blk hb9 id) (by omega), ?_⟩
      have hF11 := (hF9.mod0 hm10).fresh hm11 (by omega) (fun q => by have := hdr _ q; omega) (fun k hk => by simp [nl, Value.ownBlock] at hk) (by simp)
      refine fin _ w11 w9.heap.size ?_ ?_ ?_ ?_ ?_ rfl hF11 h11 (by omega) (fun k hk q => by have := hdr k hk; omega) _ (fun ρ2 w12 h => h)
      · exact q0
      · exact q4
      · exact q5
      · exact q2
      · exact q3
    · refine al_k (cs := (De.mk (bs []) 0 0 0).cells.toArray) zDe' rfl _ fun w9 hb9' hm9 hz9 => ⟨hm9.blk (hd8.blk hb8 id) id, ?_⟩
      have hF9 := (hF8.mod0 hd8).mod0 hm9
      refine CK_st Tryd.func84 rfl rfl (name_ok hF9.pw hG hk1) ?_
      rintro _ w10 ⟨rfl, h10, hm10⟩
      have hF10 := hF9.cur hm10 h10
      have hz9' : w9.heap.size = w8.heap.size + 1 := hz9
      have hb10 := hm10.blk (hm9.blk (hd8.blk hb8 id) id) (by omega)
      refine ⟨hb10, HV_of (v := .agg (De.mk (bs (tkAt l (a + 1)).text) 0 (tkAt l (a + 1)).line (tkAt l (a + 1)).col).cells.toArray) (fun w' _ => run_build (P := Tryd.prog) w' _ _ _ (by simpa using bDe _ _ _)) ?_⟩
      have hc8 : c < w8.heap.size := by omega
      refine stS (old := (De.mk (bs []) 0 0 0).cells.toArray) (cs := (De.mk (bs (tkAt l (a + 1)).text) 0 (tkAt l (a + 1)).line (tkAt l (a + 1)).col).cells.toArray) rfl rfl iDe rfl (de_one _) (hm10.blk hb9' (by show w8.heap.size ≠ c; omega)) fun w11 h11 hm11 hz11 => ⟨hm11.blk hb10 (by show b6 ≠ w8.heap.size; omega), ?_⟩
      have hF11 := hF10.fresh hm11 (by show b5 < w8.heap.size; omega) (fun q => by have := hdr _ q; have : w8.heap.size < w5.heap.size := this; omega) (fun k hk => by simp [nl, Value.ownBlock] at hk) (by simp)
      refine fin _ w11 w8.heap.size ?_ ?_ ?_ ?_ ?_ rfl hF11 h11 (by omega) (fun k hk q => by have := hdr k hk; omega) _ (fun ρ2 w12 h => h)
      · exact q0
      · exact q4
      · exact q5
      · exact q2
      · exact q3
  | false =>
    rw [hmy] at hF6 hdl
    simp only [Bool.false_eq_true, if_false] at hF6 hdl
    cases hdl
    refine condF ?_
    rw [sq_x, bk_x, sq_n]
    refine parse_body hG hfu hF6 hbs hdeep hfit ?_ ?_ ?_ ?_ ?_ hlv fun w' q h1 h2 h3 => ⟨q, rfl, h1, h2, h3⟩
    · exact q0
    · exact q4
    · exact q5
    · exact q2
    · exact q3
end
end Go.Proofs.YtbnbcimjapiicaaDoor.Tr
set_option linter.unusedVariables false
set_option linter.unusedSimpArgs false
set_option maxRecDepth 4000
namespace Go.Proofs.YtbnbcimjapiicaaDoor.Tr
open Go Go.X Go.RowKit Go.Proofs.YtbnbcimjapiicaaDoor.XD Go.Proofs.YtbnbcimjapiicaaDoor.XK
theorem Ex.er_er : ∀ e : Ex, e.er.er = e.er := by
  intro e
  induction e using Ex.ind with
  | h e ih =>
    rw [Ex.er_eq e.er, Ex.er_eq e]
    simp only [List.map_map]
    congr 1
    exact List.map_congr_left fun a ha => ih a ha
theorem Ex.er_erL (l : List Ex) : (l.map Ex.er).map Ex.er = l.map Ex.er := by rw [List.map_map]; exact List.map_congr_left fun a _ => Ex.er_er a
theorem St.er_er : ∀ e : St, e.er.er = e.er := by
  intro e
  induction e using St.ind with
  | h e ih ih2 =>
    rw [St.er_eq e.er, St.er_eq e]
    simp only [List.map_map]
    have h1 := Ex.er_erL e.exprs
    rw [List.map_map] at h1
    rw [h1]
    congr 1
    · exact List.map_congr_left fun a ha => ih a ha
    · exact List.map_congr_left fun a ha => ih2 a ha
theorem Pr.er_er (p : Pr) : p.er.er = p.er := by
  unfold Pr.er
  simp only [List.map_map]
  congr 1
  exact List.map_congr_left fun a _ => St.er_er a
theorem bytes_k {src dst e : TypeId} (hs : Tryd.prog.underlying src = some .string) (hd : Tryd.prog.underlying dst = some (.slice e)) (he : Tryd.prog.underlying e = some (.int .u8)) (b : Bs) {w : World} {K : Value → World → Prop} (hk : ∀ v w', reads w' 1 v b.length (b.map byteV) → Mod none_ w w' → K v w') : VK Tryd.prog (convert src dst (.string (bs b))) w K := by
  refine VK_of (run_bytes_of_string w src dst e (bs b) hs hd he) (hk _ _ ?_ (((Mod.refl _ w).drawn _).alloc _))
  have hz : (bs b).size = b.length := by simp [bs, ByteArray.size]
  refine ⟨by simp, some ⟨w.heap.size, 0, none⟩, _, by rw [hz], by rw [← hz]; exact grownCap_ge _ _ _ _, fun j u hu => ⟨_, rfl, ?_⟩⟩
  rw [add_pl, show w.heap.size = w.drew.heap.size from rfl, cell_blk (alloc_new w.drew _)]
  have hj : j < b.length := by
    have := (List.getElem?_eq_some_iff.1 hu).1
    simpa using this
  unfold bytesRow
  rw [Array.getElem?_append_left (by simp [bs]; omega)]
  rw [List.getElem?_map] at hu
  simp [bs, byteV] at hu ⊢
  exact hu
theorem readP_some {b : Bs} {pr : Pr} (h : readP b = some pr) : ∃ l, scanP b = some l ∧ Good l ∧ parseP l 40 = some pr := by
  unfold readP at h
  cases hl : scanP b with
  | none => rw [hl] at h; cases h
  | some l =>
    rw [hl] at h
    dsimp only at h
    split at h
    · rename_i hg
      exact ⟨l, rfl, ⟨by simpa using hg.1, hg.2⟩, h⟩
    · cases h
/-- What a text's tree is asked. -/
theorem got {b : Bs} {f : Pr → Bool} (h : (readP b).any f = true) : ∃ pr, readP b = some pr ∧ f pr = true := by
  cases hr : readP b with
  | none => rw [hr] at h; cases h
  | some pr => rw [hr] at h; exact ⟨pr, rfl, h⟩
def Pr.fitsB (p : Pr) : Bool := decide (p.decls.length ≤ 1099511627776) && decide (St.szL p.body ≤ 1099511627776)
theorem Pr.fits_of {p : Pr} (h : Pr.fitsB p = true) : p.fits := by
  unfold Pr.fitsB at h
  rw [Bool.and_eq_true, decide_eq_true_iff, decide_eq_true_iff] at h
  exact h
theorem PrOwn.off {S : Nat → Prop} {base : Nat} {p : Pr} {u u' : World} (h : PrOwn u base p) (hm : Mod S u u') (hS : ∀ k, S k → k < base) : PrOwn u' base p := ⟨owns_mod h.d hm fun k hk q => by have := owns_low h.d hk; have := hS k q; omega, h.f, h.b.off hm hS⟩
theorem Parse_tx {b : Bs} {pr : Pr} (h : readP b = some pr) (hf : pr.fits) {v : Value} {w : World} (hr : reads w 1 v b.length (b.map byteV)) {K : Value → Value → World → Prop}
    (hk : ∀ x q w', Pr.er q = pr → PrOwn w' w.heap.size q → Mod none_ w w' → K x (.tuple #[.agg q.cells.toArray, .agg zWc]) w') :
    CK Tryd.prog (.func (.func 64) #[] #[]) [v] w fun x w => VK Tryd.prog (Instr.extract x 0) w fun x13 w => VK Tryd.prog (Instr.extract x 1) w fun _ w => VK Tryd.prog (Instr.extract x 2) w fun _ w => VK Tryd.prog (Instr.extract x 3) w fun _ w => CK Tryd.prog (.func (.func 65) #[] #[]) [x13] w fun x19 w => K x13 x19 w := by
  obtain ⟨l, hl, hG, hp⟩ := readP_some h
  refine CK_st Tryd.func64 rfl rfl (Scan_ok hr hl) ?_
  rintro _ w1 ⟨lv, rfl, ho, hm1⟩
  rw [extract_ok (v := lv) rfl, extract_ok (v := .int .i64 0) rfl, extract_ok (v := .int .i64 0) rfl, extract_ok (v := .int .i64 0) rfl]
  refine CK_st Tryd.func65 rfl rfl (Parse_ok hG (fuel := 40) (by decide) hp hf (owns_base ho (Nat.zero_le _))) ?_
  rintro _ w2 ⟨q, rfl, he, hO, hm2⟩
  have := hm1.size
  exact hk _ q _ he ⟨owns_base hO.d this, hO.f, hO.b.low this⟩ (hm1.trans hm2)
theorem oneOk {w : World} {q : Pr} (h : q.Ok w) : q.cells.toArray.all (·.oneCell') = true := by
  obtain ⟨A, c, h1, _⟩ := reads_cap h.d.1
  obtain ⟨A', c', h2, _⟩ := reads_cap h.b.1
  exact hone _ (by rw [h1]; rfl) (by rw [h2]; rfl)
end Go.Proofs.YtbnbcimjapiicaaDoor.Tr
set_option linter.unusedVariables false
set_option linter.unusedSimpArgs false
namespace Go.X
open Go Go.RowKit
structure Ent (κ : Type) where
  k : κ
  v : Value
  b : Nat
section
variable {κ : Type} [DecidableEq κ]
def Ent.enc (enc : κ → Value) (e : Ent κ) : MapEntry := { key := enc e.k, val := e.v, born := e.b }
/-- The first entry of a key, and its place. -/
def findE (k : κ) : List (Ent κ) → Nat → Option (Nat × Value)
  | [], _ => none
  | e :: r, i => if k = e.k then some (i, e.v) else findE k r (i + 1)
/-- What a key type must be for its maps to be read so. -/
structure KeyT (P : Program) (kt : TypeId) (enc : κ → Value) : Prop where
  find : ∀ (k : κ) (l : List (Ent κ)) (w : World), (Instr.findKey kt (enc k) (l.map (Ent.enc enc))).run P w = .ok (findE k l 0) w
  check : ∀ (e : Bool) (k : κ) (w : World), (Instr.checkKey e 10000 kt (enc k)).run P w = .ok () w
  bits : ∀ k : κ, Instr.sameBits 10000 (enc k) (enc k) = true
  inj : ∀ a b : κ, enc a = enc b → a = b
variable {P : Program} {kt : TypeId} {enc : κ → Value}
/-- A map's block. -/
def IsMap (enc : κ → Value) (w : World) (b : Nat) (l : List (Ent κ)) (clock : Nat) : Prop := w.heap[b]? = some (.map (l.map (Ent.enc enc)).toArray clock)
omit [DecidableEq κ] in
theorem IsMap.mod {S : Nat → Prop} {w w' : World} {b : Nat} {l : List (Ent κ)} {c : Nat} (h : IsMap enc w b l c) (hm : Mod S w w') (hS : ¬ S b) : IsMap enc w' b l c := hm.blk h hS
variable (T : KeyT P kt enc) {t e : TypeId} (ht : P.underlying t = some (.map kt e))
include T ht
theorem run_look {w : World} {b : Nat} {l : List (Ent κ)} {c : Nat} (h : IsMap enc w b l c) {z : Value} (hz : (P.info? e).bind (·.zero) = some z) (k : κ) (ok : Bool) :
    (Instr.lookup t (.map (some b)) (enc k) ok).run P w = .ok (match findE k l 0 with | some (_, v) => if ok then .tuple #[v, .bool true] else v | none => if ok then .tuple #[z, .bool false] else z) w := by
  obtain ⟨i, hi, hzz⟩ := Option.bind_eq_some_iff.1 hz
  have hg : (getObj b).run P w = .ok (.map (l.map (Ent.enc enc)).toArray c) w := MapKept.run_getObj_map h
  unfold Instr.lookup
  simp only [Sem.run_bind, run_underlying ht, Result.andThen_ok, hg, Sem.run_pure, T.check, List.toList_toArray, T.find]
  cases findE k l 0 with
  | none => simp [zeroValue, typeInfo, hi, hzz, Sem.run_bind]
  | some p => simp
theorem run_update {w : World} {b : Nat} {l : List (Ent κ)} {c : Nat} (h : IsMap enc w b l c) (k : κ) (v : Value) :
    (Instr.mapUpdate t (.map (some b)) (enc k) v).run P w = .ok () (match findE k l 0 with
      | some (i, _) => setB w b (.map ((l.map (Ent.enc enc)).toArray.modify i fun e => { e with key := enc k, val := v }) c)
      | none => setB w b (.map ((l.map (Ent.enc enc)).toArray.push { key := enc k, val := v, born := c }) (c + 1))) := by
  have hg : (getObj b).run P w = .ok (.map (l.map (Ent.enc enc)).toArray c) w := MapKept.run_getObj_map h
  have hs : ∀ o, (setObj b o).run P w = .ok () (setB w b o) := fun o => MapKept.run_setObj_map o h
  unfold Instr.mapUpdate
  simp only [Sem.run_bind, run_underlying ht, Result.andThen_ok, hg, Sem.run_pure, T.check, List.toList_toArray, T.find]
  cases hf : findE k l 0 with
  | none => simp only [hs]
  | some p =>
    obtain ⟨i, u⟩ := p
    have hk : ∃ e, l[i]? = some e ∧ e.k = k := by
      have gen : ∀ (l : List (Ent κ)) (n : Nat), findE k l n = some (i, u) → ∃ e, n ≤ i ∧ l[i - n]? = some e ∧ e.k = k := by
        intro l
        induction l with
        | nil => intro n h; simp [findE] at h
        | cons e r ih =>
          intro n h
          unfold findE at h
          split at h
          · rename_i hk
            cases h
            exact ⟨e, Nat.le_refl _, by simp, hk.symm⟩
          · obtain ⟨e', h1, h2, h3⟩ := ih (n + 1) h
            refine ⟨e', by omega, ?_, h3⟩
            rw [show i - n = (i - (n + 1)) + 1 by omega]
            simpa using h2
      obtain ⟨e, _, h2, h3⟩ := gen l 0 hf
      exact ⟨e, by simpa using h2, h3⟩
    obtain ⟨e0, he0, rfl⟩ := hk
    have : (l.map (Ent.enc enc)).toArray[i]? = some (e0.enc enc) := by simp [he0]
    simp only [this, Option.map_some, Option.getD_some, Ent.enc, Instr.keyThatStays, T.bits, if_true, Sem.run_bind, Sem.run_pure, Result.andThen_ok, hs]
omit [DecidableEq κ] T ht in
theorem modify_ents (l : List (Ent κ)) (i : Nat) (f : MapEntry → MapEntry) (g : Ent κ → Ent κ) (h : ∀ e, l[i]? = some e → f (e.enc enc) = (g e).enc enc) : (l.map (Ent.enc enc)).toArray.modify i f = ((l.modify i g).map (Ent.enc enc)).toArray := by
  apply Array.ext_getElem?
  intro j
  rw [Array.getElem?_modify]
  simp only [List.getElem?_toArray, List.getElem?_map, List.getElem?_modify]
  by_cases e : i = j
  · subst e
    simp only [if_true]
    cases hl : l[i]? with
    | none => rfl
    | some x => simp [h x hl]
  · simp [e]
omit T ht in
theorem findE_at {k : κ} {l : List (Ent κ)} {i : Nat} {u : Value} (h : findE k l 0 = some (i, u)) : ∃ e, l[i]? = some e ∧ e.k = k ∧ e.v = u := by
  have gen : ∀ (l : List (Ent κ)) (n : Nat), findE k l n = some (i, u) → ∃ e, n ≤ i ∧ l[i - n]? = some e ∧ e.k = k ∧ e.v = u := by
    intro l
    induction l with
    | nil => intro n h; simp [findE] at h
    | cons e r ih =>
      intro n h
      unfold findE at h
      split at h
      · rename_i hk
        cases h
        exact ⟨e, Nat.le_refl _, by simp, hk.symm, rfl⟩
      · obtain ⟨e', h1, h2, h3⟩ := ih (n + 1) h
        refine ⟨e', by omega, ?_, h3⟩
        rw [show i - n = (i - (n + 1)) + 1 by omega]
        simpa using h2
  obtain ⟨e, _, h2, h3⟩ := gen l 0 h
  exact ⟨e, by simpa using h2, h3⟩
omit T ht in
/-- The entries behind a store. -/
def putE (k : κ) (v : Value) (c : Nat) (l : List (Ent κ)) : List (Ent κ) :=
  match findE k l 0 with
  | some (i, _) => l.modify i fun e => ⟨e.k, v, e.b⟩
  | none => l ++ [⟨k, v, c⟩]
def clkE (k : κ) (c : Nat) (l : List (Ent κ)) : Nat := if (findE k l 0).isSome then c else c + 1
theorem run_put {w : World} {b : Nat} {l : List (Ent κ)} {c : Nat} (h : IsMap enc w b l c) (k : κ) (v : Value) :
    ∃ w', (Instr.mapUpdate t (.map (some b)) (enc k) v).run P w = .ok () w' ∧ IsMap enc w' b (putE k v c l) (clkE k c l) ∧ Mod (fun i => i = b) w w' := by
  have hr := run_update T ht h k v
  unfold putE clkE
  cases hf : findE k l 0 with
  | none =>
    rw [hf] at hr
    refine ⟨_, hr, ?_, (Mod.refl _ w).set _ (fun _ => rfl)⟩
    unfold IsMap
    rw [setB_new _ _ _ (X.blk_lt h)]
    simp [Ent.enc]
  | some p =>
    obtain ⟨i, u⟩ := p
    rw [hf] at hr
    refine ⟨_, hr, ?_, (Mod.refl _ w).set _ (fun _ => rfl)⟩
    unfold IsMap
    obtain ⟨e0, he0, hk0, _⟩ := findE_at hf
    rw [setB_new _ _ _ (X.blk_lt h), modify_ents l i _ (fun e => ⟨e.k, v, e.b⟩) (fun e he => by rw [he0] at he; cases he; rw [← hk0]; rfl)]
    rfl
omit [DecidableEq κ] T ht in
omit [DecidableEq κ] T ht in
theorem make_ok (t : TypeId) {w : World} {K : Value → World → Prop} (hk : ∀ w', IsMap enc w' w.heap.size [] 0 → Mod none_ w w' → w'.heap.size = w.heap.size + 1 → K (.map (some w.heap.size)) w') : VK P (Instr.makeMap t none) w K := by
  have hr : (Instr.makeMap t none).run P w = .ok (.map (some w.heap.size)) (w.alloc (.map #[] 0)) := by
    simp [Instr.makeMap, Sem.run_bind]
  exact VK_of hr (new_k w _ hk)
end
end Go.X
set_option linter.unusedVariables false
set_option maxRecDepth 100000
namespace Go.Proofs.YtbnbcimjapiicaaDoor.XG
open Go Go.X
/-- dispatcher/scope.New -/
noncomputable def scope_New_b : Code := (Tryd.f13.body).getD .skip
noncomputable def scope_New_L0 : Code := cAt [1, 1, 1, 0, 1, 0, 0] scope_New_b
noncomputable def scope_New_R1 : Code := cAt [1, 1, 1, 1] scope_New_b
noncomputable def scope_New_R2 : Code := cAt [1, 1, 1, 0, 1, 0, 0, 1, 1, 0, 0, 1, 1, 1, 0, 0] scope_New_b
noncomputable def scope_New_R3 : Code := cAt [1, 1, 1, 0, 1, 0, 0, 1, 1, 0, 0, 1, 1, 1, 0, 1] scope_New_b
noncomputable def scope_New_R4 : Code := cAt [1, 1, 1, 0, 1, 0, 0, 1, 1, 1] scope_New_b
noncomputable def scope_New_R5 : Code := cAt [1, 1, 1, 1, 0, 1, 1, 0, 0] scope_New_b
noncomputable def scope_New_R6 : Code := cAt [1, 1, 1, 1, 0, 1, 1, 0, 1] scope_New_b
noncomputable def scope_New_R7 : Code := cAt [1, 1, 1, 1, 1] scope_New_b
noncomputable def scope_New_L0_F (z : At) (K : Exit → Sl → World → Prop) (ρ : Sl) (w : World) : Prop :=
  BK Tryd.prog BinOp.lss 3 (Operand.tmp 19) (Operand.tmp 18) (ρ 19) (ρ 18) w fun x20 w => CondK x20 (VK Tryd.prog (Instr.indexAt 22 (ρ 17) (ρ 19)) w fun x21 w => VK Tryd.prog (Instr.loadAt 40 x21) w fun x22 w => VK Tryd.prog (Instr.alloc 40 true (.tuple #[])) w fun x6 w => UK Tryd.prog (Instr.storeAt 40 x6 x22) w fun _ w => VK Tryd.prog (Instr.loadAt 40 x6) w fun x24 w => CK Tryd.prog (Value.func (Fn.func 37) #[] #[]) [(ρ 4), x24] w fun x25 w => BK Tryd.prog BinOp.neq 28 (Operand.tmp 26) (Operand.const (Value.int IntKind.i64 0)) x25 (Value.int IntKind.i64 0) w fun x27 w => CondK x27 (W z Tryd.prog 45 scope_New_R2 (seqK (sx z Tryd.prog 45 scope_New_R3 (blkK 1 (seqK (sx z Tryd.prog 45 scope_New_R4 K) K))) (blkK 1 (seqK (sx z Tryd.prog 45 scope_New_R4 K) K))) (up (up (up (up (up (up (up (up (up (up ρ 20 x20) 21 x21) 22 x22) 6 x6) 23 (ρ 4)) 24 x24) 25 x25) 7 x25) 26 x25) 27 x27) w) (BK Tryd.prog BinOp.add 3 (Operand.tmp 19) (Operand.const (Value.int IntKind.i64 1)) (ρ 19) (Value.int IntKind.i64 1) w fun x34 w => K Exit.normal (up (up (up (up (up (up (up (up (up (up (up (up ρ 20 x20) 21 x21) 22 x22) 6 x6) 23 (ρ 4)) 24 x24) 25 x25) 7 x25) 26 x25) 27 x27) 34 x34) 19 x34) w)) (K (Exit.exit 0) (up ρ 20 x20) w)
theorem scope_New_L0_eq (z : At) (K : Exit → Sl → World → Prop) (ρ : Sl) (w : World) : sx z Tryd.prog 45 scope_New_L0 K ρ w = scope_New_L0_F z K ρ w := by kernel_rfl
theorem scope_New_L0_ok : dstOk 45 scope_New_L0 = true := by kernel_rfl
noncomputable def scope_New_R1_F (z : At) (K : Exit → Sl → World → Prop) (ρ : Sl) (w : World) : Prop :=
  VK Tryd.prog (Instr.fieldAt 25 (ρ 1) 1) w fun x36 w => VK Tryd.prog (Instr.loadAt 23 x36) w fun x37 w => CK Tryd.prog (Value.func (Fn.func 38) #[] #[]) [(ρ 4), x37] w fun x38 w => VK Tryd.prog (Instr.alloc 30 true (.tuple #[])) w fun x8 w => UK Tryd.prog (Instr.storeAt 30 x8 x38) w fun _ w => VK Tryd.prog (Instr.fieldAt 30 x8 0) w fun x39 w => VK Tryd.prog (Instr.loadAt 28 x39) w fun x40 w => BK Tryd.prog BinOp.neq 28 (Operand.tmp 40) (Operand.const (Value.int IntKind.i64 0)) x40 (Value.int IntKind.i64 0) w fun x41 w => CondK x41 (W z Tryd.prog 45 scope_New_R5 (seqK (sx z Tryd.prog 45 scope_New_R6 (seqK (sx z Tryd.prog 45 scope_New_R7 K) K)) (seqK (sx z Tryd.prog 45 scope_New_R7 K) K)) (up (up (up (up (up (up (up (up ρ 35 (ρ 4)) 36 x36) 37 x37) 38 x38) 8 x8) 39 x39) 40 x40) 41 x41) w) (VK Tryd.prog (Instr.build 30 [].toArray) w fun x44 w => UK Tryd.prog (Instr.storeAt 30 (ρ 3) x44) w fun _ w => K Exit.ret (up (up (up (up (up (up (up (up (up (up (up ρ 35 (ρ 4)) 36 x36) 37 x37) 38 x38) 8 x8) 39 x39) 40 x40) 41 x41) 43 (ρ 4)) 44 x44) 2 (ρ 4)) w)
theorem scope_New_R1_eq (z : At) (K : Exit → Sl → World → Prop) (ρ : Sl) (w : World) : sx z Tryd.prog 45 scope_New_R1 K ρ w = scope_New_R1_F z K ρ w := by kernel_rfl
noncomputable def scope_New_R2_ops : Array Oper := opsOf scope_New_R2
def scope_New_R2_T (K : Exit → Sl → World → Prop) (ρ : Sl) (w : World) : Prop :=
  let C : World → Prop := fun w' => w' = w; QK Tryd.prog C (do pure (Next.value (← Instr.fieldAt 40 (ρ 6) 2))) fun x29 => QK Tryd.prog C (do pure (Next.value (← Instr.loadAt 3 x29))) fun x30 => QK Tryd.prog C (do pure (Next.value (← Instr.fieldAt 40 (ρ 6) 3))) fun x31 => QK Tryd.prog C (do pure (Next.value (← Instr.loadAt 3 x31))) fun x32 => QK Tryd.prog C (do pure (Next.value (← Instr.build 30 [(0, (ρ 7)), (1, x30), (2, x32)].toArray))) fun x33 => UK Tryd.prog (Instr.storeAt 30 (ρ 3) x33) w fun _ w => K Exit.normal (up (up (up (up (up (up (up ρ 28 (ρ 7)) 29 x29) 30 x30) 31 x31) 32 x32) 33 x33) 2 (Value.pointer none)) w
theorem scope_New_R2_tail {D : List Deferred} {K : Exit → Sl → World → Prop} {ρ : Sl} {w : World} (h : scope_New_R2_T K ρ { w with drawn := w.drawn + 1 }) : W ⟨none, D⟩ Tryd.prog 45 scope_New_R2 K ρ w := by
  have e : scope_New_R2 = .region (idOf scope_New_R2) scope_New_R2_ops true := by kernel_rfl
  have q : sxq Tryd.prog (fun w' => w' = { w with drawn := w.drawn + 1 }) scope_New_R2_ops (fun ρ' => sxL Tryd.prog scope_New_R2_ops (K .normal) (scope_New_R2_ops.toList.drop 7) ρ' { w with drawn := w.drawn + 1 }) (scope_New_R2_ops.toList.take 7) ρ = scope_New_R2_T K ρ { w with drawn := w.drawn + 1 } := by kernel_rfl
  rw [e]
  exact W_tail 7 (by kernel_rfl) (by kernel_rfl) (by kernel_rfl) (by kernel_rfl) (Eq.mpr q h)
noncomputable def scope_New_R3_F (z : At) (K : Exit → Sl → World → Prop) (ρ : Sl) (w : World) : Prop :=
  K Exit.ret ρ w
theorem scope_New_R3_eq (z : At) (K : Exit → Sl → World → Prop) (ρ : Sl) (w : World) : sx z Tryd.prog 45 scope_New_R3 K ρ w = scope_New_R3_F z K ρ w := by kernel_rfl
noncomputable def scope_New_R5_ops : Array Oper := opsOf scope_New_R5
def scope_New_R5_T (K : Exit → Sl → World → Prop) (ρ : Sl) (w : World) : Prop :=
  let C : World → Prop := fun w' => w' = w; QK Tryd.prog C (do pure (Next.value (← Instr.loadAt 30 (ρ 8)))) fun x42 => UK Tryd.prog (Instr.storeAt 30 (ρ 3) x42) w fun _ w => K Exit.normal (up (up ρ 42 x42) 2 (Value.pointer none)) w
theorem scope_New_R5_tail {D : List Deferred} {K : Exit → Sl → World → Prop} {ρ : Sl} {w : World} (h : scope_New_R5_T K ρ { w with drawn := w.drawn + 1 }) : W ⟨none, D⟩ Tryd.prog 45 scope_New_R5 K ρ w := by
  have e : scope_New_R5 = .region (idOf scope_New_R5) scope_New_R5_ops true := by kernel_rfl
  have q : sxq Tryd.prog (fun w' => w' = { w with drawn := w.drawn + 1 }) scope_New_R5_ops (fun ρ' => sxL Tryd.prog scope_New_R5_ops (K .normal) (scope_New_R5_ops.toList.drop 2) ρ' { w with drawn := w.drawn + 1 }) (scope_New_R5_ops.toList.take 2) ρ = scope_New_R5_T K ρ { w with drawn := w.drawn + 1 } := by kernel_rfl
  rw [e]
  exact W_tail 2 (by kernel_rfl) (by kernel_rfl) (by kernel_rfl) (by kernel_rfl) (Eq.mpr q h)
noncomputable def scope_New_R6_F (z : At) (K : Exit → Sl → World → Prop) (ρ : Sl) (w : World) : Prop :=
  K Exit.ret ρ w
theorem scope_New_R6_eq (z : At) (K : Exit → Sl → World → Prop) (ρ : Sl) (w : World) : sx z Tryd.prog 45 scope_New_R6 K ρ w = scope_New_R6_F z K ρ w := by kernel_rfl
noncomputable def scope_New_F (a0 : Value) (w : World) (R : Value → World → Prop) : Prop :=
  VK Tryd.prog (Instr.box 25 a0) w fun x1 w => VK Tryd.prog (Instr.alloc 30 true (.tuple #[])) w fun x3 w => VK Tryd.prog (Instr.loadAt 25 x1) w fun x9 w => CK Tryd.prog (Value.func (Fn.func 29) #[] #[]) [x9] w fun x10 w => VK Tryd.prog (Op.unary UnOp.not x10) w fun x11 w => CondK x11 (VK Tryd.prog (Instr.build 30 [(0, (Value.int IntKind.i64 2))].toArray) w fun x12 w => UK Tryd.prog (Instr.storeAt 30 x3 x12) w fun _ w => ∃ x3_1, (do loadVar 30 (← asAddr x3) : Sem Value).run Tryd.prog w = .ok x3_1 w ∧ R (Value.tuple #[(Value.pointer none), x3_1]) w) (VK Tryd.prog (Instr.makeMap 69 none) w fun x13 w => VK Tryd.prog (Instr.build 71 [(1, x13)].toArray) w fun x14 w => VK Tryd.prog (Instr.box 71 x14) w fun x15 w => VK Tryd.prog (Instr.fieldAt 25 x1 0) w fun x16 w => VK Tryd.prog (Instr.loadAt 22 x16) w fun x17 w => IK Tryd.prog Builtin.len #[22] 3 [false] [x17] w fun x18 w => W fn_ Tryd.prog 45 (Code.loop scope_New_L0) (blkK 0 (seqK (sx fn_ Tryd.prog 45 scope_New_R1 (retK Tryd.prog [ResultVar.tmp 2, ResultVar.cell 3 30] R)) (retK Tryd.prog [ResultVar.tmp 2, ResultVar.cell 3 30] R))) (up (up (up (up (up (up (up (up (up (up (up (up (up (up (rho0 [a0]) 1 x1) 2 (Value.pointer none)) 3 x3) 9 x9) 10 x10) 11 x11) 13 x13) 14 x14) 15 x15) 4 x15) 16 x16) 17 x17) 18 x18) 19 (Value.int IntKind.i64 0)) w)
theorem scope_New_eq (a0 : Value) (w : World) (R : Value → World → Prop) : sx fn_ Tryd.prog 45 scope_New_b (retK Tryd.prog Tryd.f13.results.toList R) (rho0 [a0]) w = scope_New_F a0 w R := by kernel_rfl
theorem scope_New_calls {a0 : Value} {w : World} {R : Value → World → Prop} (h : scope_New_F a0 w R) : Calls Tryd.prog 13 #[a0] w fun e w' => ∃ v, e = .returned v ∧ R v w' :=
  Go.X.calls_of_sx (n := 45) (c := scope_New_b) Tryd.func13 (by kernel_rfl) (by kernel_rfl) (Nat.le_of_ble_eq_true rfl) (by kernel_rfl) (Eq.mpr (scope_New_eq a0 w R) h)
/-- (*dispatcher/scope.Table).Find -/
noncomputable def scope_Table_Find_b : Code := (Tryd.f16.body).getD .skip
noncomputable def scope_Table_Find_F (a0 a1 : Value) (w : World) (R : Value → World → Prop) : Prop :=
  VK Tryd.prog (Instr.alloc 37 true (.tuple #[])) w fun x4 w => BK Tryd.prog BinOp.eql 32 (Operand.tmp 5) (Operand.const (Value.pointer none)) a0 (Value.pointer none) w fun x6 w => CondK x6 (VK Tryd.prog (Instr.build 37 [].toArray) w fun x7 w => UK Tryd.prog (Instr.storeAt 37 x4 x7) w fun _ w => ∃ x4_1, (do loadVar 37 (← asAddr x4) : Sem Value).run Tryd.prog w = .ok x4_1 w ∧ R x4_1 w) (NK Tryd.prog a0 w fun x9 w => VK Tryd.prog (Instr.fieldAt 71 x9 1) w fun x10 w => VK Tryd.prog (Instr.loadAt 69 x10) w fun x11 w => VK Tryd.prog (Instr.lookup 69 x11 a1 false) w fun x13 w => UK Tryd.prog (Instr.storeAt 37 x4 x13) w fun _ w => ∃ x4_2, (do loadVar 37 (← asAddr x4) : Sem Value).run Tryd.prog w = .ok x4_2 w ∧ R x4_2 w)
theorem scope_Table_Find_eq (a0 a1 : Value) (w : World) (R : Value → World → Prop) : sx fn_ Tryd.prog 14 scope_Table_Find_b (retK Tryd.prog Tryd.f16.results.toList R) (rho0 [a0, a1]) w = scope_Table_Find_F a0 a1 w R := by kernel_rfl
theorem scope_Table_Find_calls {a0 a1 : Value} {w : World} {R : Value → World → Prop} (h : scope_Table_Find_F a0 a1 w R) : Calls Tryd.prog 16 #[a0, a1] w fun e w' => ∃ v, e = .returned v ∧ R v w' :=
  Go.X.calls_of_sx (n := 14) (c := scope_Table_Find_b) Tryd.func16 (by kernel_rfl) (by kernel_rfl) (Nat.le_of_ble_eq_true rfl) (by kernel_rfl) (Eq.mpr (scope_Table_Find_eq a0 a1 w R) h)
/-- (*dispatcher/scope.Table).Vars -/
noncomputable def scope_Table_Vars_b : Code := (Tryd.f22.body).getD .skip
noncomputable def scope_Table_Vars_F (a0 : Value) (w : World) (R : Value → World → Prop) : Prop :=
  BK Tryd.prog BinOp.eql 32 (Operand.tmp 3) (Operand.const (Value.pointer none)) a0 (Value.pointer none) w fun x4 w => CondK x4 (R (Value.int IntKind.i64 0) w) (NK Tryd.prog a0 w fun x6 w => VK Tryd.prog (Instr.fieldAt 71 x6 2) w fun x7 w => VK Tryd.prog (Instr.loadAt 3 x7) w fun x8 w => R x8 w)
theorem scope_Table_Vars_eq (a0 : Value) (w : World) (R : Value → World → Prop) : sx fn_ Tryd.prog 9 scope_Table_Vars_b (retK Tryd.prog Tryd.f22.results.toList R) (rho0 [a0]) w = scope_Table_Vars_F a0 w R := by kernel_rfl
theorem scope_Table_Vars_calls {a0 : Value} {w : World} {R : Value → World → Prop} (h : scope_Table_Vars_F a0 w R) : Calls Tryd.prog 22 #[a0] w fun e w' => ∃ v, e = .returned v ∧ R v w' :=
  Go.X.calls_of_sx (n := 9) (c := scope_Table_Vars_b) Tryd.func22 (by kernel_rfl) (by kernel_rfl) (Nat.le_of_ble_eq_true rfl) (by kernel_rfl) (Eq.mpr (scope_Table_Vars_eq a0 w R) h)
/-- (*dispatcher/scope.Table).Arrays -/
noncomputable def scope_Table_Arrays_b : Code := (Tryd.f23.body).getD .skip
noncomputable def scope_Table_Arrays_F (a0 : Value) (w : World) (R : Value → World → Prop) : Prop :=
  BK Tryd.prog BinOp.eql 32 (Operand.tmp 3) (Operand.const (Value.pointer none)) a0 (Value.pointer none) w fun x4 w => CondK x4 (R (Value.slice none 0 0) w) (NK Tryd.prog a0 w fun x6 w => VK Tryd.prog (Instr.fieldAt 71 x6 3) w fun x7 w => VK Tryd.prog (Instr.loadAt 50 x7) w fun x8 w => CK Tryd.prog (Value.func (Fn.func 47) #[] #[]) [x8] w fun x9 w => R x9 w)
theorem scope_Table_Arrays_eq (a0 : Value) (w : World) (R : Value → World → Prop) : sx fn_ Tryd.prog 10 scope_Table_Arrays_b (retK Tryd.prog Tryd.f23.results.toList R) (rho0 [a0]) w = scope_Table_Arrays_F a0 w R := by kernel_rfl
theorem scope_Table_Arrays_calls {a0 : Value} {w : World} {R : Value → World → Prop} (h : scope_Table_Arrays_F a0 w R) : Calls Tryd.prog 23 #[a0] w fun e w' => ∃ v, e = .returned v ∧ R v w' :=
  Go.X.calls_of_sx (n := 10) (c := scope_Table_Arrays_b) Tryd.func23 (by kernel_rfl) (by kernel_rfl) (Nat.le_of_ble_eq_true rfl) (by kernel_rfl) (Eq.mpr (scope_Table_Arrays_eq a0 w R) h)
/-- (*dispatcher/scope.Table).declare -/
noncomputable def scope_Table_declare_b : Code := (Tryd.f37.body).getD .skip
noncomputable def scope_Table_declare_R0 : Code := cAt [1, 0, 0] scope_Table_declare_b
noncomputable def scope_Table_declare_R1 : Code := cAt [1, 0, 1] scope_Table_declare_b
noncomputable def scope_Table_declare_R2 : Code := cAt [1, 1] scope_Table_declare_b
noncomputable def scope_Table_declare_R3 : Code := cAt [1, 1, 1, 1] scope_Table_declare_b
noncomputable def scope_Table_declare_R4 : Code := cAt [1, 1, 1, 0, 1, 0] scope_Table_declare_b
noncomputable def scope_Table_declare_R5 : Code := cAt [1, 1, 1, 1, 1] scope_Table_declare_b
noncomputable def scope_Table_declare_R6 : Code := cAt [1, 1, 1, 1, 0, 0, 1] scope_Table_declare_b
noncomputable def scope_Table_declare_R7 : Code := cAt [1, 1, 1, 1, 1, 0] scope_Table_declare_b
noncomputable def scope_Table_declare_R8 : Code := cAt [1, 1, 1, 1, 1, 1] scope_Table_declare_b
noncomputable def scope_Table_declare_R9 : Code := cAt [1, 1, 1, 1, 0, 0, 1, 1, 1, 1, 0] scope_Table_declare_b
noncomputable def scope_Table_declare_R10 : Code := cAt [1, 1, 1, 1, 0, 0, 1, 1, 1, 1, 1] scope_Table_declare_b
noncomputable def scope_Table_declare_R11 : Code := cAt [1, 1, 1, 1, 1, 1, 0] scope_Table_declare_b
noncomputable def scope_Table_declare_R12 : Code := cAt [1, 1, 1, 1, 1, 1, 1] scope_Table_declare_b
noncomputable def scope_Table_declare_R0_ops : Array Oper := opsOf scope_Table_declare_R0
def scope_Table_declare_R0_Q (C : World → Prop) (K : Exit → Sl → World → Prop) (ρ : Sl) : Prop :=
  QK Tryd.prog C (nilCk (ρ 0)) fun x7 => QK Tryd.prog C (do pure (Next.value (← Instr.fieldAt 71 x7 1))) fun x8 => QK Tryd.prog C (do pure (Next.value (← Instr.loadAt 69 x8))) fun x9 => QK Tryd.prog C (do pure (Next.value (← Instr.fieldAt 40 (ρ 3) 0))) fun x10 => QK Tryd.prog C (do pure (Next.value (← Instr.loadAt 9 x10))) fun x11 => QK Tryd.prog C (do pure (Next.value (← Instr.lookup 69 x9 x11 false))) fun x12 => QK Tryd.prog C (do pure (Next.value (← Instr.build 37 [].toArray))) fun x13 => QK Tryd.prog C (do pure (Next.value (← (do eqGuard BinOp.neq 37 (Operand.tmp 12) (Operand.tmp 13) x12 x13; binOp BinOp.neq 37 x12 x13)))) fun x14 => ∀ w', C w' → K Exit.normal (up (up (up (up (up (up (up (up (up ρ 6 (ρ 0)) 7 x7) 8 x8) 9 x9) 10 x10) 11 x11) 12 x12) 13 x13) 14 x14) w'
theorem scope_Table_declare_R0_quiet {D : List Deferred} (C : World → Prop) {K : Exit → Sl → World → Prop} {ρ : Sl} {w : World} (hC : C { w with drawn := w.drawn + 1 }) (h : scope_Table_declare_R0_Q C K ρ) : W ⟨none, D⟩ Tryd.prog 101 scope_Table_declare_R0 K ρ w := by
  have e : scope_Table_declare_R0 = .region (idOf scope_Table_declare_R0) scope_Table_declare_R0_ops true := by kernel_rfl
  have q : sxq Tryd.prog C scope_Table_declare_R0_ops (fun ρ' => ∀ w', C w' → K .normal ρ' w') scope_Table_declare_R0_ops.toList ρ = scope_Table_declare_R0_Q C K ρ := by kernel_rfl
  rw [e]
  exact W_quiet C (by kernel_rfl) (by kernel_rfl) (by kernel_rfl) hC (Eq.mpr q h)
noncomputable def scope_Table_declare_R1_F (z : At) (K : Exit → Sl → World → Prop) (ρ : Sl) (w : World) : Prop :=
  CondK (ρ 14) (K Exit.ret (up ρ 4 (Value.int IntKind.i64 40)) w) (K Exit.normal ρ w)
theorem scope_Table_declare_R1_eq (z : At) (K : Exit → Sl → World → Prop) (ρ : Sl) (w : World) : sx z Tryd.prog 101 scope_Table_declare_R1 K ρ w = scope_Table_declare_R1_F z K ρ w := by kernel_rfl
noncomputable def scope_Table_declare_R2_F (z : At) (K : Exit → Sl → World → Prop) (ρ : Sl) (w : World) : Prop :=
  NK Tryd.prog (ρ 0) w fun x16 w => VK Tryd.prog (Instr.fieldAt 71 x16 2) w fun x17 w => VK Tryd.prog (Instr.loadAt 3 x17) w fun x18 w => VK Tryd.prog (Instr.build 37 [(0, (Value.int IntKind.u8 1)), (1, x18)].toArray) w fun x19 w => VK Tryd.prog (Instr.alloc 37 true (.tuple #[])) w fun x5 w => UK Tryd.prog (Instr.storeAt 37 x5 x19) w fun _ w => VK Tryd.prog (Instr.fieldAt 40 (ρ 3) 1) w fun x20 w => VK Tryd.prog (Instr.loadAt 3 x20) w fun x21 w => BK Tryd.prog BinOp.gtr 3 (Operand.tmp 21) (Operand.const (Value.int IntKind.i64 0)) x21 (Value.int IntKind.i64 0) w fun x22 w => CondK x22 (W z Tryd.prog 101 scope_Table_declare_R4 (seqK (sx z Tryd.prog 101 scope_Table_declare_R3 K) K) (up (up (up (up (up (up (up (up (up ρ 15 (ρ 0)) 16 x16) 17 x17) 18 x18) 19 x19) 5 x5) 20 x20) 21 x21) 22 x22) w) (sx z Tryd.prog 101 scope_Table_declare_R3 K (up (up (up (up (up (up (up (up (up ρ 15 (ρ 0)) 16 x16) 17 x17) 18 x18) 19 x19) 5 x5) 20 x20) 21 x21) 22 x22) w)
theorem scope_Table_declare_R2_eq (z : At) (K : Exit → Sl → World → Prop) (ρ : Sl) (w : World) : sx z Tryd.prog 101 scope_Table_declare_R2 K ρ w = scope_Table_declare_R2_F z K ρ w := by kernel_rfl
noncomputable def scope_Table_declare_R3_F (z : At) (K : Exit → Sl → World → Prop) (ρ : Sl) (w : World) : Prop :=
  VK Tryd.prog (Instr.fieldAt 37 (ρ 5) 0) w fun x56 w => VK Tryd.prog (Instr.loadAt 5 x56) w fun x57 w => BK Tryd.prog BinOp.eql 5 (Operand.tmp 57) (Operand.const (Value.int IntKind.u8 1)) x57 (Value.int IntKind.u8 1) w fun x58 w => MG Tryd.prog x58 true (ρ 0) w fun x60 w => NG Tryd.prog x58 true x60 w fun x61 w => VG Tryd.prog x58 true (Instr.fieldAt 71 x61 2) w fun x62 w => VG Tryd.prog x58 true (Instr.loadAt 3 x62) w fun x63 w => BG Tryd.prog x58 true BinOp.eql 3 (Operand.tmp 63) (Operand.const (Value.int IntKind.i64 64)) x63 (Value.int IntKind.i64 64) w fun x64 w => PK Tryd.prog x58 x64 (Value.bool false) w fun x65 w => CondK x65 (sx z Tryd.prog 101 scope_Table_declare_R6 (blkK 0 (seqK (sx z Tryd.prog 101 scope_Table_declare_R5 K) K)) (up (up (up (up (up (up (up (up (up (up (up ρ 56 x56) 57 x57) 58 x58) 59 x58) 60 x60) 61 x61) 62 x62) 63 x63) 64 x64) 65 x65) 55 x65) w) (VK Tryd.prog (Instr.fieldAt 37 (ρ 5) 2) w fun x66 w => VK Tryd.prog (Instr.loadAt 3 x66) w fun x67 w => VK Tryd.prog (Instr.fieldAt 37 (ρ 5) 3) w fun x68 w => VK Tryd.prog (Instr.loadAt 3 x68) w fun x69 w => BK Tryd.prog BinOp.add 3 (Operand.tmp 67) (Operand.tmp 69) x67 x69 w fun x70 w => BK Tryd.prog BinOp.gtr 3 (Operand.tmp 70) (Operand.const (Value.int IntKind.i64 1000)) x70 (Value.int IntKind.i64 1000) w fun x71 w => sx z Tryd.prog 101 scope_Table_declare_R6 (blkK 0 (seqK (sx z Tryd.prog 101 scope_Table_declare_R5 K) K)) (up (up (up (up (up (up (up (up (up (up (up (up (up (up (up (up (up (up ρ 56 x56) 57 x57) 58 x58) 59 x58) 60 x60) 61 x61) 62 x62) 63 x63) 64 x64) 65 x65) 55 x65) 66 x66) 67 x67) 68 x68) 69 x69) 70 x70) 71 x71) 55 x71) w)
theorem scope_Table_declare_R3_eq (z : At) (K : Exit → Sl → World → Prop) (ρ : Sl) (w : World) : sx z Tryd.prog 101 scope_Table_declare_R3 K ρ w = scope_Table_declare_R3_F z K ρ w := by kernel_rfl
noncomputable def scope_Table_declare_R4_ops : Array Oper := opsOf scope_Table_declare_R4
def scope_Table_declare_R4_T (K : Exit → Sl → World → Prop) (ρ : Sl) (w : World) : Prop :=
  let C : World → Prop := fun w' => w' = w; QK Tryd.prog C (nilCk (ρ 0)) fun x24 => QK Tryd.prog C (do pure (Next.value (← Instr.fieldAt 71 x24 3))) fun x25 => QK Tryd.prog C (do pure (Next.value (← Instr.loadAt 50 x25))) fun x26 => QK Tryd.prog C (builtin Builtin.len #[50] 3 [false].toArray [x26].toArray) fun x27 => QK Tryd.prog C (nilCk (ρ 0)) fun x29 => QK Tryd.prog C (do pure (Next.value (← Instr.fieldAt 71 x29 4))) fun x30 => QK Tryd.prog C (do pure (Next.value (← Instr.loadAt 3 x30))) fun x31 => QK Tryd.prog C (do pure (Next.value (← Instr.fieldAt 40 (ρ 3) 1))) fun x32 => QK Tryd.prog C (do pure (Next.value (← Instr.loadAt 3 x32))) fun x33 => VK Tryd.prog (Instr.build 37 [(0, (Value.int IntKind.u8 2)), (1, x27), (2, x31), (3, x33)].toArray) w fun x34 w => UK Tryd.prog (Instr.storeAt 37 (ρ 5) x34) w fun _ w => K Exit.normal (up (up (up (up (up (up (up (up (up (up (up (up ρ 23 (ρ 0)) 24 x24) 25 x25) 26 x26) 27 x27) 28 (ρ 0)) 29 x29) 30 x30) 31 x31) 32 x32) 33 x33) 34 x34) w
theorem scope_Table_declare_R4_tail {D : List Deferred} {K : Exit → Sl → World → Prop} {ρ : Sl} {w : World} (h : scope_Table_declare_R4_T K ρ { w with drawn := w.drawn + 1 }) : W ⟨none, D⟩ Tryd.prog 101 scope_Table_declare_R4 K ρ w := by
  have e : scope_Table_declare_R4 = .region (idOf scope_Table_declare_R4) scope_Table_declare_R4_ops true := by kernel_rfl
  have q : sxq Tryd.prog (fun w' => w' = { w with drawn := w.drawn + 1 }) scope_Table_declare_R4_ops (fun ρ' => sxL Tryd.prog scope_Table_declare_R4_ops (K .normal) (scope_Table_declare_R4_ops.toList.drop 11) ρ' { w with drawn := w.drawn + 1 }) (scope_Table_declare_R4_ops.toList.take 11) ρ = scope_Table_declare_R4_T K ρ { w with drawn := w.drawn + 1 } := by kernel_rfl
  rw [e]
  exact W_tail 11 (by kernel_rfl) (by kernel_rfl) (by kernel_rfl) (by kernel_rfl) (Eq.mpr q h)
noncomputable def scope_Table_declare_R5_F (z : At) (K : Exit → Sl → World → Prop) (ρ : Sl) (w : World) : Prop :=
  W z Tryd.prog 101 scope_Table_declare_R7 (seqK (sx z Tryd.prog 101 scope_Table_declare_R8 K) K) ρ w
theorem scope_Table_declare_R5_eq (z : At) (K : Exit → Sl → World → Prop) (ρ : Sl) (w : World) : sx z Tryd.prog 101 scope_Table_declare_R5 K ρ w = scope_Table_declare_R5_F z K ρ w := by kernel_rfl
noncomputable def scope_Table_declare_R6_F (z : At) (K : Exit → Sl → World → Prop) (ρ : Sl) (w : World) : Prop :=
  CondK (ρ 55) (K Exit.ret (up ρ 4 (Value.int IntKind.i64 4)) w) (VK Tryd.prog (Instr.fieldAt 37 (ρ 5) 0) w fun x73 w => VK Tryd.prog (Instr.loadAt 5 x73) w fun x74 w => BK Tryd.prog BinOp.eql 5 (Operand.tmp 74) (Operand.const (Value.int IntKind.u8 1)) x74 (Value.int IntKind.u8 1) w fun x75 w => CondK x75 (NK Tryd.prog (ρ 0) w fun x77 w => VK Tryd.prog (Instr.fieldAt 71 x77 2) w fun x78 w => VK Tryd.prog (Instr.loadAt 3 x78) w fun x79 w => BK Tryd.prog BinOp.add 3 (Operand.tmp 79) (Operand.const (Value.int IntKind.i64 1)) x79 (Value.int IntKind.i64 1) w fun x80 w => NK Tryd.prog (ρ 0) w fun x81 w => VK Tryd.prog (Instr.fieldAt 71 x81 2) w fun x82 w => UK Tryd.prog (Instr.storeAt 3 x82 x80) w fun _ w => K Exit.normal (up (up (up (up (up (up (up (up (up (up (up ρ 73 x73) 74 x74) 75 x75) 72 x75) 76 (ρ 0)) 77 x77) 78 x78) 79 x79) 80 x80) 81 x81) 82 x82) w) (W z Tryd.prog 101 scope_Table_declare_R9 (seqK (sx z Tryd.prog 101 scope_Table_declare_R10 K) K) (up (up (up (up ρ 73 x73) 74 x74) 75 x75) 72 x75) w))
theorem scope_Table_declare_R6_eq (z : At) (K : Exit → Sl → World → Prop) (ρ : Sl) (w : World) : sx z Tryd.prog 101 scope_Table_declare_R6 K ρ w = scope_Table_declare_R6_F z K ρ w := by kernel_rfl
noncomputable def scope_Table_declare_R7_ops : Array Oper := opsOf scope_Table_declare_R7
def scope_Table_declare_R7_T (K : Exit → Sl → World → Prop) (ρ : Sl) (w : World) : Prop :=
  let C : World → Prop := fun w' => w' = w; QK Tryd.prog C (nilCk (ρ 0)) fun x84 => QK Tryd.prog C (do pure (Next.value (← Instr.fieldAt 71 x84 1))) fun x85 => QK Tryd.prog C (do pure (Next.value (← Instr.loadAt 69 x85))) fun x86 => QK Tryd.prog C (do pure (Next.value (← Instr.fieldAt 40 (ρ 3) 0))) fun x87 => QK Tryd.prog C (do pure (Next.value (← Instr.loadAt 9 x87))) fun x88 => QK Tryd.prog C (do pure (Next.value (← Instr.loadAt 37 (ρ 5)))) fun x89 => UK Tryd.prog (Instr.mapUpdate 69 x86 x88 x89) w fun _ w => K Exit.normal (up (up (up (up (up (up (up ρ 83 (ρ 0)) 84 x84) 85 x85) 86 x86) 87 x87) 88 x88) 89 x89) w
theorem scope_Table_declare_R7_tail {D : List Deferred} {K : Exit → Sl → World → Prop} {ρ : Sl} {w : World} (h : scope_Table_declare_R7_T K ρ { w with drawn := w.drawn + 1 }) : W ⟨none, D⟩ Tryd.prog 101 scope_Table_declare_R7 K ρ w := by
  have e : scope_Table_declare_R7 = .region (idOf scope_Table_declare_R7) scope_Table_declare_R7_ops true := by kernel_rfl
  have q : sxq Tryd.prog (fun w' => w' = { w with drawn := w.drawn + 1 }) scope_Table_declare_R7_ops (fun ρ' => sxL Tryd.prog scope_Table_declare_R7_ops (K .normal) (scope_Table_declare_R7_ops.toList.drop 7) ρ' { w with drawn := w.drawn + 1 }) (scope_Table_declare_R7_ops.toList.take 7) ρ = scope_Table_declare_R7_T K ρ { w with drawn := w.drawn + 1 } := by kernel_rfl
  rw [e]
  exact W_tail 7 (by kernel_rfl) (by kernel_rfl) (by kernel_rfl) (by kernel_rfl) (Eq.mpr q h)
noncomputable def scope_Table_declare_R8_F (z : At) (K : Exit → Sl → World → Prop) (ρ : Sl) (w : World) : Prop :=
  W z Tryd.prog 101 scope_Table_declare_R11 (seqK (sx z Tryd.prog 101 scope_Table_declare_R12 K) K) ρ w
theorem scope_Table_declare_R8_eq (z : At) (K : Exit → Sl → World → Prop) (ρ : Sl) (w : World) : sx z Tryd.prog 101 scope_Table_declare_R8 K ρ w = scope_Table_declare_R8_F z K ρ w := by kernel_rfl
noncomputable def scope_Table_declare_R9_ops : Array Oper := opsOf scope_Table_declare_R9
def scope_Table_declare_R9_H (S : World → Prop) (K : Exit → Sl → World → Prop) (ρ : Sl) (w : World) : Prop :=
  HK Tryd.prog S (nilCk (ρ 0)) fun x37 => HK Tryd.prog S (do pure (Next.value (← Instr.fieldAt 71 x37 3))) fun x38 => HK Tryd.prog S (do pure (Next.value (← Instr.fieldAt 40 (ρ 3) 1))) fun x40 => HK Tryd.prog S (do pure (Next.value (← Instr.loadAt 3 x40))) fun x41 => (VK Tryd.prog (Instr.loadAt 50 x38) w fun x39 w => S w ∧ (VK Tryd.prog (Instr.buildSlice 50 1 [(0, x41)].toArray) w fun x42 w => S w ∧ (IK Tryd.prog Builtin.append #[50, 50] 50 [false, false] [x39, x42] w fun x43 w => S w ∧ (HK Tryd.prog S (nilCk (ρ 0)) fun x44 => HK Tryd.prog S (do pure (Next.value (← Instr.fieldAt 71 x44 3))) fun x45 => UK Tryd.prog (Instr.storeAt 50 x45 x43) w fun _ w => S w ∧ (K Exit.normal (up (up (up (up (up (up (up (up (up (up (up ρ 35 (ρ 0)) 36 (ρ 0)) 37 x37) 38 x38) 40 x40) 41 x41) 39 x39) 42 x42) 43 x43) 44 x44) 45 x45) w))))) ∧ (VK Tryd.prog (Instr.buildSlice 50 1 [(0, x41)].toArray) w fun x42_1 w => S w ∧ (VK Tryd.prog (Instr.loadAt 50 x38) w fun x39_1 w => S w ∧ (IK Tryd.prog Builtin.append #[50, 50] 50 [false, false] [x39_1, x42_1] w fun x43_1 w => S w ∧ (HK Tryd.prog S (nilCk (ρ 0)) fun x44_1 => HK Tryd.prog S (do pure (Next.value (← Instr.fieldAt 71 x44_1 3))) fun x45_1 => UK Tryd.prog (Instr.storeAt 50 x45_1 x43_1) w fun _ w => S w ∧ (K Exit.normal (up (up (up (up (up (up (up (up (up (up (up ρ 35 (ρ 0)) 36 (ρ 0)) 37 x37) 38 x38) 40 x40) 41 x41) 42 x42_1) 39 x39_1) 43 x43_1) 44 x44_1) 45 x45_1) w)))))
theorem scope_Table_declare_R9_held {D : List Deferred} (S : World → Prop) {K : Exit → Sl → World → Prop} {ρ : Sl} {w : World} (hS : S { w with drawn := w.drawn + 1 }) (h : scope_Table_declare_R9_H S K ρ { w with drawn := w.drawn + 1 }) : W ⟨none, D⟩ Tryd.prog 101 scope_Table_declare_R9 K ρ w := by
  have e : scope_Table_declare_R9 = .region (idOf scope_Table_declare_R9) scope_Table_declare_R9_ops true := by kernel_rfl
  have q : sxp Tryd.prog S scope_Table_declare_R9_ops (K .normal) (Pl.take 0 (Pl.take 1 (Pl.take 2 (Pl.take 3 (Pl.take 5 (Pl.take 6 (Pl.two 4 7 (Pl.only 7 (Pl.only 8 (Pl.take 9 (Pl.take 10 (Pl.only 11 Pl.done))))) (Pl.only 4 (Pl.only 8 (Pl.take 9 (Pl.take 10 (Pl.only 11 Pl.done)))))))))))) ρ { w with drawn := w.drawn + 1 } = scope_Table_declare_R9_H S K ρ { w with drawn := w.drawn + 1 } := by kernel_rfl
  rw [e]
  exact W_plan S (Pl.take 0 (Pl.take 1 (Pl.take 2 (Pl.take 3 (Pl.take 5 (Pl.take 6 (Pl.two 4 7 (Pl.only 7 (Pl.only 8 (Pl.take 9 (Pl.take 10 (Pl.only 11 Pl.done))))) (Pl.only 4 (Pl.only 8 (Pl.take 9 (Pl.take 10 (Pl.only 11 Pl.done)))))))))))) (by kernel_rfl) (by kernel_rfl) (by kernel_rfl) (by kernel_rfl) hS (Eq.mpr q h)
noncomputable def scope_Table_declare_R10_ops : Array Oper := opsOf scope_Table_declare_R10
def scope_Table_declare_R10_H (S : World → Prop) (K : Exit → Sl → World → Prop) (ρ : Sl) (w : World) : Prop :=
  HK Tryd.prog S (nilCk (ρ 0)) fun x47 => HK Tryd.prog S (do pure (Next.value (← Instr.fieldAt 71 x47 4))) fun x48 => HK Tryd.prog S (do pure (Next.value (← Instr.fieldAt 40 (ρ 3) 1))) fun x50 => HK Tryd.prog S (do pure (Next.value (← Instr.loadAt 3 x50))) fun x51 => VK Tryd.prog (Instr.loadAt 3 x48) w fun x49 w => S w ∧ (HK Tryd.prog S (do pure (Next.value (← (do eqGuard BinOp.add 3 (Operand.tmp 49) (Operand.tmp 51) x49 x51; binOp BinOp.add 3 x49 x51)))) fun x52 => HK Tryd.prog S (nilCk (ρ 0)) fun x53 => HK Tryd.prog S (do pure (Next.value (← Instr.fieldAt 71 x53 4))) fun x54 => UK Tryd.prog (Instr.storeAt 3 x54 x52) w fun _ w => S w ∧ (K Exit.normal (up (up (up (up (up (up (up (up (up ρ 46 (ρ 0)) 47 x47) 48 x48) 50 x50) 51 x51) 49 x49) 52 x52) 53 x53) 54 x54) w))
theorem scope_Table_declare_R10_held {D : List Deferred} (S : World → Prop) {K : Exit → Sl → World → Prop} {ρ : Sl} {w : World} (hS : S { w with drawn := w.drawn + 1 }) (h : scope_Table_declare_R10_H S K ρ { w with drawn := w.drawn + 1 }) : W ⟨none, D⟩ Tryd.prog 101 scope_Table_declare_R10 K ρ w := by
  have e : scope_Table_declare_R10 = .region (idOf scope_Table_declare_R10) scope_Table_declare_R10_ops true := by kernel_rfl
  have q : sxp Tryd.prog S scope_Table_declare_R10_ops (K .normal) (Pl.take 0 (Pl.take 1 (Pl.take 2 (Pl.take 4 (Pl.take 5 (Pl.only 3 (Pl.take 6 (Pl.take 7 (Pl.take 8 (Pl.only 9 Pl.done)))))))))) ρ { w with drawn := w.drawn + 1 } = scope_Table_declare_R10_H S K ρ { w with drawn := w.drawn + 1 } := by kernel_rfl
  rw [e]
  exact W_plan S (Pl.take 0 (Pl.take 1 (Pl.take 2 (Pl.take 4 (Pl.take 5 (Pl.only 3 (Pl.take 6 (Pl.take 7 (Pl.take 8 (Pl.only 9 Pl.done)))))))))) (by kernel_rfl) (by kernel_rfl) (by kernel_rfl) (by kernel_rfl) hS (Eq.mpr q h)
noncomputable def scope_Table_declare_R11_ops : Array Oper := opsOf scope_Table_declare_R11
def scope_Table_declare_R11_H (S : World → Prop) (K : Exit → Sl → World → Prop) (ρ : Sl) (w : World) : Prop :=
  HK Tryd.prog S (nilCk (ρ 0)) fun x92 => HK Tryd.prog S (do pure (Next.value (← Instr.fieldAt 71 x92 0))) fun x93 => HK Tryd.prog S (do pure (Next.value (← Instr.fieldAt 40 (ρ 3) 0))) fun x95 => HK Tryd.prog S (do pure (Next.value (← Instr.loadAt 9 x95))) fun x96 => (VK Tryd.prog (Instr.loadAt 52 x93) w fun x94 w => S w ∧ (VK Tryd.prog (Instr.buildSlice 52 1 [(0, x96)].toArray) w fun x97 w => S w ∧ (IK Tryd.prog Builtin.append #[52, 52] 52 [false, false] [x94, x97] w fun x98 w => S w ∧ (HK Tryd.prog S (nilCk (ρ 0)) fun x99 => HK Tryd.prog S (do pure (Next.value (← Instr.fieldAt 71 x99 0))) fun x100 => UK Tryd.prog (Instr.storeAt 52 x100 x98) w fun _ w => S w ∧ (K Exit.normal (up (up (up (up (up (up (up (up (up (up (up ρ 90 (ρ 0)) 91 (ρ 0)) 92 x92) 93 x93) 95 x95) 96 x96) 94 x94) 97 x97) 98 x98) 99 x99) 100 x100) w))))) ∧ (VK Tryd.prog (Instr.buildSlice 52 1 [(0, x96)].toArray) w fun x97_1 w => S w ∧ (VK Tryd.prog (Instr.loadAt 52 x93) w fun x94_1 w => S w ∧ (IK Tryd.prog Builtin.append #[52, 52] 52 [false, false] [x94_1, x97_1] w fun x98_1 w => S w ∧ (HK Tryd.prog S (nilCk (ρ 0)) fun x99_1 => HK Tryd.prog S (do pure (Next.value (← Instr.fieldAt 71 x99_1 0))) fun x100_1 => UK Tryd.prog (Instr.storeAt 52 x100_1 x98_1) w fun _ w => S w ∧ (K Exit.normal (up (up (up (up (up (up (up (up (up (up (up ρ 90 (ρ 0)) 91 (ρ 0)) 92 x92) 93 x93) 95 x95) 96 x96) 97 x97_1) 94 x94_1) 98 x98_1) 99 x99_1) 100 x100_1) w)))))
theorem scope_Table_declare_R11_held {D : List Deferred} (S : World → Prop) {K : Exit → Sl → World → Prop} {ρ : Sl} {w : World} (hS : S { w with drawn := w.drawn + 1 }) (h : scope_Table_declare_R11_H S K ρ { w with drawn := w.drawn + 1 }) : W ⟨none, D⟩ Tryd.prog 101 scope_Table_declare_R11 K ρ w := by
  have e : scope_Table_declare_R11 = .region (idOf scope_Table_declare_R11) scope_Table_declare_R11_ops true := by kernel_rfl
  have q : sxp Tryd.prog S scope_Table_declare_R11_ops (K .normal) (Pl.take 0 (Pl.take 1 (Pl.take 2 (Pl.take 3 (Pl.take 5 (Pl.take 6 (Pl.two 4 7 (Pl.only 7 (Pl.only 8 (Pl.take 9 (Pl.take 10 (Pl.only 11 Pl.done))))) (Pl.only 4 (Pl.only 8 (Pl.take 9 (Pl.take 10 (Pl.only 11 Pl.done)))))))))))) ρ { w with drawn := w.drawn + 1 } = scope_Table_declare_R11_H S K ρ { w with drawn := w.drawn + 1 } := by kernel_rfl
  rw [e]
  exact W_plan S (Pl.take 0 (Pl.take 1 (Pl.take 2 (Pl.take 3 (Pl.take 5 (Pl.take 6 (Pl.two 4 7 (Pl.only 7 (Pl.only 8 (Pl.take 9 (Pl.take 10 (Pl.only 11 Pl.done))))) (Pl.only 4 (Pl.only 8 (Pl.take 9 (Pl.take 10 (Pl.only 11 Pl.done)))))))))))) (by kernel_rfl) (by kernel_rfl) (by kernel_rfl) (by kernel_rfl) hS (Eq.mpr q h)
noncomputable def scope_Table_declare_R12_F (z : At) (K : Exit → Sl → World → Prop) (ρ : Sl) (w : World) : Prop :=
  K Exit.ret (up ρ 4 (Value.int IntKind.i64 0)) w
theorem scope_Table_declare_R12_eq (z : At) (K : Exit → Sl → World → Prop) (ρ : Sl) (w : World) : sx z Tryd.prog 101 scope_Table_declare_R12 K ρ w = scope_Table_declare_R12_F z K ρ w := by kernel_rfl
noncomputable def scope_Table_declare_F (a0 a1 : Value) (w : World) (R : Value → World → Prop) : Prop :=
  VK Tryd.prog (Instr.box 40 a1) w fun x3 w => W fn_ Tryd.prog 101 scope_Table_declare_R0 (seqK (sx fn_ Tryd.prog 101 scope_Table_declare_R1 (seqK (sx fn_ Tryd.prog 101 scope_Table_declare_R2 (retK Tryd.prog [ResultVar.tmp 4] R)) (retK Tryd.prog [ResultVar.tmp 4] R))) (seqK (sx fn_ Tryd.prog 101 scope_Table_declare_R2 (retK Tryd.prog [ResultVar.tmp 4] R)) (retK Tryd.prog [ResultVar.tmp 4] R))) (up (up (rho0 [a0, a1]) 3 x3) 4 (Value.int IntKind.i64 0)) w
theorem scope_Table_declare_eq (a0 a1 : Value) (w : World) (R : Value → World → Prop) : sx fn_ Tryd.prog 101 scope_Table_declare_b (retK Tryd.prog Tryd.f37.results.toList R) (rho0 [a0, a1]) w = scope_Table_declare_F a0 a1 w R := by kernel_rfl
theorem scope_Table_declare_calls {a0 a1 : Value} {w : World} {R : Value → World → Prop} (h : scope_Table_declare_F a0 a1 w R) : Calls Tryd.prog 37 #[a0, a1] w fun e w' => ∃ v, e = .returned v ∧ R v w' :=
  Go.X.calls_of_sx (n := 101) (c := scope_Table_declare_b) Tryd.func37 (by kernel_rfl) (by kernel_rfl) (Nat.le_of_ble_eq_true rfl) (by kernel_rfl) (Eq.mpr (scope_Table_declare_eq a0 a1 w R) h)
/-- (*dispatcher/scope.Table).look -/
noncomputable def scope_Table_look_b : Code := (Tryd.f38.body).getD .skip
noncomputable def scope_Table_look_F (a0 a1 : Value) (w : World) (R : Value → World → Prop) : Prop :=
  VK Tryd.prog (Instr.box 32 a0) w fun x2 w => VK Tryd.prog (Instr.alloc 30 true (.tuple #[])) w fun x4 w => VK Tryd.prog (Instr.alloc 30 true (.tuple #[])) w fun x5 w => VK Tryd.prog (Instr.makeFunc (Fn.func 60) [].toArray [x2, x5].toArray) w fun x9 w => VK Tryd.prog (Instr.alloc 89 true (.tuple #[])) w fun x6 w => UK Tryd.prog (Instr.storeAt 89 x6 x9) w fun _ w => VK Tryd.prog (Instr.alloc 90 true (.tuple #[])) w fun x7 w => VK Tryd.prog (Instr.makeFunc (Fn.func 61) [].toArray [x6, x7].toArray) w fun x10 w => UK Tryd.prog (Instr.storeAt 90 x7 x10) w fun _ w => VK Tryd.prog (Instr.alloc 64 true (.tuple #[])) w fun x8 w => VK Tryd.prog (Instr.makeFunc (Fn.func 62) [].toArray [x6, x7, x8].toArray) w fun x11 w => UK Tryd.prog (Instr.storeAt 64 x8 x11) w fun _ w => VK Tryd.prog (Instr.loadAt 64 x8) w fun x12 w => CK Tryd.prog x12 [a1] w fun x14 w => VK Tryd.prog (Instr.loadAt 30 x5) w fun x15 w => UK Tryd.prog (Instr.storeAt 30 x4 x15) w fun _ w => ∃ x4_1, (do loadVar 30 (← asAddr x4) : Sem Value).run Tryd.prog w = .ok x4_1 w ∧ R x4_1 w
theorem scope_Table_look_eq (a0 a1 : Value) (w : World) (R : Value → World → Prop) : sx fn_ Tryd.prog 16 scope_Table_look_b (retK Tryd.prog Tryd.f38.results.toList R) (rho0 [a0, a1]) w = scope_Table_look_F a0 a1 w R := by kernel_rfl
theorem scope_Table_look_calls {a0 a1 : Value} {w : World} {R : Value → World → Prop} (h : scope_Table_look_F a0 a1 w R) : Calls Tryd.prog 38 #[a0, a1] w fun e w' => ∃ v, e = .returned v ∧ R v w' :=
  Go.X.calls_of_sx (n := 16) (c := scope_Table_look_b) Tryd.func38 (by kernel_rfl) (by kernel_rfl) (Nat.le_of_ble_eq_true rfl) (by kernel_rfl) (Eq.mpr (scope_Table_look_eq a0 a1 w R) h)
/-- slices.Clone[[]int,int] -/
noncomputable def slices_Clone_int_int_b : Code := (Tryd.f47.body).getD .skip
noncomputable def slices_Clone_int_int_F (a0 : Value) (w : World) (R : Value → World → Prop) : Prop :=
  BK Tryd.prog BinOp.eql 50 (Operand.tmp 3) (Operand.const (Value.slice none 0 0)) a0 (Value.slice none 0 0) w fun x4 w => CondK x4 (R (Value.slice none 0 0) w) (VK Tryd.prog (Instr.buildSlice 50 0 [].toArray) w fun x5 w => IK Tryd.prog Builtin.append #[50, 50] 50 [false, false] [x5, a0] w fun x7 w => R x7 w)
theorem slices_Clone_int_int_eq (a0 : Value) (w : World) (R : Value → World → Prop) : sx fn_ Tryd.prog 8 slices_Clone_int_int_b (retK Tryd.prog Tryd.f47.results.toList R) (rho0 [a0]) w = slices_Clone_int_int_F a0 w R := by kernel_rfl
theorem slices_Clone_int_int_calls {a0 : Value} {w : World} {R : Value → World → Prop} (h : slices_Clone_int_int_F a0 w R) : Calls Tryd.prog 47 #[a0] w fun e w' => ∃ v, e = .returned v ∧ R v w' :=
  Go.X.calls_of_sx (n := 8) (c := slices_Clone_int_int_b) Tryd.func47 (by kernel_rfl) (by kernel_rfl) (Nat.le_of_ble_eq_true rfl) (by kernel_rfl) (Eq.mpr (slices_Clone_int_int_eq a0 w R) h)
/-- (*dispatcher/scope.Table).look$1 -/
noncomputable def scope_Table_look_1_b : Code := (Tryd.f60.body).getD .skip
noncomputable def scope_Table_look_1_R0 : Code := cAt [1, 1] scope_Table_look_1_b
noncomputable def scope_Table_look_1_R0_F (z : At) (K : Exit → Sl → World → Prop) (ρ : Sl) (w : World) : Prop :=
  VK Tryd.prog (Instr.fieldAt 30 (ρ 5) 0) w fun x23 w => VK Tryd.prog (Instr.loadAt 28 x23) w fun x24 w => BK Tryd.prog BinOp.eql 28 (Operand.tmp 24) (Operand.const (Value.int IntKind.i64 0)) x24 (Value.int IntKind.i64 0) w fun x25 w => K Exit.ret (up (up (up (up ρ 23 x23) 24 x24) 25 x25) 10 x25) w
theorem scope_Table_look_1_R0_eq (z : At) (K : Exit → Sl → World → Prop) (ρ : Sl) (w : World) : sx z Tryd.prog 26 scope_Table_look_1_R0 K ρ w = scope_Table_look_1_R0_F z K ρ w := by kernel_rfl
noncomputable def scope_Table_look_1_F (a0 a1 a2 a3 a4 a5 : Value) (w : World) (R : Value → World → Prop) : Prop :=
  VK Tryd.prog (Instr.loadAt 32 a4) w fun x11 w => NK Tryd.prog x11 w fun x12 w => VK Tryd.prog (Instr.fieldAt 71 x12 1) w fun x13 w => VK Tryd.prog (Instr.loadAt 69 x13) w fun x14 w => VK Tryd.prog (Instr.lookup 69 x14 a0 false) w fun x16 w => VK Tryd.prog (Instr.field 37 x16 0) w fun x17 w => BK Tryd.prog BinOp.neq 5 (Operand.tmp 17) (Operand.tmp 18) x17 a1 w fun x19 w => CondK x19 (VK Tryd.prog (Instr.build 30 [(0, (Value.int IntKind.i64 40)), (1, a2), (2, a3)].toArray) w fun x22 w => UK Tryd.prog (Instr.storeAt 30 a5 x22) w fun _ w => sx fn_ Tryd.prog 26 scope_Table_look_1_R0 (retK Tryd.prog [ResultVar.tmp 10] R) (up (up (up (up (up (up (up (up (up (up (up (up (up (rho0 [a0, a1, a2, a3, a4, a5]) 10 (Value.bool false)) 11 x11) 12 x12) 13 x13) 14 x14) 15 a0) 16 x16) 17 x17) 18 a1) 19 x19) 20 a2) 21 a3) 22 x22) w) (sx fn_ Tryd.prog 26 scope_Table_look_1_R0 (retK Tryd.prog [ResultVar.tmp 10] R) (up (up (up (up (up (up (up (up (up (up (rho0 [a0, a1, a2, a3, a4, a5]) 10 (Value.bool false)) 11 x11) 12 x12) 13 x13) 14 x14) 15 a0) 16 x16) 17 x17) 18 a1) 19 x19) w)
theorem scope_Table_look_1_eq (a0 a1 a2 a3 a4 a5 : Value) (w : World) (R : Value → World → Prop) : sx fn_ Tryd.prog 26 scope_Table_look_1_b (retK Tryd.prog Tryd.f60.results.toList R) (rho0 [a0, a1, a2, a3, a4, a5]) w = scope_Table_look_1_F a0 a1 a2 a3 a4 a5 w R := by kernel_rfl
theorem scope_Table_look_1_calls {a0 a1 a2 a3 a4 a5 : Value} {w : World} {R : Value → World → Prop} (h : scope_Table_look_1_F a0 a1 a2 a3 a4 a5 w R) : Calls Tryd.prog 60 #[a0, a1, a2, a3, a4, a5] w fun e w' => ∃ v, e = .returned v ∧ R v w' :=
  Go.X.calls_of_sx (n := 26) (c := scope_Table_look_1_b) Tryd.func60 (by kernel_rfl) (by kernel_rfl) (Nat.le_of_ble_eq_true rfl) (by kernel_rfl) (Eq.mpr (scope_Table_look_1_eq a0 a1 a2 a3 a4 a5 w R) h)
/-- (*dispatcher/scope.Table).look$2 -/
noncomputable def scope_Table_look_2_b : Code := (Tryd.f61.body).getD .skip
noncomputable def scope_Table_look_2_R0 : Code := cAt [1, 1, 1] scope_Table_look_2_b
noncomputable def scope_Table_look_2_L1 : Code := cAt [1, 1, 1, 0, 1, 0, 0] scope_Table_look_2_b
noncomputable def scope_Table_look_2_R2 : Code := cAt [1, 1, 1, 1] scope_Table_look_2_b
noncomputable def scope_Table_look_2_R0_F (z : At) (K : Exit → Sl → World → Prop) (ρ : Sl) (w : World) : Prop :=
  VK Tryd.prog (Instr.fieldAt 60 (ρ 3) 3) w fun x30 w => VK Tryd.prog (Instr.loadAt 58 x30) w fun x31 w => IK Tryd.prog Builtin.len #[58] 3 [false] [x31] w fun x32 w => W z Tryd.prog 45 (Code.loop scope_Table_look_2_L1) (blkK 1 (seqK (sx z Tryd.prog 45 scope_Table_look_2_R2 K) K)) (up (up (up (up ρ 30 x30) 31 x31) 32 x32) 33 (Value.int IntKind.i64 0)) w
theorem scope_Table_look_2_R0_eq (z : At) (K : Exit → Sl → World → Prop) (ρ : Sl) (w : World) : sx z Tryd.prog 45 scope_Table_look_2_R0 K ρ w = scope_Table_look_2_R0_F z K ρ w := by kernel_rfl
noncomputable def scope_Table_look_2_L1_F (z : At) (K : Exit → Sl → World → Prop) (ρ : Sl) (w : World) : Prop :=
  BK Tryd.prog BinOp.lss 3 (Operand.tmp 33) (Operand.tmp 32) (ρ 33) (ρ 32) w fun x34 w => CondK x34 (VK Tryd.prog (Instr.indexAt 58 (ρ 31) (ρ 33)) w fun x35 w => VK Tryd.prog (Instr.loadAt 60 x35) w fun x36 w => VK Tryd.prog (Instr.alloc 60 true (.tuple #[])) w fun x7 w => UK Tryd.prog (Instr.storeAt 60 x7 x36) w fun _ w => VG Tryd.prog (ρ 5) true (Instr.loadAt 90 (ρ 2)) w fun x39 w => VG Tryd.prog (ρ 5) true (Instr.loadAt 60 x7) w fun x40 w => CG Tryd.prog (ρ 5) true x39 [x40] w fun x41 w => PK Tryd.prog (ρ 5) x41 (Value.bool false) w fun x42 w => BK Tryd.prog BinOp.add 3 (Operand.tmp 33) (Operand.const (Value.int IntKind.i64 1)) (ρ 33) (Value.int IntKind.i64 1) w fun x43 w => K Exit.normal (up (up (up (up (up (up (up (up (up (up (up (up (up ρ 34 x34) 35 x35) 36 x36) 7 x7) 37 (ρ 5)) 38 (ρ 5)) 39 x39) 40 x40) 41 x41) 42 x42) 5 x42) 43 x43) 33 x43) w) (K (Exit.exit 1) (up ρ 34 x34) w)
theorem scope_Table_look_2_L1_eq (z : At) (K : Exit → Sl → World → Prop) (ρ : Sl) (w : World) : sx z Tryd.prog 45 scope_Table_look_2_L1 K ρ w = scope_Table_look_2_L1_F z K ρ w := by kernel_rfl
theorem scope_Table_look_2_L1_ok : dstOk 45 scope_Table_look_2_L1 = true := by kernel_rfl
noncomputable def scope_Table_look_2_R2_F (z : At) (K : Exit → Sl → World → Prop) (ρ : Sl) (w : World) : Prop :=
  K Exit.ret (up (up ρ 44 (ρ 5)) 4 (ρ 5)) w
theorem scope_Table_look_2_R2_eq (z : At) (K : Exit → Sl → World → Prop) (ρ : Sl) (w : World) : sx z Tryd.prog 45 scope_Table_look_2_R2 K ρ w = scope_Table_look_2_R2_F z K ρ w := by kernel_rfl
noncomputable def scope_Table_look_2_F (a0 a1 a2 : Value) (w : World) (R : Value → World → Prop) : Prop :=
  VK Tryd.prog (Instr.box 60 a0) w fun x3 w => VK Tryd.prog (Instr.fieldAt 60 x3 0) w fun x8 w => VK Tryd.prog (Instr.loadAt 5 x8) w fun x9 w => BK Tryd.prog BinOp.eql 5 (Operand.tmp 9) (Operand.const (Value.int IntKind.u8 2)) x9 (Value.int IntKind.u8 2) w fun x11 w => CondK x11 (VK Tryd.prog (Instr.loadAt 89 a1) w fun x12 w => VK Tryd.prog (Instr.fieldAt 60 x3 2) w fun x13 w => VK Tryd.prog (Instr.loadAt 9 x13) w fun x14 w => VK Tryd.prog (Instr.fieldAt 60 x3 4) w fun x15 w => VK Tryd.prog (Instr.loadAt 3 x15) w fun x16 w => VK Tryd.prog (Instr.fieldAt 60 x3 5) w fun x17 w => VK Tryd.prog (Instr.loadAt 3 x17) w fun x18 w => CK Tryd.prog x12 [x14, (Value.int IntKind.u8 1), x16, x18] w fun x19 w => sx fn_ Tryd.prog 45 scope_Table_look_2_R0 (retK Tryd.prog [ResultVar.tmp 4] R) (up (up (up (up (up (up (up (up (up (up (up (up (up (up (up (up (rho0 [a0, a1, a2]) 3 x3) 4 (Value.bool false)) 5 (Value.bool true)) 8 x8) 9 x9) 11 x11) 10 x11) 12 x12) 13 x13) 14 x14) 15 x15) 16 x16) 17 x17) 18 x18) 19 x19) 5 x19) w) (BK Tryd.prog BinOp.eql 5 (Operand.tmp 9) (Operand.const (Value.int IntKind.u8 3)) x9 (Value.int IntKind.u8 3) w fun x21 w => CondK x21 (VK Tryd.prog (Instr.loadAt 89 a1) w fun x22 w => VK Tryd.prog (Instr.fieldAt 60 x3 2) w fun x23 w => VK Tryd.prog (Instr.loadAt 9 x23) w fun x24 w => VK Tryd.prog (Instr.fieldAt 60 x3 4) w fun x25 w => VK Tryd.prog (Instr.loadAt 3 x25) w fun x26 w => VK Tryd.prog (Instr.fieldAt 60 x3 5) w fun x27 w => VK Tryd.prog (Instr.loadAt 3 x27) w fun x28 w => CK Tryd.prog x22 [x24, (Value.int IntKind.u8 2), x26, x28] w fun x29 w => sx fn_ Tryd.prog 45 scope_Table_look_2_R0 (retK Tryd.prog [ResultVar.tmp 4] R) (up (up (up (up (up (up (up (up (up (up (up (up (up (up (up (up (up (up (rho0 [a0, a1, a2]) 3 x3) 4 (Value.bool false)) 5 (Value.bool true)) 8 x8) 9 x9) 11 x11) 10 x11) 21 x21) 20 x21) 22 x22) 23 x23) 24 x24) 25 x25) 26 x26) 27 x27) 28 x28) 29 x29) 5 x29) w) (sx fn_ Tryd.prog 45 scope_Table_look_2_R0 (retK Tryd.prog [ResultVar.tmp 4] R) (up (up (up (up (up (up (up (up (up (rho0 [a0, a1, a2]) 3 x3) 4 (Value.bool false)) 5 (Value.bool true)) 8 x8) 9 x9) 11 x11) 10 x11) 21 x21) 20 x21) w))
theorem scope_Table_look_2_eq (a0 a1 a2 : Value) (w : World) (R : Value → World → Prop) : sx fn_ Tryd.prog 45 scope_Table_look_2_b (retK Tryd.prog Tryd.f61.results.toList R) (rho0 [a0, a1, a2]) w = scope_Table_look_2_F a0 a1 a2 w R := by kernel_rfl
theorem scope_Table_look_2_calls {a0 a1 a2 : Value} {w : World} {R : Value → World → Prop} (h : scope_Table_look_2_F a0 a1 a2 w R) : Calls Tryd.prog 61 #[a0, a1, a2] w fun e w' => ∃ v, e = .returned v ∧ R v w' :=
  Go.X.calls_of_sx (n := 45) (c := scope_Table_look_2_b) Tryd.func61 (by kernel_rfl) (by kernel_rfl) (Nat.le_of_ble_eq_true rfl) (by kernel_rfl) (Eq.mpr (scope_Table_look_2_eq a0 a1 a2 w R) h)
/-- (*dispatcher/scope.Table).look$3 -/
noncomputable def scope_Table_look_3_b : Code := (Tryd.f62.body).getD .skip
noncomputable def scope_Table_look_3_L0 : Code := cAt [1, 0, 1, 0, 0] scope_Table_look_3_b
noncomputable def scope_Table_look_3_R1 : Code := cAt [1, 1] scope_Table_look_3_b
noncomputable def scope_Table_look_3_R2 : Code := cAt [1, 0, 1, 0, 0, 1, 1, 0, 0, 1, 1, 1] scope_Table_look_3_b
noncomputable def scope_Table_look_3_R3 : Code := cAt [1, 0, 1, 0, 0, 1, 1, 0, 0, 1, 1, 0, 1, 0, 1] scope_Table_look_3_b
noncomputable def scope_Table_look_3_R4 : Code := cAt [1, 0, 1, 0, 0, 1, 1, 1] scope_Table_look_3_b
noncomputable def scope_Table_look_3_L5 : Code := cAt [1, 0, 1, 0, 0, 1, 1, 0, 0, 1, 1, 1, 0, 1, 0, 0] scope_Table_look_3_b
noncomputable def scope_Table_look_3_R6 : Code := cAt [1, 0, 1, 0, 0, 1, 1, 0, 0, 1, 1, 1, 1] scope_Table_look_3_b
noncomputable def scope_Table_look_3_L0_F (z : At) (K : Exit → Sl → World → Prop) (ρ : Sl) (w : World) : Prop :=
  BK Tryd.prog BinOp.lss 3 (Operand.tmp 13) (Operand.tmp 12) (ρ 13) (ρ 12) w fun x14 w => CondK x14 (VK Tryd.prog (Instr.indexAt 23 (ρ 11) (ρ 13)) w fun x15 w => VK Tryd.prog (Instr.loadAt 62 x15) w fun x16 w => VK Tryd.prog (Instr.alloc 62 true (.tuple #[])) w fun x7 w => UK Tryd.prog (Instr.storeAt 62 x7 x16) w fun _ w => VK Tryd.prog (Instr.fieldAt 62 x7 0) w fun x17 w => VK Tryd.prog (Instr.loadAt 5 x17) w fun x18 w => BK Tryd.prog BinOp.eql 5 (Operand.tmp 18) (Operand.const (Value.int IntKind.u8 1)) x18 (Value.int IntKind.u8 1) w fun x20 w => CondK x20 (sx z Tryd.prog 71 scope_Table_look_3_R3 (blkK 2 (seqK (sx z Tryd.prog 71 scope_Table_look_3_R2 (blkK 1 (seqK (sx z Tryd.prog 71 scope_Table_look_3_R4 K) K))) (blkK 1 (seqK (sx z Tryd.prog 71 scope_Table_look_3_R4 K) K)))) (up (up (up (up (up (up (up (up (up ρ 14 x14) 15 x15) 16 x16) 7 x7) 8 (Value.bool true)) 17 x17) 18 x18) 20 x20) 19 x20) w) (BK Tryd.prog BinOp.eql 5 (Operand.tmp 18) (Operand.const (Value.int IntKind.u8 5)) x18 (Value.int IntKind.u8 5) w fun x21 w => sx z Tryd.prog 71 scope_Table_look_3_R3 (blkK 2 (seqK (sx z Tryd.prog 71 scope_Table_look_3_R2 (blkK 1 (seqK (sx z Tryd.prog 71 scope_Table_look_3_R4 K) K))) (blkK 1 (seqK (sx z Tryd.prog 71 scope_Table_look_3_R4 K) K)))) (up (up (up (up (up (up (up (up (up (up (up ρ 14 x14) 15 x15) 16 x16) 7 x7) 8 (Value.bool true)) 17 x17) 18 x18) 20 x20) 19 x20) 21 x21) 19 x21) w)) (K (Exit.exit 0) (up ρ 14 x14) w)
theorem scope_Table_look_3_L0_eq (z : At) (K : Exit → Sl → World → Prop) (ρ : Sl) (w : World) : sx z Tryd.prog 71 scope_Table_look_3_L0 K ρ w = scope_Table_look_3_L0_F z K ρ w := by kernel_rfl
theorem scope_Table_look_3_L0_ok : dstOk 71 scope_Table_look_3_L0 = true := by kernel_rfl
noncomputable def scope_Table_look_3_R1_F (z : At) (K : Exit → Sl → World → Prop) (ρ : Sl) (w : World) : Prop :=
  K Exit.ret (up ρ 5 (Value.bool true)) w
theorem scope_Table_look_3_R1_eq (z : At) (K : Exit → Sl → World → Prop) (ρ : Sl) (w : World) : sx z Tryd.prog 71 scope_Table_look_3_R1 K ρ w = scope_Table_look_3_R1_F z K ρ w := by kernel_rfl
noncomputable def scope_Table_look_3_R2_F (z : At) (K : Exit → Sl → World → Prop) (ρ : Sl) (w : World) : Prop :=
  VK Tryd.prog (Instr.fieldAt 62 (ρ 7) 5) w fun x40 w => VK Tryd.prog (Instr.loadAt 58 x40) w fun x41 w => IK Tryd.prog Builtin.len #[58] 3 [false] [x41] w fun x42 w => W z Tryd.prog 71 (Code.loop scope_Table_look_3_L5) (blkK 3 (seqK (sx z Tryd.prog 71 scope_Table_look_3_R6 K) K)) (up (up (up (up ρ 40 x40) 41 x41) 42 x42) 43 (Value.int IntKind.i64 0)) w
theorem scope_Table_look_3_R2_eq (z : At) (K : Exit → Sl → World → Prop) (ρ : Sl) (w : World) : sx z Tryd.prog 71 scope_Table_look_3_R2 K ρ w = scope_Table_look_3_R2_F z K ρ w := by kernel_rfl
noncomputable def scope_Table_look_3_R3_F (z : At) (K : Exit → Sl → World → Prop) (ρ : Sl) (w : World) : Prop :=
  CondK (ρ 19) (VK Tryd.prog (Instr.loadAt 89 (ρ 1)) w fun x22 w => VK Tryd.prog (Instr.fieldAt 62 (ρ 7) 3) w fun x23 w => VK Tryd.prog (Instr.loadAt 9 x23) w fun x24 w => VK Tryd.prog (Instr.fieldAt 62 (ρ 7) 8) w fun x25 w => VK Tryd.prog (Instr.loadAt 3 x25) w fun x26 w => VK Tryd.prog (Instr.fieldAt 62 (ρ 7) 9) w fun x27 w => VK Tryd.prog (Instr.loadAt 3 x27) w fun x28 w => CK Tryd.prog x22 [x24, (Value.int IntKind.u8 1), x26, x28] w fun x29 w => K Exit.normal (up (up (up (up (up (up (up (up (up ρ 22 x22) 23 x23) 24 x24) 25 x25) 26 x26) 27 x27) 28 x28) 29 x29) 8 x29) w) (BK Tryd.prog BinOp.eql 5 (Operand.tmp 18) (Operand.const (Value.int IntKind.u8 2)) (ρ 18) (Value.int IntKind.u8 2) w fun x31 w => CondK x31 (VK Tryd.prog (Instr.loadAt 89 (ρ 1)) w fun x32 w => VK Tryd.prog (Instr.fieldAt 62 (ρ 7) 3) w fun x33 w => VK Tryd.prog (Instr.loadAt 9 x33) w fun x34 w => VK Tryd.prog (Instr.fieldAt 62 (ρ 7) 8) w fun x35 w => VK Tryd.prog (Instr.loadAt 3 x35) w fun x36 w => VK Tryd.prog (Instr.fieldAt 62 (ρ 7) 9) w fun x37 w => VK Tryd.prog (Instr.loadAt 3 x37) w fun x38 w => CK Tryd.prog x32 [x34, (Value.int IntKind.u8 2), x36, x38] w fun x39 w => K Exit.normal (up (up (up (up (up (up (up (up (up (up (up ρ 31 x31) 30 x31) 32 x32) 33 x33) 34 x34) 35 x35) 36 x36) 37 x37) 38 x38) 39 x39) 8 x39) w) (K Exit.normal (up (up ρ 31 x31) 30 x31) w))
theorem scope_Table_look_3_R3_eq (z : At) (K : Exit → Sl → World → Prop) (ρ : Sl) (w : World) : sx z Tryd.prog 71 scope_Table_look_3_R3 K ρ w = scope_Table_look_3_R3_F z K ρ w := by kernel_rfl
noncomputable def scope_Table_look_3_R4_F (z : At) (K : Exit → Sl → World → Prop) (ρ : Sl) (w : World) : Prop :=
  BK Tryd.prog BinOp.add 3 (Operand.tmp 13) (Operand.const (Value.int IntKind.i64 1)) (ρ 13) (Value.int IntKind.i64 1) w fun x70 w => K Exit.normal (up (up ρ 70 x70) 13 x70) w
theorem scope_Table_look_3_R4_eq (z : At) (K : Exit → Sl → World → Prop) (ρ : Sl) (w : World) : sx z Tryd.prog 71 scope_Table_look_3_R4 K ρ w = scope_Table_look_3_R4_F z K ρ w := by kernel_rfl
noncomputable def scope_Table_look_3_L5_F (z : At) (K : Exit → Sl → World → Prop) (ρ : Sl) (w : World) : Prop :=
  BK Tryd.prog BinOp.lss 3 (Operand.tmp 43) (Operand.tmp 42) (ρ 43) (ρ 42) w fun x44 w => CondK x44 (VK Tryd.prog (Instr.indexAt 58 (ρ 41) (ρ 43)) w fun x45 w => VK Tryd.prog (Instr.loadAt 60 x45) w fun x46 w => VK Tryd.prog (Instr.alloc 60 true (.tuple #[])) w fun x10 w => UK Tryd.prog (Instr.storeAt 60 x10 x46) w fun _ w => VG Tryd.prog (ρ 8) true (Instr.loadAt 90 (ρ 2)) w fun x49 w => VG Tryd.prog (ρ 8) true (Instr.loadAt 60 x10) w fun x50 w => CG Tryd.prog (ρ 8) true x49 [x50] w fun x51 w => PK Tryd.prog (ρ 8) x51 (Value.bool false) w fun x52 w => BK Tryd.prog BinOp.add 3 (Operand.tmp 43) (Operand.const (Value.int IntKind.i64 1)) (ρ 43) (Value.int IntKind.i64 1) w fun x53 w => K Exit.normal (up (up (up (up (up (up (up (up (up (up (up (up (up ρ 44 x44) 45 x45) 46 x46) 10 x10) 47 (ρ 8)) 48 (ρ 8)) 49 x49) 50 x50) 51 x51) 52 x52) 8 x52) 53 x53) 43 x53) w) (K (Exit.exit 3) (up ρ 44 x44) w)
theorem scope_Table_look_3_L5_eq (z : At) (K : Exit → Sl → World → Prop) (ρ : Sl) (w : World) : sx z Tryd.prog 71 scope_Table_look_3_L5 K ρ w = scope_Table_look_3_L5_F z K ρ w := by kernel_rfl
theorem scope_Table_look_3_L5_ok : dstOk 71 scope_Table_look_3_L5 = true := by kernel_rfl
noncomputable def scope_Table_look_3_R6_F (z : At) (K : Exit → Sl → World → Prop) (ρ : Sl) (w : World) : Prop :=
  VK Tryd.prog (Op.unary UnOp.not (ρ 8)) w fun x55 w => VG Tryd.prog x55 false (Instr.loadAt 64 (ρ 3)) w fun x57 w => VG Tryd.prog x55 false (Instr.fieldAt 62 (ρ 7) 6) w fun x58 w => VG Tryd.prog x55 false (Instr.loadAt 23 x58) w fun x59 w => CG Tryd.prog x55 false x57 [x59] w fun x60 w => VG Tryd.prog x55 false (Op.unary UnOp.not x60) w fun x61 w => PK Tryd.prog x55 (Value.bool true) x61 w fun x62 w => VG Tryd.prog x62 false (Instr.loadAt 64 (ρ 3)) w fun x64 w => VG Tryd.prog x62 false (Instr.fieldAt 62 (ρ 7) 7) w fun x65 w => VG Tryd.prog x62 false (Instr.loadAt 23 x65) w fun x66 w => CG Tryd.prog x62 false x64 [x66] w fun x67 w => VG Tryd.prog x62 false (Op.unary UnOp.not x67) w fun x68 w => PK Tryd.prog x62 (Value.bool true) x68 w fun x69 w => CondK x69 (K Exit.ret (up (up (up (up (up (up (up (up (up (up (up (up (up (up (up (up (up ρ 54 (ρ 8)) 55 x55) 56 x55) 57 x57) 58 x58) 59 x59) 60 x60) 61 x61) 62 x62) 63 x62) 64 x64) 65 x65) 66 x66) 67 x67) 68 x68) 69 x69) 5 (Value.bool false)) w) (K Exit.normal (up (up (up (up (up (up (up (up (up (up (up (up (up (up (up (up ρ 54 (ρ 8)) 55 x55) 56 x55) 57 x57) 58 x58) 59 x59) 60 x60) 61 x61) 62 x62) 63 x62) 64 x64) 65 x65) 66 x66) 67 x67) 68 x68) 69 x69) w)
theorem scope_Table_look_3_R6_eq (z : At) (K : Exit → Sl → World → Prop) (ρ : Sl) (w : World) : sx z Tryd.prog 71 scope_Table_look_3_R6 K ρ w = scope_Table_look_3_R6_F z K ρ w := by kernel_rfl
noncomputable def scope_Table_look_3_F (a0 a1 a2 a3 : Value) (w : World) (R : Value → World → Prop) : Prop :=
  IK Tryd.prog Builtin.len #[23] 3 [false] [a0] w fun x12 w => W fn_ Tryd.prog 71 (Code.loop scope_Table_look_3_L0) (blkK 0 (seqK (sx fn_ Tryd.prog 71 scope_Table_look_3_R1 (retK Tryd.prog [ResultVar.tmp 5] R)) (retK Tryd.prog [ResultVar.tmp 5] R))) (up (up (up (up (rho0 [a0, a1, a2, a3]) 5 (Value.bool false)) 11 a0) 12 x12) 13 (Value.int IntKind.i64 0)) w
theorem scope_Table_look_3_eq (a0 a1 a2 a3 : Value) (w : World) (R : Value → World → Prop) : sx fn_ Tryd.prog 71 scope_Table_look_3_b (retK Tryd.prog Tryd.f62.results.toList R) (rho0 [a0, a1, a2, a3]) w = scope_Table_look_3_F a0 a1 a2 a3 w R := by kernel_rfl
theorem scope_Table_look_3_calls {a0 a1 a2 a3 : Value} {w : World} {R : Value → World → Prop} (h : scope_Table_look_3_F a0 a1 a2 a3 w R) : Calls Tryd.prog 62 #[a0, a1, a2, a3] w fun e w' => ∃ v, e = .returned v ∧ R v w' :=
  Go.X.calls_of_sx (n := 71) (c := scope_Table_look_3_b) Tryd.func62 (by kernel_rfl) (by kernel_rfl) (Nat.le_of_ble_eq_true rfl) (by kernel_rfl) (Eq.mpr (scope_Table_look_3_eq a0 a1 a2 a3 w R) h)
/-- dispatcher/scope.Check -/
noncomputable def scope_Check_b : Code := (Tryd.f14.body).getD .skip
noncomputable def scope_Check_F (a0 : Value) (w : World) (R : Value → World → Prop) : Prop :=
  VK Tryd.prog (Instr.box 25 a0) w fun x1 w => VK Tryd.prog (Instr.alloc 30 true (.tuple #[])) w fun x2 w => VK Tryd.prog (Instr.loadAt 25 x1) w fun x6 w => CK Tryd.prog (Value.func (Fn.func 13) #[] #[]) [x6] w fun x7 w => VK Tryd.prog (Instr.extract x7 0) w fun x8 w => VK Tryd.prog (Instr.extract x7 1) w fun x9 w => VK Tryd.prog (Instr.alloc 30 true (.tuple #[])) w fun x4 w => UK Tryd.prog (Instr.storeAt 30 x4 x9) w fun _ w => VK Tryd.prog (Instr.loadAt 30 x4) w fun x10 w => UK Tryd.prog (Instr.storeAt 30 x2 x10) w fun _ w => ∃ x2_1, (do loadVar 30 (← asAddr x2) : Sem Value).run Tryd.prog w = .ok x2_1 w ∧ R x2_1 w
theorem scope_Check_eq (a0 : Value) (w : World) (R : Value → World → Prop) : sx fn_ Tryd.prog 11 scope_Check_b (retK Tryd.prog Tryd.f14.results.toList R) (rho0 [a0]) w = scope_Check_F a0 w R := by kernel_rfl
theorem scope_Check_calls {a0 : Value} {w : World} {R : Value → World → Prop} (h : scope_Check_F a0 w R) : Calls Tryd.prog 14 #[a0] w fun e w' => ∃ v, e = .returned v ∧ R v w' :=
  Go.X.calls_of_sx (n := 11) (c := scope_Check_b) Tryd.func14 (by kernel_rfl) (by kernel_rfl) (Nat.le_of_ble_eq_true rfl) (by kernel_rfl) (Eq.mpr (scope_Check_eq a0 w R) h)
end Go.Proofs.YtbnbcimjapiicaaDoor.XG
set_option linter.unusedVariables false
set_option linter.unusedSimpArgs false
set_option maxRecDepth 4000
namespace Go.Proofs.YtbnbcimjapiicaaDoor.Tr
open Go Go.X Go.RowKit Go.Proofs.YtbnbcimjapiicaaDoor.XG Go.Proofs.YtbnbcimjapiicaaDoor.XK
/-- What a name is. -/
structure En where
  kind : Int
  slot : Int
  base : Int
  places : Int
def En.cells (e : En) : List Value := [.int .u8 e.kind, .int .i64 e.slot, .int .i64 e.base, .int .i64 e.places]
def En.v (e : En) : Value := .agg e.cells.toArray
def zEn : En := ⟨0, 0, 0, 0⟩
abbrev Key := List UInt8
def De.key (d : De) : Key := d.name.data.toList
def isV (d : De) : Bool := decide (d.places = 0)
def vars (l : List De) : Nat := (l.filter isV).length
def arrs (l : List De) : List Int := (l.filter fun d => !isV d).map De.places
def cellsP : List De → Int
  | [] => 0
  | d :: r => d.places + cellsP r
/-- The entry of a declaration behind others. -/
def nu (pre : List De) (d : De) : En := if d.places = 0 then ⟨1, vars pre, 0, 0⟩ else ⟨2, (arrs pre).length, cellsP pre, d.places⟩
def findF (pre : List De) : List De → Key → En
  | [], _ => zEn
  | d :: r, k => if d.key = k then nu pre d else findF (pre ++ [d]) r k
def findP (l : List De) (k : Key) : En := findF [] l k
theorem vars_snoc (l : List De) (d : De) : vars (l ++ [d]) = vars l + if isV d then 1 else 0 := by
  unfold vars; rw [List.filter_append, List.length_append]; congr 1; by_cases h : isV d <;> simp [h]
theorem arrs_snoc (l : List De) (d : De) : arrs (l ++ [d]) = arrs l ++ if isV d then [] else [d.places] := by
  unfold arrs; rw [List.filter_append, List.map_append]; congr 1; by_cases h : isV d <;> simp [h]
theorem cellsP_snoc (l : List De) (d : De) : cellsP (l ++ [d]) = cellsP l + d.places := by
  induction l with
  | nil => simp [cellsP]
  | cons a r ih => simp only [List.cons_append, cellsP, ih]; omega
theorem findF_no (k : Key) : ∀ (l1 pre l2 : List De), (∀ a ∈ l1, a.key ≠ k) → findF pre (l1 ++ l2) k = findF (pre ++ l1) l2 k
  | [], pre, l2, _ => by simp
  | d :: r, pre, l2, h => by
    rw [List.cons_append, findF, if_neg (h d (by simp)), findF_no k r _ _ (fun a ha => h a (List.mem_cons_of_mem _ ha)), List.append_assoc]
    rfl
theorem nu_kind (pre : List De) (d : De) : (nu pre d).kind ≠ 0 := by unfold nu; split <;> simp
theorem arrs_le (l : List De) : (arrs l).length ≤ l.length := by unfold arrs; rw [List.length_map]; exact List.length_filter_le _ _
theorem may_places {d : De} (h : d.may = true) : 0 ≤ d.places ∧ d.places ≤ 1000 := by
  unfold De.may at h
  simp only [Bool.and_eq_true, decide_eq_true_eq] at h
  exact ⟨h.1.2, h.2⟩
theorem cellsP_le {l : List De} (h : ∀ d ∈ l, d.may = true) : 0 ≤ cellsP l ∧ cellsP l ≤ 1000 * l.length := by
  induction l with
  | nil => simp [cellsP]
  | cons d r ih =>
    have h1 := may_places (h d (by simp))
    have h2 := ih (fun a ha => h a (List.mem_cons_of_mem _ ha))
    simp only [cellsP, List.length_cons]
    omega
theorem zEnt : (Tryd.prog.info? 37).bind (·.zero) = some (.agg zEn.cells.toArray) := by kernel_rfl
theorem iEnt : (Tryd.prog.info? 37).map (·.size) = some 4 := by kernel_rfl
theorem bEnt0 : Tryd.prog.built 37 [] = some zEn.cells.toArray := by kernel_rfl
theorem bEnt1 (n : Int) : Tryd.prog.built 37 [(0, .int .u8 1), (1, .int .i64 n)] = some (En.mk 1 n 0 0).cells.toArray := by kernel_rfl
theorem bEnt2 (a b c : Int) : Tryd.prog.built 37 [(0, .int .u8 2), (1, .int .i64 a), (2, .int .i64 b), (3, .int .i64 c)] = some (En.mk 2 a b c).cells.toArray := by kernel_rfl
theorem en_one (e : En) : (e.cells.toArray.all (·.oneCell')) = true := by simp [En.cells, Value.oneCell']
theorem uSt : Tryd.prog.underlying 9 = some .string := by kernel_rfl
end Go.Proofs.YtbnbcimjapiicaaDoor.Tr
set_option linter.unusedVariables false
set_option linter.unusedSimpArgs false
set_option maxRecDepth 4000
namespace Go.Proofs.YtbnbcimjapiicaaDoor.Tr
open Go Go.X Go.RowKit Go.Proofs.YtbnbcimjapiicaaDoor.XG Go.Proofs.YtbnbcimjapiicaaDoor.XK
/-- What is wrong, and where. -/
structure Wr where
  err : Int
  line : Int
  col : Int
deriving DecidableEq
def Wr.cells (e : Wr) : List Value := [.int .i64 e.err, .int .i64 e.line, .int .i64 e.col]
def Wr.v (e : Wr) : Value := .agg e.cells.toArray
def zWr : Wr := ⟨0, 0, 0⟩
theorem zWrg : (Tryd.prog.info? 30).bind (·.zero) = some (.agg zWr.cells.toArray) := by kernel_rfl
theorem iWrg : (Tryd.prog.info? 30).map (·.size) = some 3 := by kernel_rfl
theorem bWr0 : Tryd.prog.built 30 [] = some zWr.cells.toArray := by kernel_rfl
theorem bWr1 (n : Int) : Tryd.prog.built 30 [(0, .int .i64 n)] = some (Wr.mk n 0 0).cells.toArray := by kernel_rfl
theorem bWr3 (n a b : Int) : Tryd.prog.built 30 [(0, .int .i64 n), (1, .int .i64 a), (2, .int .i64 b)] = some (Wr.mk n a b).cells.toArray := by kernel_rfl
theorem wr_one (e : Wr) : (e.cells.toArray.all (·.oneCell')) = true := by simp [Wr.cells, Value.oneCell']
theorem isU (w : World) : (isAgg 5).run Tryd.prog w = .ok false w := by unfold isAgg; rw [Sem.run_bind, run_underlying Tryd.underlying5 w]; rfl
theorem fldK {w : World} {K : Value → World → Prop} (e : En) : VK Tryd.prog (Instr.field 37 e.v 0) w K = K (.int .u8 e.kind) w := by
  refine VK_eq_of ?_
  unfold Instr.field
  simp [Sem.run_bind, run_underlying Tryd.underlying37, part, isU, En.v, En.cells, asAgg]
end Go.Proofs.YtbnbcimjapiicaaDoor.Tr
namespace Go.X
open Go Go.Proofs.YtbnbcimjapiicaaDoor.Tr
/-- What is wrong with names, of an expression, of statements. -/
def Ex.bad (f : Key → Int) (e : Ex) : Bool := decide (e.op = 2 ∧ f e.name.data.toList ≠ 1) || decide (e.op = 3 ∧ f e.name.data.toList ≠ 2)
def St.bad (f : Key → Int) (e : St) : Bool := decide ((e.op = 1 ∨ e.op = 5) ∧ f e.name.data.toList ≠ 1) || decide (e.op = 2 ∧ f e.name.data.toList ≠ 2)
mutual
def Ex.wr (f : Key → Int) : Ex → Wr
  | ⟨op, num, name, s, args, line, col⟩ => if Ex.bad f ⟨op, num, name, s, args, line, col⟩ then ⟨40, line, col⟩ else Ex.wrL f args
def Ex.wrL (f : Key → Int) : List Ex → Wr
  | [] => zWr
  | e :: r => if (Ex.wr f e).err = 0 then Ex.wrL f r else Ex.wr f e
end
mutual
def St.wr (f : Key → Int) : St → Wr
  | ⟨op, kind, red, name, turns, es, exprs, bs, body, ls, els, line, col⟩ => if St.bad f ⟨op, kind, red, name, turns, es, exprs, bs, body, ls, els, line, col⟩ then ⟨40, line, col⟩ else
    if (Ex.wrL f exprs).err = 0 then (if (St.wrL f body).err = 0 then St.wrL f els else St.wrL f body) else Ex.wrL f exprs
def St.wrL (f : Key → Int) : List St → Wr
  | [] => zWr
  | e :: r => if (St.wr f e).err = 0 then St.wrL f r else St.wr f e
end
theorem Ex.wr_eq (f : Key → Int) (e : Ex) : e.wr f = if e.bad f then ⟨40, e.line, e.col⟩ else Ex.wrL f e.args := by obtain ⟨op, num, name, s, args, line, col⟩ := e; rw [Ex.wr]
theorem St.wr_eq (f : Key → Int) (e : St) : e.wr f = if e.bad f then ⟨40, e.line, e.col⟩ else if (Ex.wrL f e.exprs).err = 0 then (if (St.wrL f e.body).err = 0 then St.wrL f e.els else St.wrL f e.body) else Ex.wrL f e.exprs := by obtain ⟨op, kind, red, name, turns, es, exprs, bs, body, ls, els, line, col⟩ := e; rw [St.wr]
theorem Ex.wrL_all {f : Key → Int} : ∀ {l : List Ex}, (∀ a ∈ l, (a.wr f).err = 0) → Ex.wrL f l = zWr
  | [], _ => by rw [Ex.wrL]
  | e :: r, h => by rw [Ex.wrL, if_pos (h e (by simp)), Ex.wrL_all fun a ha => h a (List.mem_cons_of_mem _ ha)]
theorem St.wrL_all {f : Key → Int} : ∀ {l : List St}, (∀ a ∈ l, (a.wr f).err = 0) → St.wrL f l = zWr
  | [], _ => by rw [St.wrL]
  | e :: r, h => by rw [St.wrL, if_pos (h e (by simp)), St.wrL_all fun a ha => h a (List.mem_cons_of_mem _ ha)]
theorem Ex.wrL_at {f : Key → Int} : ∀ {l : List Ex} {n : Nat} {e : Ex}, l[n]? = some e → (∀ a ∈ l.take n, (a.wr f).err = 0) → (e.wr f).err ≠ 0 → Ex.wrL f l = e.wr f
  | [], n, e, h, _, _ => by simp at h
  | a :: r, 0, e, h, _, hb => by simp at h; subst h; rw [Ex.wrL, if_neg hb]
  | a :: r, n + 1, e, h, hn, hb => by
    rw [Ex.wrL, if_pos (hn a (by simp)), Ex.wrL_at (by simpa using h) (fun a ha => hn a (by simp; right; exact ha)) hb]
theorem St.wrL_at {f : Key → Int} : ∀ {l : List St} {n : Nat} {e : St}, l[n]? = some e → (∀ a ∈ l.take n, (a.wr f).err = 0) → (e.wr f).err ≠ 0 → St.wrL f l = e.wr f
  | [], n, e, h, _, _ => by simp at h
  | a :: r, 0, e, h, _, hb => by simp at h; subst h; rw [St.wrL, if_neg hb]
  | a :: r, n + 1, e, h, hn, hb => by
    rw [St.wrL, if_pos (hn a (by simp)), St.wrL_at (by simpa using h) (fun a ha => hn a (by simp; right; exact ha)) hb]
theorem Ex.wr_z {f : Key → Int} : ∀ e : Ex, (e.wr f).err = 0 → e.wr f = zWr := by
  intro e
  induction e using Ex.ind with
  | h e ih =>
    rw [Ex.wr_eq]
    split
    · intro h; simp at h
    · have : ∀ l : List Ex, (∀ a ∈ l, (a.wr f).err = 0 → a.wr f = zWr) → (Ex.wrL f l).err = 0 → Ex.wrL f l = zWr := by
        intro l
        induction l with
        | nil => intro _ _; rw [Ex.wrL]
        | cons a r ihr =>
          intro hl
          rw [Ex.wrL]
          split
          · exact ihr fun b hb => hl b (List.mem_cons_of_mem _ hb)
          · intro h; contradiction
      exact this e.args ih
theorem Ex.wrL_z {f : Key → Int} : ∀ l : List Ex, (Ex.wrL f l).err = 0 → Ex.wrL f l = zWr
  | [], _ => by rw [Ex.wrL]
  | a :: r, h => by
    rw [Ex.wrL] at h ⊢
    split at h
    · rename_i q; rw [if_pos q]; exact Ex.wrL_z r h
    · contradiction
theorem St.wrL_z {f : Key → Int} : ∀ l : List St, (∀ a ∈ l, (a.wr f).err = 0 → a.wr f = zWr) → (St.wrL f l).err = 0 → St.wrL f l = zWr
  | [], _, _ => by rw [St.wrL]
  | a :: r, hl, h => by
    rw [St.wrL] at h ⊢
    split at h
    · rename_i q; rw [if_pos q]; exact St.wrL_z r (fun b hb => hl b (List.mem_cons_of_mem _ hb)) h
    · contradiction
theorem St.wr_z {f : Key → Int} : ∀ e : St, (e.wr f).err = 0 → e.wr f = zWr := by
  intro e
  induction e using St.ind with
  | h e ih1 ih2 =>
    rw [St.wr_eq]
    split
    · intro h; simp at h
    · split
      · split
        · exact St.wrL_z _ ih2
        · intro h; contradiction
      · intro h; contradiction
end Go.X
set_option linter.unusedVariables false
set_option linter.unusedSimpArgs false
set_option maxRecDepth 4000
namespace Go.Proofs.YtbnbcimjapiicaaDoor.Tr
open Go Go.X Go.RowKit Go.Proofs.YtbnbcimjapiicaaDoor.XG Go.Proofs.YtbnbcimjapiicaaDoor.XK
/-- What declarations tell of a name. -/
def kindP (l : List De) : Key → Int := fun k => (findP l k).kind
structure Decls (l : List De) : Prop where
  len : l.length ≤ 1099511627776
  may : ∀ d ∈ l, d.may = true
theorem uErrI : Tryd.prog.underlying 28 = some (.int .i64) := by kernel_rfl
end Go.Proofs.YtbnbcimjapiicaaDoor.Tr
set_option linter.unusedVariables false
set_option linter.unusedSimpArgs false
set_option maxRecDepth 4000
namespace Go.Proofs.YtbnbcimjapiicaaDoor.Tr
open Go Go.X Go.RowKit Go.Proofs.YtbnbcimjapiicaaDoor.XG Go.Proofs.YtbnbcimjapiicaaDoor.XK
end Go.Proofs.YtbnbcimjapiicaaDoor.Tr
set_option linter.unusedVariables false
set_option linter.unusedSimpArgs false
set_option maxRecDepth 4000
namespace Go.Proofs.YtbnbcimjapiicaaDoor.Tr
open Go Go.X Go.RowKit Go.Proofs.YtbnbcimjapiicaaDoor.XG Go.Proofs.YtbnbcimjapiicaaDoor.XK
def encK (k : Key) : Value := .string ⟨k.toArray⟩
theorem encK_of (b : ByteArray) : encK b.data.toList = .string b := by unfold encK; simp
theorem beqB (a b : Key) : ((⟨a.toArray⟩ : ByteArray) == ⟨b.toArray⟩) = decide (a = b) := by
  show ((a.toArray : Array UInt8) == b.toArray) = decide (a = b)
  by_cases h : a = b
  · subst h; simp
  · rw [decide_eq_false h]
    apply Bool.eq_false_iff.2
    intro q
    apply h
    have := eq_of_beq q
    simpa using this
theorem chkS (e : Bool) (n : Nat) (k : ByteArray) (w : World) : (Instr.checkKey e (n + 1) 9 (.string k)).run Tryd.prog w = .ok () w := by
  simp [Instr.checkKey, Sem.run_bind, run_underlying uSt]
theorem KT : KeyT Tryd.prog 9 encK where
  find := fun k l w => by
    have gen : ∀ (l : List (Ent Key)) (i : Nat), Instr.findNow .string (encK k) (l.map (Ent.enc encK)) i = some (findE k l i) := by
      intro l
      induction l with
      | nil => intro i; rfl
      | cons e r ih =>
        intro i
        simp only [List.map_cons, Instr.findNow, Ent.enc, encK, Instr.sameNow, beqB, findE]
        by_cases h : k = e.k
        · simp [h]
        · simp only [h, decide_false, if_false]
          exact ih (i + 1)
    unfold Instr.findKey
    rw [Sem.run_bind, run_underlying uSt]
    simp only [Result.andThen_ok, gen]
    rfl
  check := fun e k w => chkS e 9999 _ w
  bits := fun k => by
    show Instr.sameBits (9999 + 1) _ _ = true
    simp [encK, Instr.sameBits]
    show ((k.toArray : Array UInt8) == k.toArray) = true
    simp
  inj := fun a b h => by simpa [encK] using h
/-- What a map tells of a key. -/
def valE (k : Key) (l : List (Ent Key)) : Value := match findE k l 0 with | some (_, v) => v | none => zEn.v
theorem uMap : Tryd.prog.underlying 69 = some (.map 9 37) := by kernel_rfl
theorem look_ok {w : World} {K : Value → World → Prop} {b : Nat} {l : List (Ent Key)} {c : Nat} (h : IsMap encK w b l c) (k : ByteArray) (hk : K (valE k.data.toList l) w) : VK Tryd.prog (Instr.lookup 69 (.map (some b)) (.string k) false) w K := by
  have hr := run_look KT uMap h zEnt k.data.toList false
  rw [encK_of] at hr
  refine VK_of hr ?_
  unfold valE at hk
  cases hf : findE k.data.toList l 0 with
  | none => rw [hf] at hk; exact hk
  | some p => obtain ⟨i, v⟩ := p; rw [hf] at hk; exact hk
/-- A table in memory: of these declarations, all well. -/
structure TbAt (w : World) (base t : Nat) (ds : List De) : Prop where
  at' : ∃ nv av m l c, w.heap[t]? = some (.cells #[nv, .map (some m), .int .i64 (vars ds), av, .int .i64 (cellsP ds)] 71 (0, 0)) ∧
    IsMap encK w m l c ∧ (∀ k, valE k l = (findP ds k).v) ∧ base ≤ t ∧ base ≤ m ∧
    w.ownsRow base 9 1 nv ds.length (ds.map fun d => .string d.name) ∧ w.ownsRow base 3 1 av (arrs ds).length ((arrs ds).map (.int .i64))
end Go.Proofs.YtbnbcimjapiicaaDoor.Tr
set_option linter.unusedVariables false
set_option linter.unusedSimpArgs false
set_option maxRecDepth 4000
namespace Go.Proofs.YtbnbcimjapiicaaDoor.Tr
open Go Go.X Go.RowKit Go.Proofs.YtbnbcimjapiicaaDoor.XG Go.Proofs.YtbnbcimjapiicaaDoor.XK
theorem TbAt.mod {w w' : World} {base t : Nat} {ds : List De} (h : TbAt w base t ds) (hm : Mod none_ w w') : TbAt w' base t ds := by
  obtain ⟨nv, av, m, l, c, h1, h2, h3, h4, h5, h6, h7⟩ := h.at'
  exact ⟨⟨nv, av, m, l, c, hm.blk h1 id, h2.mod hm id, h3, h4, h5, owns_mod h6 hm (fun _ _ => id), owns_mod h7 hm (fun _ _ => id)⟩⟩
abbrev pt (b : Nat) : Value := .pointer (some ⟨b, 0, none⟩)
/-- Where the closures' variables lie. -/
structure Cx where
  w0 : World
  base : Nat
  t : Nat
  x2 : Nat
  x5 : Nat
  x6 : Nat
  x7 : Nat
  x8 : Nat
  ds : List De
structure Clo (C : Cx) (r : Wr) (w : World) : Prop where
  m : Mod none_ C.w0 w
  tb : TbAt C.w0 C.base C.t C.ds
  b2 : w.heap[C.x2]? = some (.cells #[pt C.t] 32 (0, 0))
  b5 : w.heap[C.x5]? = some (.cells r.cells.toArray 30 (0, 0))
  b6 : w.heap[C.x6]? = some (.cells #[.func (.func 60) #[] #[pt C.x2, pt C.x5]] 89 (0, 0))
  b7 : w.heap[C.x7]? = some (.cells #[.func (.func 61) #[] #[pt C.x6, pt C.x7]] 90 (0, 0))
  b8 : w.heap[C.x8]? = some (.cells #[.func (.func 62) #[] #[pt C.x6, pt C.x7, pt C.x8]] 64 (0, 0))
  d : C.x2 ≠ C.x5 ∧ C.x6 ≠ C.x5 ∧ C.x7 ≠ C.x5 ∧ C.x8 ≠ C.x5 ∧ C.w0.heap.size ≤ C.x5
theorem Clo.step {C : Cx} {r : Wr} {w w' : World} (h : Clo C r w) (hm : Mod none_ w w') : Clo C r w' :=
  ⟨h.m.trans hm, h.tb, hm.blk h.b2 id, hm.blk h.b5 id, hm.blk h.b6 id, hm.blk h.b7 id, hm.blk h.b8 id, h.d⟩
theorem Clo.put {C : Cx} {r r' : Wr} {w w' : World} (h : Clo C r w) (hm : Mod (fun i => i = C.x5) w w') (hb : w'.heap[C.x5]? = some (.cells r'.cells.toArray 30 (0, 0))) : Clo C r' w' :=
  ⟨h.m.then hm (fun i hi q => by have := h.d.2.2.2.2; omega), h.tb, hm.blk h.b2 h.d.1, hb, hm.blk h.b6 h.d.2.1, hm.blk h.b7 h.d.2.2.1, hm.blk h.b8 h.d.2.2.2.1, h.d⟩
theorem uMp : Tryd.prog.underlying 69 = some (.map 9 37) := by kernel_rfl
theorem must_ok {C : Cx} {w : World} (h : Clo C zWr w) (k : ByteArray) (kd l c : Int) :
    Rt Tryd.prog 60 #[.string k, .int .u8 kd, .int .i64 l, .int .i64 c, pt C.x2, pt C.x5] w fun v w' => v = .bool (decide (kindP C.ds k.data.toList = kd)) ∧ Clo C (if kindP C.ds k.data.toList = kd then zWr else ⟨40, l, c⟩) w' ∧ Mod (fun i => i = C.x5) w w' := by
  obtain ⟨nv, av, m, es, ck, h1, h2, h3, h4, h5, h6, h7⟩ := (h.tb.mod h.m).at'
  refine scope_Table_look_1_calls ?_
  unfold scope_Table_look_1_F
  refine ldOne rfl Tryd.underlying32 rfl h.b2 ?_
  rw [NK_ptr]
  have f1 : FAt Tryd.prog w 71 1 ⟨C.t, 0, none⟩ 69 (.map (some m)) := FAt.mk' (off := 1) (by kernel_rfl) uMp rfl (by rw [add_pl, cell_blk h1]; rfl)
  refine f1.vk' fun x13 => ?_
  refine look_ok h2 k ?_
  rw [h3, fldK]
  have fin : ∀ (ρ' : Sl) (w' : World) (r : Wr), Clo C r w' → Mod (fun i => i = C.x5) w w' → ρ' 5 = pt C.x5 → (r = if kindP C.ds k.data.toList = kd then zWr else ⟨40, l, c⟩) →
      sx fn_ Tryd.prog 26 scope_Table_look_1_R0 (retK Tryd.prog [ResultVar.tmp 10] fun v w' => v = .bool (decide (kindP C.ds k.data.toList = kd)) ∧ Clo C (if kindP C.ds k.data.toList = kd then zWr else ⟨40, l, c⟩) w' ∧ Mod (fun i => i = C.x5) w w') ρ' w' := by
    intro ρ' w' r hc hmm q5 hr
    have g0 : FAt Tryd.prog w' 30 0 ⟨C.x5, 0, none⟩ 28 (.int .i64 r.err) := FAt.mk' (off := 0) (by kernel_rfl) uErrI rfl (by rw [add_pl, cell_blk hc.b5]; rfl)
    rw [scope_Table_look_1_R0_eq]
    unfold scope_Table_look_1_R0_F
    rw [q5]
    refine g0.vk' fun x23 => ?_
    rw [BK_eql]
    refine ⟨?_, hr ▸ hc, hmm⟩
    show Value.bool _ = _
    rw [hr]
    by_cases q : kindP C.ds k.data.toList = kd <;> simp [q, zWr]
  refine BKneI (a := kindP C.ds k.data.toList) (b := kd) rfl rfl (fun hq => condF ?_) (fun hq => condT ?_)
  · exact fin _ w zWr h (Mod.refl _ _) rfl (by rw [if_pos hq])
  · rw [build_ok (bWr3 _ _ _)]
    refine stS (b := C.x5) (old := zWr.cells.toArray) (cs := (Wr.mk 40 l c).cells.toArray) rfl rfl iWrg rfl (wr_one _) h.b5 fun w2 hb2 hm2 _ => ?_
    exact fin _ w2 ⟨40, l, c⟩ (h.put hm2 hb2) hm2 rfl (by rw [if_neg hq])
/-- An expression, looked at by the program. -/
theorem exprC_ok {C : Cx} : ∀ (e : Ex) (w : World), Clo C zWr w → e.Ok C.w0 → e.sz ≤ 1099511627776 →
    Rt Tryd.prog 61 #[.agg e.cells.toArray, pt C.x6, pt C.x7] w fun v w' => v = .bool (decide ((e.wr (kindP C.ds)).err = 0)) ∧ Clo C (e.wr (kindP C.ds)) w' ∧ Mod (fun i => i = C.x5) w w' := by
  intro e
  induction e using Ex.ind with
  | h e ih =>
    intro w hC hok hsz
    obtain ⟨A, c, hs, _⟩ := reads_cap hok.args.1
    have hszL : Ex.szL e.args ≤ 1099511627776 := by rw [Ex.sz_eq] at hsz; omega
    have hlen := Ex.len_sz e.args
    have hwr := Ex.wr_eq (kindP C.ds) e
    refine scope_Table_look_2_calls ?_
    unfold scope_Table_look_2_F
    refine box_k (cs := e.cells.toArray) rfl fun w1 hb1 hm1 hz1 => ?_
    have hC1 := hC.step hm1
    have hx5 : C.x5 < w.heap.size := blk_lt hC.b5
    generalize hbe : w.heap.size = be at *
    have d0 : FAt Tryd.prog w1 60 0 ⟨be, 0, none⟩ 5 (.int .u8 e.op) := FAt.mk' (off := 0) (by kernel_rfl) uU8 rfl (by rw [add_pl, cell_blk hb1]; rfl)
    have d2 : FAt Tryd.prog w1 60 2 ⟨be, 0, none⟩ 9 (.string e.name) := FAt.mk' (off := 2) (by kernel_rfl) uSt rfl (by rw [add_pl, cell_blk hb1]; rfl)
    have d4 : FAt Tryd.prog w1 60 4 ⟨be, 0, none⟩ 3 (.int .i64 e.line) := FAt.mk' (off := 4) (by kernel_rfl) uI rfl (by rw [add_pl, cell_blk hb1]; rfl)
    have d5 : FAt Tryd.prog w1 60 5 ⟨be, 0, none⟩ 3 (.int .i64 e.col) := FAt.mk' (off := 5) (by kernel_rfl) uI rfl (by rw [add_pl, cell_blk hb1]; rfl)
    have r0 : ∀ (ρ' : Sl) (w2 : World) (r : Wr), Clo C r w2 → Mod (fun i => i = C.x5) w w2 → w2.heap[be]? = some (.cells e.cells.toArray 60 (0, 0)) → ρ' 3 = pt be → ρ' 2 = pt C.x7 → ρ' 5 = .bool (decide (r.err = 0)) → (r.err = 0 → r = zWr ∧ e.bad (kindP C.ds) = false) → (r.err ≠ 0 → e.wr (kindP C.ds) = r) →
        sx fn_ Tryd.prog 45 scope_Table_look_2_R0 (retK Tryd.prog [ResultVar.tmp 4] fun v w' => v = .bool (decide ((e.wr (kindP C.ds)).err = 0)) ∧ Clo C (e.wr (kindP C.ds)) w' ∧ Mod (fun i => i = C.x5) w w') ρ' w2 := by
      intro ρ' w2 r hC2 hmm hb2 q3 q2 q5 hr0 hr1
      rw [scope_Table_look_2_R0_eq]
      unfold scope_Table_look_2_R0_F
      have f3 : FAt Tryd.prog w2 60 3 ⟨be, 0, none⟩ 58 (.slice A e.args.length c) := FAt.mk' (off := 3) (by kernel_rfl) uExs rfl (by rw [add_pl, cell_blk hb2, ← hs]; rfl)
      refine f3.vs q3 fun x30 => ?_
      rw [len58]
      refine W_loop scope_Table_look_2_L1_ok (fun ρ w' => ∃ (n : Nat) (r : Wr), n ≤ e.args.length ∧ ρ 33 = .int .i64 n ∧ ρ 32 = .int .i64 e.args.length ∧ ρ 31 = .slice A e.args.length c ∧ ρ 2 = pt C.x7 ∧ ρ 5 = .bool (decide (r.err = 0)) ∧ Clo C r w' ∧ Mod (fun i => i = C.x5) w w' ∧ (r.err = 0 → r = zWr ∧ e.bad (kindP C.ds) = false ∧ ∀ a ∈ e.args.take n, (a.wr (kindP C.ds)).err = 0) ∧ (r.err ≠ 0 → e.wr (kindP C.ds) = r)) (fun ρ _ => e.args.length - (intOf (ρ 33)).toNat)
        ⟨0, r, Nat.zero_le _, rfl, rfl, rfl, q2, q5, hC2, hmm, fun q => ⟨(hr0 q).1, (hr0 q).2, by simp⟩, hr1⟩ ?_
      rintro ρ w3 ⟨n, r, hn, h33, h32, h31, h2, h5, hC3, hm3, g0, g1⟩
      rw [scope_Table_look_2_L1_eq]
      unfold scope_Table_look_2_L1_F
      rw [h33, h32, h31]
      refine BKlss (a := n) (b := e.args.length) rfl rfl ?_
      by_cases hlt : n < e.args.length
      · rw [show decide ((n : Int) < (e.args.length : Int)) = true by rw [decide_eq_true_eq]; omega]
        refine condT ?_
        have hx : e.args[n]? = some e.args[n] := List.getElem?_eq_getElem hlt
        have hmem : e.args[n] ∈ e.args := List.getElem_mem hlt
        have hok3 := hok.args.mod hC3.m
        rw [hs] at hok3
        have hs2 := Ex.szL_at hx
        refine ixEx hok3 hx fun y => ?_
        refine lcl_k (cs := e.args[n].cells.toArray) zEx _ iEx rfl (ex_one (hok3.at hx)) fun w4 hb4 hm4 _ => ?_
        have hC4 := hC3.step hm4
        generalize w3.heap.size = b7 at *
        rw [h5]
        by_cases hz : r.err = 0
        · obtain ⟨rfl, hbad, hall⟩ := g0 hz
          rw [show decide (zWr.err = 0) = true from rfl]
          simp only [CondK_bool, MG_u, NG_u, VG_u, UG_u, PG_u, BG_u, CG_u, IG_u, MG_b, NG_b, VG_b, UG_b, PG_b, BG_b, CG_b, IG_b, PK_bool, NK_ptr, not_ok, reduceCtorEq, if_true, if_false, Bool.true_eq_false, Bool.false_eq_true, Bool.not_true, Bool.not_false]
          refine ldOne h2 Tryd.underlying90 rfl hC4.b7 ?_
          refine ldS (cs := e.args[n].cells.toArray) rfl Tryd.underlying60 rfl iEx hb4 ?_
          refine CK_fn (f := 61) (first := #[]) (cap := #[pt C.x6, pt C.x7]) (args := [.agg e.args[n].cells.toArray]) Tryd.func61 rfl rfl (ih _ hmem w4 hC4 (hok.args.2 _ hmem) (by omega)) ?_
          rintro _ w5 ⟨rfl, hC5, hm5⟩
          refine BKadd (a := n) (b := 1) rfl rfl (by omega) (by omega) ?_
          refine ⟨⟨n + 1, e.args[n].wr (kindP C.ds), hlt, rfl, h32, h31, ?_, rfl, hC5, ((hm3.trans (hm4.mono fun _ _ q => q.elim)).trans hm5), fun q => ⟨Ex.wr_z _ q, hbad, ?_⟩, fun q => ?_⟩, ?_⟩
          · exact h2
          · rw [List.take_add_one, hx, Option.toList_some]
            intro a ha
            rcases List.mem_append.1 ha with ha | ha
            · exact hall a ha
            · rw [List.mem_singleton.1 ha]; exact q
          · rw [hwr, hbad, ← Ex.wrL_at hx hall q]; rfl
          · show e.args.length - (intOf (Value.int .i64 ((n : Int) + 1))).toNat < _
            simp only [intOf]; omega
        · rw [decide_eq_false hz]
          simp only [CondK_bool, MG_u, NG_u, VG_u, UG_u, PG_u, BG_u, CG_u, IG_u, MG_b, NG_b, VG_b, UG_b, PG_b, BG_b, CG_b, IG_b, PK_bool, NK_ptr, not_ok, reduceCtorEq, if_true, if_false, Bool.true_eq_false, Bool.false_eq_true, Bool.not_true, Bool.not_false]
          refine BKadd (a := n) (b := 1) rfl rfl (by omega) (by omega) ?_
          refine ⟨⟨n + 1, r, hlt, rfl, h32, h31, ?_, ?_, hC4, (hm3.trans (hm4.mono fun _ _ q => q.elim)), fun q => absurd q hz, g1⟩, ?_⟩
          · exact h2
          · show Value.bool false = _
            rw [decide_eq_false hz]
          · show e.args.length - (intOf (Value.int .i64 ((n : Int) + 1))).toNat < _
            simp only [intOf]; omega
      · obtain rfl : n = e.args.length := by omega
        rw [show decide (((e.args.length : Nat) : Int) < (e.args.length : Int)) = false by simp]
        refine condF ?_
        rw [sq_x, bk_x, sq_n, scope_Table_look_2_R2_eq]
        unfold scope_Table_look_2_R2_F
        have hfin : e.wr (kindP C.ds) = r := by
          by_cases hz : r.err = 0
          · obtain ⟨rfl, hbad, hall⟩ := g0 hz
            rw [List.take_length] at hall
            rw [hwr, hbad, ← Ex.wrL_all hall]; rfl
          · exact g1 hz
        refine ⟨?_, ?_, hm3⟩
        · show ρ 5 = _
          rw [h5, hfin]
        · rw [hfin]; exact hC3
    refine d0.vk' fun x8 => ?_
    refine caseI (fun k2 => condT ?_) (fun k2 => condF ?_)
    · refine ldOne rfl Tryd.underlying89 rfl hC1.b6 ?_
      refine d2.vk' fun x13 => d4.vk' fun x15 => d5.vk' fun x17 => ?_
      refine CK_fn (f := 60) (first := #[]) (cap := #[pt C.x2, pt C.x5]) (args := [.string e.name, .int .u8 1, .int .i64 e.line, .int .i64 e.col]) Tryd.func60 rfl rfl (must_ok hC1 e.name 1 e.line e.col) ?_
      rintro v w2 ⟨rfl, hC2, hm2⟩
      have hb2 := hm2.blk hb1 (by omega)
      have hmm := (hm1.mono (S' := fun i => i = C.x5) fun _ _ q => q.elim).trans hm2
      refine r0 _ w2 _ hC2 hmm hb2 rfl rfl ?_ ?_ ?_
      · show Value.bool _ = _
        by_cases q : kindP C.ds e.name.data.toList = 1 <;> simp [q, zWr]
      · intro q
        by_cases q1 : kindP C.ds e.name.data.toList = 1
        · rw [if_pos q1]
          refine ⟨rfl, ?_⟩
          unfold Ex.bad; rw [k2, q1]; rfl
        · rw [if_neg q1] at q; simp at q
      · intro q
        by_cases q1 : kindP C.ds e.name.data.toList = 1
        · rw [if_pos q1] at q; exact absurd rfl q
        · rw [if_neg q1, hwr, if_pos]
          unfold Ex.bad; rw [decide_eq_true ⟨k2, q1⟩]; rfl
    · refine caseI (fun k3 => condT ?_) (fun k3 => condF ?_)
      · refine ldOne rfl Tryd.underlying89 rfl hC1.b6 ?_
        refine d2.vk' fun x13 => d4.vk' fun x15 => d5.vk' fun x17 => ?_
        refine CK_fn (f := 60) (first := #[]) (cap := #[pt C.x2, pt C.x5]) (args := [.string e.name, .int .u8 2, .int .i64 e.line, .int .i64 e.col]) Tryd.func60 rfl rfl (must_ok hC1 e.name 2 e.line e.col) ?_
        rintro v w2 ⟨rfl, hC2, hm2⟩
        have hb2 := hm2.blk hb1 (by omega)
        have hmm := (hm1.mono (S' := fun i => i = C.x5) fun _ _ q => q.elim).trans hm2
        refine r0 _ w2 _ hC2 hmm hb2 rfl rfl ?_ ?_ ?_
        · show Value.bool _ = _
          by_cases q : kindP C.ds e.name.data.toList = 2 <;> simp [q, zWr]
        · intro q
          by_cases q1 : kindP C.ds e.name.data.toList = 2
          · rw [if_pos q1]
            refine ⟨rfl, ?_⟩
            unfold Ex.bad; rw [k3, q1]; rfl
          · rw [if_neg q1] at q; simp at q
        · intro q
          by_cases q1 : kindP C.ds e.name.data.toList = 2
          · rw [if_pos q1] at q; exact absurd rfl q
          · rw [if_neg q1, hwr, if_pos]
            unfold Ex.bad; rw [decide_eq_true (⟨k3, q1⟩ : e.op = 3 ∧ kindP C.ds e.name.data.toList ≠ 2), Bool.or_true]
      · refine r0 _ w1 zWr hC1 (hm1.mono fun _ _ q => q.elim) hb1 rfl rfl rfl ?_ fun q => absurd rfl q
        intro _
        refine ⟨rfl, ?_⟩
        unfold Ex.bad
        simp [k2, k3]
end Go.Proofs.YtbnbcimjapiicaaDoor.Tr
set_option linter.unusedVariables false
set_option linter.unusedSimpArgs false
set_option maxRecDepth 4000
namespace Go.Proofs.YtbnbcimjapiicaaDoor.Tr
open Go Go.X Go.RowKit Go.Proofs.YtbnbcimjapiicaaDoor.XG Go.Proofs.YtbnbcimjapiicaaDoor.XK
def StC (C : Cx) (l : List St) : Prop := ∀ (w : World) (v : Value), Clo C zWr w → StsOk C.w0 v l → St.szL l ≤ 1099511627776 →
  Rt Tryd.prog 62 #[v, pt C.x6, pt C.x7, pt C.x8] w fun v w' => v = .bool (decide ((St.wrL (kindP C.ds) l).err = 0)) ∧ Clo C (St.wrL (kindP C.ds) l) w' ∧ Mod (fun i => i = C.x5) w w'
theorem up0 {S : Nat → Prop} {w w' : World} (h : Mod none_ w w') : Mod S w w' := h.mono fun _ _ q => q.elim
theorem stC_row {C : Cx} {l : List St} (ih : ∀ a ∈ l, StC C a.body ∧ StC C a.els) : StC C l := by
  intro w v hC hok hsz
  obtain ⟨A, c, hs, _⟩ := reads_cap hok.1
  have hlen := St.len_sz l
  refine scope_Table_look_3_calls ?_
  unfold scope_Table_look_3_F
  rw [hs, len23]
  refine W_loop scope_Table_look_3_L0_ok (fun ρ w' => ∃ n : Nat, n ≤ l.length ∧ ρ 13 = .int .i64 n ∧ ρ 12 = .int .i64 l.length ∧ ρ 11 = .slice A l.length c ∧ ρ 1 = pt C.x6 ∧ ρ 2 = pt C.x7 ∧ ρ 3 = pt C.x8 ∧ (∀ a ∈ l.take n, (a.wr (kindP C.ds)).err = 0) ∧ Clo C zWr w' ∧ Mod (fun i => i = C.x5) w w') (fun ρ _ => l.length - (intOf (ρ 13)).toNat)
    ⟨0, Nat.zero_le _, rfl, rfl, rfl, rfl, rfl, rfl, by simp, hC, Mod.refl _ _⟩ ?_
  rintro ρ w2 ⟨n, hn, h13, h12, h11, h1, h2, h3, hall, hC2, hm⟩
  have h : ∀ K : Exit → Sl → World → Prop, (∀ ρ' w', n < l.length → ρ' 13 = .int .i64 ((n : Int) + 1) → ρ' 12 = .int .i64 l.length → ρ' 11 = .slice A l.length c → ρ' 1 = pt C.x6 → ρ' 2 = pt C.x7 → ρ' 3 = pt C.x8 → (∀ a ∈ l.take (n + 1), (a.wr (kindP C.ds)).err = 0) → Clo C zWr w' → Mod (fun i => i = C.x5) w w' → K .normal ρ' w') →
      (∀ ρ' w', ρ' 5 = .bool false → (St.wrL (kindP C.ds) l).err ≠ 0 → Clo C (St.wrL (kindP C.ds) l) w' → Mod (fun i => i = C.x5) w w' → K .ret ρ' w') →
      (∀ ρ', n = l.length → K (.exit 0) ρ' w2) → sx fn_ Tryd.prog 71 scope_Table_look_3_L0 K ρ w2 := by
    intro K kN kR kX
    rw [scope_Table_look_3_L0_eq]
    unfold scope_Table_look_3_L0_F
    rw [h13, h12, h11]
    refine BKlss (a := n) (b := l.length) rfl rfl ?_
    by_cases hlt : n < l.length
    · rw [show decide ((n : Int) < (l.length : Int)) = true by rw [decide_eq_true_eq]; omega]
      refine condT ?_
      have hx : l[n]? = some l[n] := List.getElem?_eq_getElem hlt
      have hmem : l[n] ∈ l := List.getElem_mem hlt
      have hok2 := hok.mod hC2.m
      rw [hs] at hok2
      refine ixSt hok2 hx fun y => ?_
      have hoke := hok.2 _ hmem
      have hsn := St.szL_at hx
      have hsz2 := St.sz_eq l[n]
      obtain ⟨ihB, ihE⟩ := ih _ hmem
      refine lcl_k (cs := l[n].cells.toArray) zSt _ iSt rfl (st_one (hok2.at hx)) fun w3 hb3 hm3 hz3 => ?_
      have hC3 := hC2.step hm3
      have hm03 := hm.trans (up0 hm3)
      have hx5 : C.x5 < w2.heap.size := blk_lt hC2.b5
      generalize w2.heap.size = bS at *
      clear hok2 hm3 hz3 hC2 hm
      have d0 : FAt Tryd.prog w3 62 0 ⟨bS, 0, none⟩ 5 (.int .u8 l[n].op) := FAt.mk' (off := 0) (by kernel_rfl) uU8 rfl (by rw [add_pl, cell_blk hb3]; rfl)
      have d3 : FAt Tryd.prog w3 62 3 ⟨bS, 0, none⟩ 9 (.string l[n].name) := FAt.mk' (off := 3) (by kernel_rfl) uSt rfl (by rw [add_pl, cell_blk hb3]; rfl)
      have d8 : FAt Tryd.prog w3 62 8 ⟨bS, 0, none⟩ 3 (.int .i64 l[n].line) := FAt.mk' (off := 8) (by kernel_rfl) uI rfl (by rw [add_pl, cell_blk hb3]; rfl)
      have d9 : FAt Tryd.prog w3 62 9 ⟨bS, 0, none⟩ 3 (.int .i64 l[n].col) := FAt.mk' (off := 9) (by kernel_rfl) uI rfl (by rw [add_pl, cell_blk hb3]; rfl)
      have hwr := St.wr_eq (kindP C.ds) l[n]
      have ans : (l[n].wr (kindP C.ds)).err ≠ 0 → St.wrL (kindP C.ds) l = l[n].wr (kindP C.ds) := St.wrL_at hx hall
      -- behind the expressions
      have r6 : ∀ (ρ' : Sl) (w4 : World) (r : Wr), Clo C r w4 → Mod (fun i => i = C.x5) w w4 → w4.heap[bS]? = some (.cells l[n].cells.toArray 62 (0, 0)) → ρ' 8 = .bool (decide (r.err = 0)) → ρ' 13 = .int .i64 n → ρ' 12 = .int .i64 l.length → ρ' 11 = .slice A l.length c → ρ' 1 = pt C.x6 → ρ' 2 = pt C.x7 → ρ' 3 = pt C.x8 → ρ' 7 = pt bS →
          (r.err = 0 → r = zWr ∧ l[n].bad (kindP C.ds) = false ∧ (Ex.wrL (kindP C.ds) l[n].exprs).err = 0) → (r.err ≠ 0 → l[n].wr (kindP C.ds) = r) →
          sx fn_ Tryd.prog 71 scope_Table_look_3_R6 (blkK 1 (seqK (sx fn_ Tryd.prog 71 scope_Table_look_3_R4 K) K)) ρ' w4 := by
        intro ρ' w4 r hC4 hm4 hb4 q8 q13 q12 q11 q1 q2 q3 q7 g0 g1
        rw [scope_Table_look_3_R6_eq]
        unfold scope_Table_look_3_R6_F
        have f6 : ∀ w', w'.heap[bS]? = some (.cells l[n].cells.toArray 62 (0, 0)) → FAt Tryd.prog w' 62 6 ⟨bS, 0, none⟩ 23 l[n].bs := fun w' hb => FAt.mk' (off := 6) (by kernel_rfl) uSts rfl (by rw [add_pl, cell_blk hb]; rfl)
        have f7 : ∀ w', w'.heap[bS]? = some (.cells l[n].cells.toArray 62 (0, 0)) → FAt Tryd.prog w' 62 7 ⟨bS, 0, none⟩ 23 l[n].ls := fun w' hb => FAt.mk' (off := 7) (by kernel_rfl) uSts rfl (by rw [add_pl, cell_blk hb]; rfl)
        have bad : ∀ (ρ2 : Sl) (w5 : World) (r : Wr), ρ2 5 = .bool false → r.err ≠ 0 → l[n].wr (kindP C.ds) = r → Clo C r w5 → Mod (fun i => i = C.x5) w w5 → (blkK 1 (seqK (sx fn_ Tryd.prog 71 scope_Table_look_3_R4 K) K)) .ret ρ2 w5 := by
          intro ρ2 w5 r q5 hz hr hC5 hm5
          rw [bk_r, sq_r]
          have e := ans (by rw [hr]; exact hz)
          rw [hr] at e
          exact kR _ _ q5 (by rw [e]; exact hz) (by rw [e]; exact hC5) hm5
        have good : ∀ (ρ2 : Sl) (w5 : World), (l[n].wr (kindP C.ds)).err = 0 → ρ2 13 = .int .i64 n → ρ2 12 = .int .i64 l.length → ρ2 11 = .slice A l.length c → ρ2 1 = pt C.x6 → ρ2 2 = pt C.x7 → ρ2 3 = pt C.x8 → Clo C zWr w5 → Mod (fun i => i = C.x5) w w5 → (blkK 1 (seqK (sx fn_ Tryd.prog 71 scope_Table_look_3_R4 K) K)) .normal ρ2 w5 := by
          intro ρ2 w5 hz q13 q12 q11 q1 q2 q3 hC5 hm5
          rw [bk_n, sq_n, scope_Table_look_3_R4_eq]
          unfold scope_Table_look_3_R4_F
          refine BKadd (a := n) (b := 1) q13 rfl (by omega) (by omega) ?_
          refine kN _ _ hlt rfl q12 q11 q1 q2 q3 ?_ hC5 hm5
          rw [List.take_add_one, hx, Option.toList_some]
          intro a ha
          rcases List.mem_append.1 ha with ha | ha
          · exact hall a ha
          · rw [List.mem_singleton.1 ha]; exact hz
        rw [q8, not_ok]
        by_cases hz : r.err = 0
        · obtain ⟨rfl, hbad, hex⟩ := g0 hz
          rw [hbad, if_neg (by simp), if_pos hex] at hwr
          rw [show (!decide (zWr.err = 0)) = false from rfl]
          simp only [CondK_bool, MG_u, NG_u, VG_u, UG_u, PG_u, BG_u, CG_u, IG_u, MG_b, NG_b, VG_b, UG_b, PG_b, BG_b, CG_b, IG_b, PK_bool, NK_ptr, not_ok, reduceCtorEq, if_true, if_false, Bool.true_eq_false, Bool.false_eq_true, Bool.not_true, Bool.not_false]
          refine ldOne q3 Tryd.underlying64 rfl hC4.b8 ?_
          refine (f6 _ hb4).vs q7 fun x58 => ?_
          refine CK_fn (f := 62) (first := #[]) (cap := #[pt C.x6, pt C.x7, pt C.x8]) (args := [l[n].bs]) Tryd.func62 rfl rfl (ihB w4 _ hC4 hoke.body (by omega)) ?_
          rintro _ w5 ⟨rfl, hC5, hm5⟩
          have hb5 := hm5.blk hb4 (by omega)
          have hm05 := hm4.trans hm5
          rw [not_ok]
          by_cases hzB : (St.wrL (kindP C.ds) l[n].body).err = 0
          · rw [if_pos hzB] at hwr
            have e := St.wrL_z _ (fun a _ => St.wr_z a) hzB
            rw [e] at hC5
            rw [decide_eq_true hzB]
            simp only [CondK_bool, MG_u, NG_u, VG_u, UG_u, PG_u, BG_u, CG_u, IG_u, MG_b, NG_b, VG_b, UG_b, PG_b, BG_b, CG_b, IG_b, PK_bool, NK_ptr, not_ok, reduceCtorEq, if_true, if_false, Bool.true_eq_false, Bool.false_eq_true, Bool.not_true, Bool.not_false]
            refine ldOne q3 Tryd.underlying64 rfl hC5.b8 ?_
            refine (f7 _ hb5).vs q7 fun x58 => ?_
            refine CK_fn (f := 62) (first := #[]) (cap := #[pt C.x6, pt C.x7, pt C.x8]) (args := [l[n].ls]) Tryd.func62 rfl rfl (ihE w5 _ hC5 hoke.els (by omega)) ?_
            rintro _ w6 ⟨rfl, hC6, hm6⟩
            have hm06 := hm05.trans hm6
            rw [not_ok]
            by_cases hzE : (St.wrL (kindP C.ds) l[n].els).err = 0
            · have e2 := St.wrL_z _ (fun a _ => St.wr_z a) hzE
              rw [e2] at hC6
              rw [decide_eq_true hzE]
              refine condF ?_
              refine good _ _ (by rw [hwr]; exact hzE) ?_ ?_ ?_ ?_ ?_ ?_ hC6 hm06
              · exact q13
              · exact q12
              · exact q11
              · exact q1
              · exact q2
              · exact q3
            · rw [decide_eq_false hzE]
              refine condT ?_
              exact bad _ _ _ rfl hzE hwr hC6 hm06
          · rw [if_neg hzB] at hwr
            rw [decide_eq_false hzB]
            simp only [CondK_bool, MG_u, NG_u, VG_u, UG_u, PG_u, BG_u, CG_u, IG_u, MG_b, NG_b, VG_b, UG_b, PG_b, BG_b, CG_b, IG_b, PK_bool, NK_ptr, not_ok, reduceCtorEq, if_true, if_false, Bool.true_eq_false, Bool.false_eq_true, Bool.not_true, Bool.not_false]
            exact bad _ _ _ rfl hzB hwr hC5 hm05
        · rw [decide_eq_false hz]
          simp only [CondK_bool, MG_u, NG_u, VG_u, UG_u, PG_u, BG_u, CG_u, IG_u, MG_b, NG_b, VG_b, UG_b, PG_b, BG_b, CG_b, IG_b, PK_bool, NK_ptr, not_ok, reduceCtorEq, if_true, if_false, Bool.true_eq_false, Bool.false_eq_true, Bool.not_true, Bool.not_false]
          exact bad _ _ _ rfl hz (g1 hz) hC4 hm4
      have r2 : ∀ (ρ' : Sl) (w4 : World) (r : Wr), Clo C r w4 → Mod (fun i => i = C.x5) w w4 → w4.heap[bS]? = some (.cells l[n].cells.toArray 62 (0, 0)) → ρ' 8 = .bool (decide (r.err = 0)) → ρ' 13 = .int .i64 n → ρ' 12 = .int .i64 l.length → ρ' 11 = .slice A l.length c → ρ' 1 = pt C.x6 → ρ' 2 = pt C.x7 → ρ' 3 = pt C.x8 → ρ' 7 = pt bS →
          (r.err = 0 → r = zWr ∧ l[n].bad (kindP C.ds) = false) → (r.err ≠ 0 → l[n].wr (kindP C.ds) = r) →
          sx fn_ Tryd.prog 71 scope_Table_look_3_R2 (blkK 1 (seqK (sx fn_ Tryd.prog 71 scope_Table_look_3_R4 K) K)) ρ' w4 := by
        intro ρ' w4 r hC4 hm4 hb4 q8 q13 q12 q11 q1 q2 q3 q7 g0 g1
        obtain ⟨A', c', hs', _⟩ := reads_cap hoke.exprs.1
        have hlx := Ex.len_sz l[n].exprs
        have f5 : FAt Tryd.prog w4 62 5 ⟨bS, 0, none⟩ 58 (.slice A' l[n].exprs.length c') := FAt.mk' (off := 5) (by kernel_rfl) uExs rfl (by rw [add_pl, cell_blk hb4, ← hs']; rfl)
        rw [scope_Table_look_3_R2_eq]
        unfold scope_Table_look_3_R2_F
        refine f5.vs q7 fun x40 => ?_
        rw [len58]
        refine W_loop scope_Table_look_3_L5_ok (fun ρ w' => ∃ (m : Nat) (r : Wr), m ≤ l[n].exprs.length ∧ ρ 43 = .int .i64 m ∧ ρ 42 = .int .i64 l[n].exprs.length ∧ ρ 41 = .slice A' l[n].exprs.length c' ∧ ρ 8 = .bool (decide (r.err = 0)) ∧ ρ 13 = .int .i64 n ∧ ρ 12 = .int .i64 l.length ∧ ρ 11 = .slice A l.length c ∧ ρ 1 = pt C.x6 ∧ ρ 2 = pt C.x7 ∧ ρ 3 = pt C.x8 ∧ ρ 7 = pt bS ∧ Clo C r w' ∧ Mod (fun i => i = C.x5) w w' ∧ w'.heap[bS]? = some (.cells l[n].cells.toArray 62 (0, 0)) ∧
            (r.err = 0 → r = zWr ∧ l[n].bad (kindP C.ds) = false ∧ ∀ a ∈ l[n].exprs.take m, (a.wr (kindP C.ds)).err = 0) ∧ (r.err ≠ 0 → l[n].wr (kindP C.ds) = r)) (fun ρ _ => l[n].exprs.length - (intOf (ρ 43)).toNat)
          ⟨0, r, Nat.zero_le _, rfl, rfl, rfl, q8, q13, q12, q11, q1, q2, q3, q7, hC4, hm4, hb4, fun q => ⟨(g0 q).1, (g0 q).2, by simp⟩, g1⟩ ?_
        rintro ρ w5 ⟨m, r, hmn, h43, h42, h41, h8, h13, h12, h11, h1, h2, h3, h7, hC5, hm5, hb5, g0, g1⟩
        rw [scope_Table_look_3_L5_eq]
        unfold scope_Table_look_3_L5_F
        rw [h43, h42, h41]
        refine BKlss (a := m) (b := l[n].exprs.length) rfl rfl ?_
        by_cases hlt2 : m < l[n].exprs.length
        · rw [show decide ((m : Int) < (l[n].exprs.length : Int)) = true by rw [decide_eq_true_eq]; omega]
          refine condT ?_
          have hxj : l[n].exprs[m]? = some l[n].exprs[m] := List.getElem?_eq_getElem hlt2
          have hmj : l[n].exprs[m] ∈ l[n].exprs := List.getElem_mem hlt2
          have hok5 := hoke.exprs.mod hC5.m
          rw [hs'] at hok5
          refine ixEx hok5 hxj fun y => ?_
          have hsj := Ex.szL_at hxj
          refine lcl_k (cs := l[n].exprs[m].cells.toArray) zEx _ iEx rfl (ex_one (hok5.at hxj)) fun w6 hb6 hm6 _ => ?_
          have hC6 := hC5.step hm6
          have hb6s := hm6.blk hb5 id
          have hm06 := hm5.trans (up0 hm6)
          generalize w5.heap.size = b10 at *
          rw [h8]
          by_cases hz : r.err = 0
          · obtain ⟨rfl, hbad, hall2⟩ := g0 hz
            rw [show decide (zWr.err = 0) = true from rfl]
            simp only [CondK_bool, MG_u, NG_u, VG_u, UG_u, PG_u, BG_u, CG_u, IG_u, MG_b, NG_b, VG_b, UG_b, PG_b, BG_b, CG_b, IG_b, PK_bool, NK_ptr, not_ok, reduceCtorEq, if_true, if_false, Bool.true_eq_false, Bool.false_eq_true, Bool.not_true, Bool.not_false]
            refine ldOne h2 Tryd.underlying90 rfl hC6.b7 ?_
            refine ldS (cs := l[n].exprs[m].cells.toArray) rfl Tryd.underlying60 rfl iEx hb6 ?_
            refine CK_fn (f := 61) (first := #[]) (cap := #[pt C.x6, pt C.x7]) (args := [.agg l[n].exprs[m].cells.toArray]) Tryd.func61 rfl rfl (exprC_ok _ w6 hC6 (hoke.exprs.2 _ hmj) (by omega)) ?_
            rintro _ w7 ⟨rfl, hC7, hm7⟩
            refine BKadd (a := m) (b := 1) rfl rfl (by omega) (by omega) ?_
            refine ⟨⟨m + 1, l[n].exprs[m].wr (kindP C.ds), hlt2, rfl, h42, h41, rfl, h13, h12, h11, h1, h2, h3, h7, hC7, hm06.trans hm7, hm7.blk hb6s (by omega), fun q => ⟨Ex.wr_z _ q, hbad, ?_⟩, fun q => ?_⟩, ?_⟩
            · rw [List.take_add_one, hxj, Option.toList_some]
              intro a ha
              rcases List.mem_append.1 ha with ha | ha
              · exact hall2 a ha
              · rw [List.mem_singleton.1 ha]; exact q
            · have e1 := Ex.wrL_at hxj hall2 q
              rw [hwr, hbad, e1, if_neg q]; rfl
            · show l[n].exprs.length - (intOf (Value.int .i64 ((m : Int) + 1))).toNat < _
              simp only [intOf]; omega
          · rw [decide_eq_false hz]
            simp only [CondK_bool, MG_u, NG_u, VG_u, UG_u, PG_u, BG_u, CG_u, IG_u, MG_b, NG_b, VG_b, UG_b, PG_b, BG_b, CG_b, IG_b, PK_bool, NK_ptr, not_ok, reduceCtorEq, if_true, if_false, Bool.true_eq_false, Bool.false_eq_true, Bool.not_true, Bool.not_false]
            refine BKadd (a := m) (b := 1) rfl rfl (by omega) (by omega) ?_
            refine ⟨⟨m + 1, r, hlt2, rfl, h42, h41, ?_, h13, h12, h11, h1, h2, h3, h7, hC6, hm06, hb6s, fun q => absurd q hz, g1⟩, ?_⟩
            · show Value.bool false = _
              rw [decide_eq_false hz]
            · show l[n].exprs.length - (intOf (Value.int .i64 ((m : Int) + 1))).toNat < _
              simp only [intOf]; omega
        · obtain rfl : m = l[n].exprs.length := by omega
          rw [show decide (((l[n].exprs.length : Nat) : Int) < (l[n].exprs.length : Int)) = false by simp]
          refine condF ?_
          rw [sq_x, bk_x, sq_n]
          rw [List.take_length] at g0
          refine r6 _ w5 r hC5 hm5 hb5 ?_ ?_ ?_ ?_ ?_ ?_ ?_ ?_ (fun q => ⟨(g0 q).1, (g0 q).2.1, ?_⟩) g1
          · exact h8
          · exact h13
          · exact h12
          · exact h11
          · exact h1
          · exact h2
          · exact h3
          · exact h7
          · rw [Ex.wrL_all (g0 q).2.2]; rfl
      have r3 : ∀ (ρ' : Sl) (t : Bool), ρ' 19 = .bool t → t = decide (l[n].op = 1 ∨ l[n].op = 5) → ρ' 18 = .int .u8 l[n].op → ρ' 8 = .bool true → ρ' 13 = .int .i64 n → ρ' 12 = .int .i64 l.length → ρ' 11 = .slice A l.length c → ρ' 1 = pt C.x6 → ρ' 2 = pt C.x7 → ρ' 3 = pt C.x8 → ρ' 7 = pt bS →
          sx fn_ Tryd.prog 71 scope_Table_look_3_R3 (blkK 2 (seqK (sx fn_ Tryd.prog 71 scope_Table_look_3_R2 (blkK 1 (seqK (sx fn_ Tryd.prog 71 scope_Table_look_3_R4 K) K))) (blkK 1 (seqK (sx fn_ Tryd.prog 71 scope_Table_look_3_R4 K) K)))) ρ' w3 := by
        intro ρ' t q19 ht q18 q8 q13 q12 q11 q1 q2 q3 q7
        rw [scope_Table_look_3_R3_eq]
        unfold scope_Table_look_3_R3_F
        refine caseN q19 (fun hp => ?_) (fun hp => ?_)
        · rw [hp] at ht
          have ht := of_decide_eq_true ht.symm
          have hn2 : l[n].op ≠ 2 := by omega
          refine ldOne q1 Tryd.underlying89 rfl hC3.b6 ?_
          refine d3.vs q7 fun x23 => d8.vs q7 fun x25 => d9.vs q7 fun x27 => ?_
          refine CK_fn (f := 60) (first := #[]) (cap := #[pt C.x2, pt C.x5]) (args := [.string l[n].name, .int .u8 1, .int .i64 l[n].line, .int .i64 l[n].col]) Tryd.func60 rfl rfl (must_ok hC3 l[n].name 1 l[n].line l[n].col) ?_
          rintro v w4 ⟨rfl, hC4, hm4⟩
          rw [bk_n, sq_n]
          refine r2 _ w4 _ hC4 (hm03.trans hm4) (hm4.blk hb3 (by omega)) ?_ ?_ ?_ ?_ ?_ ?_ ?_ ?_ ?_ ?_
          · show Value.bool _ = _
            by_cases q : kindP C.ds l[n].name.data.toList = 1 <;> simp [q, zWr]
          · exact q13
          · exact q12
          · exact q11
          · exact q1
          · exact q2
          · exact q3
          · exact q7
          · intro q
            by_cases k1 : kindP C.ds l[n].name.data.toList = 1
            · rw [if_pos k1]
              refine ⟨rfl, ?_⟩
              unfold St.bad; simp [k1, hn2]
            · rw [if_neg k1] at q; simp at q
          · intro q
            by_cases k1 : kindP C.ds l[n].name.data.toList = 1
            · rw [if_pos k1] at q; exact absurd rfl q
            · rw [if_neg k1, hwr, if_pos]
              unfold St.bad; rw [decide_eq_true ⟨ht, k1⟩]; rfl
        · rw [hp] at ht
          have ht := of_decide_eq_false ht.symm
          refine BKeqI (a := l[n].op) (b := 2) q18 rfl (fun h2' => condT ?_) (fun h2' => condF ?_)
          · refine ldOne q1 Tryd.underlying89 rfl hC3.b6 ?_
            refine d3.vs q7 fun x23 => d8.vs q7 fun x25 => d9.vs q7 fun x27 => ?_
            refine CK_fn (f := 60) (first := #[]) (cap := #[pt C.x2, pt C.x5]) (args := [.string l[n].name, .int .u8 2, .int .i64 l[n].line, .int .i64 l[n].col]) Tryd.func60 rfl rfl (must_ok hC3 l[n].name 2 l[n].line l[n].col) ?_
            rintro v w4 ⟨rfl, hC4, hm4⟩
            rw [bk_n, sq_n]
            refine r2 _ w4 _ hC4 (hm03.trans hm4) (hm4.blk hb3 (by omega)) ?_ ?_ ?_ ?_ ?_ ?_ ?_ ?_ ?_ ?_
            · show Value.bool _ = _
              by_cases q : kindP C.ds l[n].name.data.toList = 2 <;> simp [q, zWr]
            · exact q13
            · exact q12
            · exact q11
            · exact q1
            · exact q2
            · exact q3
            · exact q7
            · intro q
              by_cases k1 : kindP C.ds l[n].name.data.toList = 2
              · rw [if_pos k1]
                refine ⟨rfl, ?_⟩
                unfold St.bad; simp [k1, ht]
              · rw [if_neg k1] at q; simp at q
            · intro q
              by_cases k1 : kindP C.ds l[n].name.data.toList = 2
              · rw [if_pos k1] at q; exact absurd rfl q
              · rw [if_neg k1, hwr, if_pos]
                unfold St.bad; rw [decide_eq_true (⟨h2', k1⟩ : l[n].op = 2 ∧ kindP C.ds l[n].name.data.toList ≠ 2), Bool.or_true]
          · rw [bk_n, sq_n]
            refine r2 _ w3 zWr hC3 hm03 hb3 ?_ ?_ ?_ ?_ ?_ ?_ ?_ ?_ (fun _ => ⟨rfl, ?_⟩) (fun q => absurd rfl q)
            · exact q8
            · exact q13
            · exact q12
            · exact q11
            · exact q1
            · exact q2
            · exact q3
            · exact q7
            · unfold St.bad; simp [ht, h2']
      refine d0.vk' fun x17 => ?_
      refine caseI (fun k1 => condT ?_) (fun k1 => condF ?_)
      · refine r3 _ true rfl (by rw [decide_eq_true (Or.inl k1)]) rfl rfl ?_ ?_ ?_ ?_ ?_ ?_ rfl
        · exact h13
        · exact h12
        · exact h11
        · exact h1
        · exact h2
        · exact h3
      · rw [BK_eql]
        refine r3 _ (l[n].op == 5) rfl ?_ rfl rfl ?_ ?_ ?_ ?_ ?_ ?_ rfl
        · rw [beq_dec]
          by_cases q : l[n].op = 5
          · rw [decide_eq_true q, decide_eq_true (Or.inr q)]
          · rw [decide_eq_false q, decide_eq_false (by omega)]
        · exact h13
        · exact h12
        · exact h11
        · exact h1
        · exact h2
        · exact h3
    · obtain rfl : n = l.length := by omega
      rw [show decide (((l.length : Nat) : Int) < (l.length : Int)) = false by simp]
      refine condF ?_
      exact kX _ rfl
  refine h _ (fun ρ' w' a b c1 c2 c3 c4 c5 d e f => ⟨⟨n + 1, a, b, c1, c2, c3, c4, c5, d, e, f⟩, ?_⟩) (fun ρ' w' a b c' d => ?_) (fun ρ' b => ?_)
  · rw [b, h13]; simp only [intOf]; omega
  · rw [sq_r, bk_r, sq_r]
    refine ⟨?_, c', d⟩
    rw [decide_eq_false b]; exact a
  · subst b
    rw [List.take_length] at hall
    rw [sq_x, bk_x, sq_n, scope_Table_look_3_R1_eq]
    unfold scope_Table_look_3_R1_F
    rw [St.wrL_all hall]
    exact ⟨rfl, hC2, hm⟩
theorem stC_all {C : Cx} : ∀ e : St, StC C e.body ∧ StC C e.els := by
  intro e
  induction e using St.ind with
  | h e ih1 ih2 => exact ⟨stC_row ih1, stC_row ih2⟩
theorem StmtsC_ok {C : Cx} (l : List St) : StC C l := stC_row fun a _ => stC_all a
end Go.Proofs.YtbnbcimjapiicaaDoor.Tr
set_option linter.unusedVariables false
set_option linter.unusedSimpArgs false
set_option maxRecDepth 4000
namespace Go.Proofs.YtbnbcimjapiicaaDoor.Tr
open Go Go.X Go.RowKit Go.Proofs.YtbnbcimjapiicaaDoor.XG Go.Proofs.YtbnbcimjapiicaaDoor.XK

deriving instance DecidableEq for En
theorem isI (w : World) : (isAgg 3).run Tryd.prog w = .ok false w := by unfold isAgg; rw [Sem.run_bind, run_underlying Tryd.underlying3 w]; rfl
theorem isE (w : World) : (isAgg 28).run Tryd.prog w = .ok false w := by unfold isAgg; rw [Sem.run_bind, run_underlying Tryd.underlying28 w]; rfl
theorem eqEn (a b : En) (w : World) : (Op.equalIn 10000 37 a.v b.v).run Tryd.prog w = .ok (decide (a = b)) w := by
  show (Op.equalIn (9999 + 1) 37 (.agg a.cells.toArray) (.agg b.cells.toArray)).run Tryd.prog w = _
  rw [run_equalIn_struct w 9999 37 _ _ (by simp [Program.fieldsOf, Tryd.underlying37]) (by kernel_rfl)]
  obtain ⟨a1, a2, a3, a4⟩ := a; obtain ⟨b1, b2, b3, b4⟩ := b
  simp [Program.fieldsOf, Tryd.underlying37, Op.eqFields, part, isU, isI, Sem.run_bind, En.cells, run_equalIn_int w 9998 3 .i64 .i64 _ _ Tryd.underlying3, run_equalIn_int w 9998 5 .u8 .u8 _ _ Tryd.underlying5]
  by_cases h1 : a1 = b1 <;> by_cases h2 : a2 = b2 <;> by_cases h3 : a3 = b3 <;> by_cases h4 : a4 = b4 <;> simp [h1, h2, h3, h4]
theorem eqWr (a b : Wr) (w : World) : (Op.equalIn 10000 30 a.v b.v).run Tryd.prog w = .ok (decide (a = b)) w := by
  show (Op.equalIn (9999 + 1) 30 (.agg a.cells.toArray) (.agg b.cells.toArray)).run Tryd.prog w = _
  rw [run_equalIn_struct w 9999 30 _ _ (by simp [Program.fieldsOf, Tryd.underlying30]) (by kernel_rfl)]
  obtain ⟨a1, a2, a3⟩ := a; obtain ⟨b1, b2, b3⟩ := b
  simp [Program.fieldsOf, Tryd.underlying30, Op.eqFields, part, isE, isI, Sem.run_bind, Wr.cells, run_equalIn_int w 9998 3 .i64 .i64 _ _ Tryd.underlying3, run_equalIn_int w 9998 28 .i64 .i64 _ _ Tryd.underlying28]
  by_cases h1 : a1 = b1 <;> by_cases h2 : a2 = b2 <;> by_cases h3 : a3 = b3 <;> simp [h1, h2, h3]
theorem gEn : Tryd.prog.eqGuardType Tryd.prog.depth 37 = false := by kernel_rfl
theorem gWr : Tryd.prog.eqGuardType Tryd.prog.depth 30 = false := by kernel_rfl
theorem rEnE (a b : En) (w : World) : (binOp .eql 37 a.v b.v).run Tryd.prog w = .ok (.bool (decide (a = b))) w := by
  show (binOp .eql 37 (.agg a.cells.toArray) (.agg b.cells.toArray)).run Tryd.prog w = _
  rw [run_eql_struct]
  have := eqEn a b w
  rw [En.v, En.v] at this
  rw [this]; rfl
theorem rEnN (a b : En) (w : World) : (binOp .neq 37 a.v b.v).run Tryd.prog w = .ok (.bool (!decide (a = b))) w := by
  show (do pure (.bool (!(← Op.equalIn 10000 37 a.v b.v))) : Sem Value).run Tryd.prog w = _
  rw [Sem.run_bind, eqEn]; rfl
theorem rWrE (a b : Wr) (w : World) : (binOp .eql 30 a.v b.v).run Tryd.prog w = .ok (.bool (decide (a = b))) w := by
  show (binOp .eql 30 (.agg a.cells.toArray) (.agg b.cells.toArray)).run Tryd.prog w = _
  rw [run_eql_struct]
  have := eqWr a b w
  rw [Wr.v, Wr.v] at this
  rw [this]; rfl
theorem BK_EnE {w : World} {K : Value → World → Prop} {x y : Operand} (a b : En) : BK Tryd.prog .eql 37 x y a.v b.v w K = K (.bool (decide (a = b))) w := BK_of (run_eqGuard_agg w .eql _ x y _ _ gEn) (rEnE a b w)
theorem BK_WrE {w : World} {K : Value → World → Prop} {x y : Operand} (a b : Wr) : BK Tryd.prog .eql 30 x y a.v b.v w K = K (.bool (decide (a = b))) w := BK_of (run_eqGuard_agg w .eql _ x y _ _ gWr) (rWrE a b w)
theorem zF1 : (Tryd.prog.info? 89).bind (·.zero) = some .nilFunc := by kernel_rfl
theorem zF2 : (Tryd.prog.info? 90).bind (·.zero) = some .nilFunc := by kernel_rfl
theorem zF3 : (Tryd.prog.info? 64).bind (·.zero) = some .nilFunc := by kernel_rfl
theorem look_fin {C : Cx} {w : World} (hC : Clo C zWr w) {b4 : Nat} (c4 : w.heap[b4]? = some (.cells zWr.cells.toArray 30 (0, 0))) (l3 : b4 ≠ C.x5) (l4 : C.w0.heap.size ≤ b4) {v : Value} {l : List St} (hok : StsOk C.w0 v l) (hsz : St.szL l ≤ 1099511627776) :
    VK Tryd.prog (Instr.loadAt 64 (pt C.x8)) w fun x12 w => CK Tryd.prog x12 [v] w fun x14 w => VK Tryd.prog (Instr.loadAt 30 (pt C.x5)) w fun x15 w => UK Tryd.prog (Instr.storeAt 30 (pt b4) x15) w fun _ w =>
      ∃ x, (do loadVar 30 (← asAddr (pt b4)) : Sem Value).run Tryd.prog w = .ok x w ∧ (x = (St.wrL (kindP C.ds) l).v ∧ Mod none_ C.w0 w) := by
  refine ldOne rfl Tryd.underlying64 rfl hC.b8 ?_
  refine CK_fn (f := 62) (first := #[]) (cap := #[pt C.x6, pt C.x7, pt C.x8]) (args := [v]) Tryd.func62 rfl rfl (StmtsC_ok l w v hC hok hsz) ?_
  rintro v' w10 ⟨rfl, hC10, hm10⟩
  have c4' := hm10.blk c4 l3
  refine ldS (cs := (St.wrL (kindP C.ds) l).cells.toArray) rfl Tryd.underlying30 rfl iWrg hC10.b5 ?_
  refine stS (b := b4) (old := zWr.cells.toArray) (cs := (St.wrL (kindP C.ds) l).cells.toArray) rfl rfl iWrg rfl (wr_one _) c4' fun w11 hb11 hm11 _ => ?_
  exact ⟨_, res_ld (run_ldB (cs := (St.wrL (kindP C.ds) l).cells.toArray) Tryd.underlying30 rfl iWrg hb11), rfl, hC10.m.then hm11 (fun i hi q => absurd q (by omega))⟩
theorem look_ok' {w : World} {base t : Nat} {ds : List De} (ht : TbAt w base t ds) {v : Value} {l : List St} (hok : StsOk w v l) (hsz : St.szL l ≤ 1099511627776) :
    Rt Tryd.prog 38 #[pt t, v] w fun v' w' => v' = (St.wrL (kindP ds) l).v ∧ Mod none_ w w' := by
  refine scope_Table_look_calls ?_
  unfold scope_Table_look_F
  refine box_k (cs := #[pt t]) rfl fun w1 hb1 hm1 hz1 => ?_
  refine al_k zWrg rfl _ fun w2 hb2 hm2 hz2 => ?_
  refine al_k zWrg rfl _ fun w3 hb3 hm3 hz3 => ?_
  rw [mkFunc]
  refine al_k zF1 rfl _ fun w4 hb4 hm4 hz4 => ?_
  refine stC (b := w3.heap.size) (o := 0) (cs := #[.nilFunc]) rfl (by kernel_rfl) rfl hb4 (by decide) fun w5 hb5 hm5 hz5 => ?_
  refine al_k zF2 rfl _ fun w6 hb6 hm6 hz6 => ?_
  rw [mkFunc]
  refine stC (b := w5.heap.size) (o := 0) (cs := #[.nilFunc]) rfl (by kernel_rfl) rfl hb6 (by decide) fun w7 hb7 hm7 hz7 => ?_
  refine al_k zF3 rfl _ fun w8 hb8 hm8 hz8 => ?_
  rw [mkFunc]
  refine stC (b := w7.heap.size) (o := 0) (cs := #[.nilFunc]) rfl (by kernel_rfl) rfl hb8 (by decide) fun w9 hb9 hm9 hz9 => ?_
  have c2 := hm9.blk (hm8.blk (hm7.blk (hm6.blk (hm5.blk (hm4.blk (hm3.blk (hm2.blk hb1 id) id) id) (by omega)) id) (by omega)) id) (by omega)
  have c4 := hm9.blk (hm8.blk (hm7.blk (hm6.blk (hm5.blk (hm4.blk (hm3.blk hb2 id) id) (by omega)) id) (by omega)) id) (by omega)
  have c5 := hm9.blk (hm8.blk (hm7.blk (hm6.blk (hm5.blk (hm4.blk hb3 id) (by omega)) id) (by omega)) id) (by omega)
  have c6 := hm9.blk (hm8.blk (hm7.blk (hm6.blk hb5 id) (by omega)) id) (by omega)
  have c7 := hm9.blk (hm8.blk hb7 id) (by omega)
  have hm09 : Mod none_ w w9 := (((((((hm1.trans hm2).trans hm3).trans hm4).then hm5 (fun i hi q => absurd q (by omega))).trans hm6).then hm7 (fun i hi q => absurd q (by omega))).trans hm8).then hm9 (fun i hi q => absurd q (by omega))
  have hC : Clo ⟨w, base, t, w.heap.size, w2.heap.size, w3.heap.size, w5.heap.size, w7.heap.size, ds⟩ zWr w9 :=
    ⟨hm09, ht, c2, c5, c6, c7, hb9, by dsimp only; omega⟩
  exact look_fin hC c4 (by dsimp only; omega) (by dsimp only; omega) hok hsz
end Go.Proofs.YtbnbcimjapiicaaDoor.Tr
