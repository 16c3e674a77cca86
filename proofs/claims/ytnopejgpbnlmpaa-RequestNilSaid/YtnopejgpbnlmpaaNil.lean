/- RequestNil: a table that nobody made. -/
import Derived.Test.YtnopejgpbnlmpaaActs
set_option linter.unusedVariables false
set_option linter.unusedSimpArgs false
namespace Go.Proofs.Ytnopejgpbnlmpaa.Req
open Go Go.X Go.RowKit Go.Proofs.Ytnopejgpbnlmpaa.XF

/-- The test within Which. -/
theorem Which1_nil {b : Nat} {w : World} {p : Option Addr} (h : NilTab w p) (hb : w.heap[b]? = some (.cells #[.pointer p] 25 (0, 0))) (i : Int) : Rt Try.prog 27 #[.int .i64 i, .pointer (some ⟨b, 0, none⟩)] w fun v w' => v = .bool ((fun _ : Int => false) i) ∧ Mod none_ w w' := by
  refine request_Table_Which_1_calls ?_
  unfold request_Table_Which_1_F
  refine ld1 Try.underlying25 rfl (v := .pointer p) (by rw [cell_blk hb]; rfl) ?_
  refine CK_st Try.func21 rfl rfl (At_nil h) ?_
  rintro _ w' ⟨rfl, hm⟩
  rw [extract_ok (v := zr) rfl, extract_ok (v := .int .i64 1) rfl, alloc_ok zr_zero]
  refine stB (old := zr.cells) (cs := R.zero.enc.toArray) i50 rfl (enc_one _) (alloc_new w' _) ?_
  rw [BK_eql]
  simp only [CondK_bool, MG_b, NG_b, VG_b, UG_b, PG_b, BG_b, CG_b, IG_b, PK_bool, NK_ptr, not_ok, reduceCtorEq, if_true, if_false, Bool.true_eq_false, Bool.false_eq_true, Bool.not_true, Bool.not_false, show ((1 : Int) == 0) = false from rfl, true_and]
  exact (hm.alloc _).set _ (fun q => absurd q (by have := hm.size; omega))
theorem Which_nil {w : World} {p : Option Addr} {l : Value} {xs : List Int} (h : NilTab w p) (hl : reads w 1 l xs.length (ivs xs)) (hn : xs.length ≤ 1000000) : Rt Try.prog 20 #[.pointer p, l] w fun v w' => w'.ownsRow w.heap.size 3 1 v 0 [] ∧ Mod none_ w w' := by
  refine Rt.mono (Which_gen (g := fun _ => false) hl hn fun b w' hm hb i => Which1_nil (h.mod hm) hb i) ?_
  rintro v w' ⟨h1, h2⟩
  have : places (fun _ => false) xs = [] := by simp [places, placesTo]
  rw [this] at h1
  exact ⟨h1, h2⟩
theorem Copy_nil (w : World) : Rt Try.prog 22 #[.pointer none] w fun v w' => v = .pointer none ∧ w' = w := by
  refine request_Table_Copy_calls ?_
  unfold request_Table_Copy_F
  rw [BK_eqlP Try.underlying25]
  simp only [Option.isNone_none, CondK_bool, MG_b, NG_b, VG_b, UG_b, PG_b, BG_b, CG_b, IG_b, PK_bool, NK_ptr, not_ok, reduceCtorEq, if_true, if_false, Bool.true_eq_false, Bool.false_eq_true, Bool.not_true, Bool.not_false, and_self]

theorem b22 (x0 x1 x2 x3 x4 x5 : Value) : builtRow Try.prog 22 1 [(0, .agg #[x0, x1, x2, x3, x4, x5])] = some #[x0, x1, x2, x3, x4, x5] := by kernel_rfl
theorem b48 (a : Option Addr) : builtRow Try.prog 48 2 [(0, .pointer none), (1, .pointer a)] = some #[.pointer none, .pointer a] := by kernel_rfl
theorem i29 : (Try.prog.info? 29).map (·.size) = some 6 := by kernel_rfl
theorem c25 : Try.prog.cellsOf 25 = 1 := by kernel_rfl
theorem b47 : Try.prog.built 47 [] = some #[.bool false, .slice none 0 0] := by kernel_rfl

theorem Nil_ok {w : World} {a : A} (h : a.ok w) : Rt Try.prog 5 #[.agg a.enc.toArray] w fun v w' => v = .bool true ∧ Mod none_ w w' := by
  refine dispatcherlaw12_RequestNil_calls ?_
  unfold dispatcherlaw12_RequestNil_F
  refine box_k (cs := a.enc.toArray) rfl fun w1 hb1 hm1 _ => ?_
  refine ldB (cs := a.enc.toArray) Try.underlying29 rfl i29 hb1 ?_
  refine bs_k (cs := a.enc.toArray) (b22 _ _ _ _ _ _) fun w2 hs2 hm2 _ => ?_
  have ha1 : Acts w2 (.slice (some ⟨w1.heap.size, 0, none⟩) 1 1) [a] := by
    refine ⟨?_, fun b hb => ?_⟩
    · have := reads_blk (size := 6) (n := 1) hs2 rfl
      simpa using this
    · simp at hb
      subst hb
      exact h.mod (hm1.trans hm2)
  refine CK_st Try.func7 rfl rfl (Great_ok ha1 (by simp)) ?_
  rintro _ w2' ⟨rfl, rfl⟩
  cases hg : great [a] with
  | true => simp only [CondK_bool, MG_b, NG_b, VG_b, UG_b, PG_b, BG_b, CG_b, IG_b, PK_bool, NK_ptr, not_ok, reduceCtorEq, if_true, if_false, Bool.true_eq_false, Bool.false_eq_true, Bool.not_true, Bool.not_false]; exact ⟨trivial, hm1.trans hm2⟩
  | false =>
    simp only [CondK_bool, MG_b, NG_b, VG_b, UG_b, PG_b, BG_b, CG_b, IG_b, PK_bool, NK_ptr, not_ok, reduceCtorEq, if_true, if_false, Bool.true_eq_false, Bool.false_eq_true, Bool.not_true, Bool.not_false]
    have hlen : a.l.length ≤ 20 := by simpa [great] using hg
    rw [build_ok b47]
    refine box_k rfl fun w3 hb3 hm3 _ => ?_
    refine bs_k (b48 _) fun w4 hb4 hm4 _ => ?_
    have hm5 : Mod none_ w w4 := ((hm1.trans hm2).trans hm3).trans hm4
    have ht4 : NilTab w4 (some ⟨w2'.heap.size, 0, none⟩) := .inr ⟨_, rfl, hm4.blk hb3 id⟩
    have hr4 := reads_blk (size := 1) (n := 2) hb4 rfl
    have hb5 := hm4.blk (hm3.blk (hm2.blk hb1 id) id) id
    generalize w3.heap.size = S at *
    generalize w2'.heap.size = T at *
    generalize w.heap.size = U at *
    refine W_loop dispatcherlaw12_RequestNil_L0_ok (fun ρ w' => ∃ n : Nat, n ≤ 2 ∧ ρ 5 = .int .i64 n ∧ ρ 4 = .slice (some ⟨S, 0, none⟩) 2 2 ∧ ρ 1 = .pointer (some ⟨U, 0, none⟩) ∧ ρ 3 = .pointer none ∧ Mod none_ w4 w') (fun ρ _ => 2 - (intOf (ρ 5)).toNat)
      ⟨0, by omega, rfl, rfl, rfl, rfl, Mod.refl _ _⟩ ?_
    rintro ρ w6 ⟨n, hn, h5, h4, h1, h3, hm⟩
    rw [dispatcherlaw12_RequestNil_L0_eq]
    unfold dispatcherlaw12_RequestNil_L0_F
    rw [h5, h4, h1, len_sl Try.underlying48, BK_lss]
    by_cases hlt : n < 2
    · rw [show decide ((n : Int) < ((2 : Nat) : Int)) = true by simp; omega]
      simp only [CondK_bool, MG_b, NG_b, VG_b, UG_b, PG_b, BG_b, CG_b, IG_b, PK_bool, NK_ptr, not_ok, reduceCtorEq, if_true, if_false, Bool.true_eq_false, Bool.false_eq_true, Bool.not_true, Bool.not_false]
      obtain ⟨p, hx, htp⟩ : ∃ p : Option Addr, ([.pointer none, .pointer (some ⟨T, 0, none⟩)] : List Value)[n]? = some (.pointer p) ∧ NilTab w4 p := by
        match n, hlt with
        | 0, _ => exact ⟨none, rfl, .inl rfl⟩
        | 1, _ => exact ⟨_, rfl, ht4⟩
      replace htp := htp.mod hm
      refine ixld Try.underlying48 c25 Try.underlying25 rfl (reads_mod hr4 hm (fun _ _ _ => id)) (by omega) (by rw [show (n : Int).toNat = n by omega]; exact hx) fun y => ?_
      have hb6 := hm.blk hb5 id
      have ld : ∀ {w' : World} (j : Nat) (v : Value), Mod none_ w6 w' → a.enc[j]? = some v → w'.cell? ((⟨U, 0, none⟩ : Addr).add j) = some v := by
        intro w' j v hm' he
        rw [add_pl, cell_blk (hm'.blk hb6 id)]
        simpa using he
      have hm0 := Mod.refl none_ w6
      rw [f29_1]
      refine ld1 Try.underlying4 rfl (ld 1 (.bool a.yes) hm0 rfl) ?_
      rw [f29_1]
      refine ld1 Try.underlying4 rfl (ld 1 (.bool a.yes) hm0 rfl) ?_
      refine CK_st Try.func9 rfl rfl (Add_nil htp) ?_
      rintro _ _ ⟨rfl, rfl⟩
      rw [extract_ok (v := .int .i64 0) rfl, extract_ok (v := .int .i64 1) rfl, f29_4]
      refine ld1 Try.underlying3 rfl (ld 4 (.int .i64 a.p) hm0 rfl) ?_
      refine CK_st Try.func21 rfl rfl (At_nil htp) ?_
      rintro _ w7 ⟨rfl, hm7⟩
      rw [extract_ok (v := zr) rfl, extract_ok (v := .int .i64 1) rfl]
      refine lcl_k (cs := R.zero.enc.toArray) zr_zero _ i50 rfl (enc_one _) fun w8 _ hm8 _ => ?_
      have hm78 := hm7.trans hm8
      rw [f29_2]
      refine ld1 Try.underlying27 rfl (ld 2 a.lv hm78 rfl) ?_
      refine CK_st Try.func10 rfl rfl (Take_nil (htp.mod hm78)) ?_
      rintro _ _ ⟨rfl, rfl⟩
      rw [extract_ok (v := .slice none 0 0) rfl, extract_ok (v := .int .i64 1) rfl, BK_neq]
      simp only [CondK_bool, MG_b, NG_b, VG_b, UG_b, PG_b, BG_b, CG_b, IG_b, PK_bool, NK_ptr, not_ok, reduceCtorEq, if_true, if_false, Bool.true_eq_false, Bool.false_eq_true, Bool.not_true, Bool.not_false, show ((1 : Int) != 1) = false from rfl, BK_neq]
      rw [f29_4]
      refine ld1 Try.underlying3 rfl (ld 4 (.int .i64 a.p) hm78 rfl) ?_
      refine CK_st Try.func19 rfl rfl (Complete_nil (htp.mod hm78)) ?_
      rintro _ w9 ⟨rfl, hm9⟩
      have hm79 := hm78.trans hm9
      simp only [CondK_bool, MG_b, NG_b, VG_b, UG_b, PG_b, BG_b, CG_b, IG_b, PK_bool, NK_ptr, not_ok, reduceCtorEq, if_true, if_false, Bool.true_eq_false, Bool.false_eq_true, Bool.not_true, Bool.not_false, show ((1 : Int) != 1) = false from rfl, BK_neq]
      rw [f29_2]
      refine ld1 Try.underlying27 rfl (ld 2 a.lv hm79 rfl) ?_
      refine CK_st Try.func17 rfl rfl (May_nil (htp.mod hm79)) ?_
      rintro _ _ ⟨rfl, rfl⟩
      simp only [CondK_bool, MG_b, NG_b, VG_b, UG_b, PG_b, BG_b, CG_b, IG_b, PK_bool, NK_ptr, not_ok, reduceCtorEq, if_true, if_false, Bool.true_eq_false, Bool.false_eq_true, Bool.not_true, Bool.not_false, show ((1 : Int) != 1) = false from rfl, BK_neq]
      rw [f29_2]
      refine ld1 Try.underlying27 rfl (ld 2 a.lv hm79 rfl) ?_
      refine CK_st Try.func20 rfl rfl (Which_nil (htp.mod hm79) (reads_mod h ((hm5.trans hm).trans hm79) (fun _ _ _ => id)) (by omega)) ?_
      rintro v10 w10 ⟨hv10, hm10⟩
      obtain ⟨_, A10, c10, rfl, _⟩ := reads_of_owns hv10
      have hm71 := hm79.trans hm10
      rw [len_sl Try.underlying27]
      refine CK_st Try.func15 rfl rfl (Left_nil (htp.mod hm71)) ?_
      rintro v11 w11 ⟨hv11, hm11⟩
      obtain ⟨_, A11, c11, rfl, _⟩ := reads_of_owns hv11
      have hm72 := hm71.trans hm11
      rw [len_sl Try.underlying27, BK_add]
      refine CK_st Try.func11 rfl rfl (Many_nil (htp.mod hm72)) ?_
      rintro _ _ ⟨rfl, rfl⟩
      rw [BK_add]
      have e0 : (IntKind.i64.wrap (IntKind.i64.wrap (((0 : Nat) : Int) + ((0 : Nat) : Int)) + 0) != 0) = false := by decide
      simp only [CondK_bool, MG_b, NG_b, VG_b, UG_b, PG_b, BG_b, CG_b, IG_b, PK_bool, NK_ptr, not_ok, reduceCtorEq, if_true, if_false, Bool.true_eq_false, Bool.false_eq_true, Bool.not_true, Bool.not_false, BK_neq, e0]
      rw [BK_add, wrap_i (n := (n : Int) + 1) (by omega) (by omega)]
      refine ⟨⟨n + 1, hlt, rfl, h4, h1, h3, hm.trans hm72⟩, ?_⟩
      simp only [sq_n, sq_x, sq_r, bk_n, bk_r, bk_x, rt_r, rt_n, rs_0, rs_t, pk_1, pk_2, up_at, reduceIte, Nat.reduceEqDiff, intOf]; omega
    · obtain rfl : n = 2 := by omega
      rw [show decide (((2 : Nat) : Int) < ((2 : Nat) : Int)) = false by simp]
      simp only [CondK_bool, MG_b, NG_b, VG_b, UG_b, PG_b, BG_b, CG_b, IG_b, PK_bool, NK_ptr, not_ok, reduceCtorEq, if_true, if_false, Bool.true_eq_false, Bool.false_eq_true, Bool.not_true, Bool.not_false, sq_n, sq_x, sq_r, bk_n, bk_r, bk_x, rt_r, rt_n, rs_0, rs_t, pk_1, pk_2, up_at, reduceIte, Nat.reduceEqDiff]
      rw [dispatcherlaw12_RequestNil_R1_eq]
      unfold dispatcherlaw12_RequestNil_R1_F
      simp only [sq_n, sq_x, sq_r, bk_n, bk_r, bk_x, rt_r, rt_n, rs_0, rs_t, pk_1, pk_2, up_at, reduceIte, Nat.reduceEqDiff, h3]
      refine CK_st Try.func22 rfl rfl (Copy_nil w6) ?_
      rintro _ _ ⟨rfl, rfl⟩
      rw [BK_eqlP Try.underlying25]
      simp only [sq_n, sq_x, sq_r, bk_n, bk_r, bk_x, rt_r, rt_n, rs_0, rs_t, pk_1, pk_2, up_at, reduceIte, Nat.reduceEqDiff, Option.isNone_none, true_and]
      exact hm5.trans hm
end Go.Proofs.Ytnopejgpbnlmpaa.Req
