/- awake: the chapter's example. -/
import Derived.Test.YtnopejgpbnlmpaaTake2
set_option linter.unusedVariables false
set_option linter.unusedSimpArgs false
namespace Go.Proofs.Ytnopejgpbnlmpaa.Req
open Go Go.X Go.RowKit Go.Proofs.Ytnopejgpbnlmpaa.XF

theorem el27 : Try.prog.elem 27 = 3 := by kernel_rfl
theorem lit27 {w : World} {K : Value → World → Prop} {n : Nat} {parts : List (Nat × Value)} {is : List Int} (hb : builtRow Try.prog 27 n parts = some (ivs is).toArray) (hn : is.length = n) (hm : n ≤ maxLen)
    (hk : ∀ u w', w'.ownsRow w.heap.size 3 1 u is.length (ivs is) → Mod none_ w w' → K u w') : VK Try.prog (Instr.buildSlice 27 n parts.toArray) w K := by
  refine bs_k hb fun w' hc hmm _ => ?_
  rw [el27] at hc
  subst hn
  refine hk _ w' ⟨by rw [ivs_len]; omega, .inr ⟨w.heap.size, is.length, _, rfl, Nat.le_refl _, hc, Nat.le_refl _, hm, by simp [ivs_len], ?_⟩⟩ hmm
  rw [List.take_of_length_le (by simp [ivs_len])]
theorem own3_touch {w : World} {B t b n : Nat} {v u : Value} {xs : List R} {ys : List Value} (hT : IsTab w B t v xs) (ho : w.ownsRow b 3 1 u n ys) : ∀ k, u.ownBlock = some k → ¬ touch t v k := by
  intro k hk q
  rcases q with q | q
  · exact owns_ne_blk ho hT.2.1 (by decide) (q ▸ hk)
  · exact owns_ne ho hT.2.2 (by decide) k hk q
theorem touch_ge {w : World} {B t : Nat} {v : Value} {xs : List R} (hT : IsTab w B t v xs) : ∀ k, touch t v k → B ≤ k := by
  intro k q
  rcases q with q | q
  · rw [q]; exact hT.1
  · exact (hT.2.2.lt k q.symm).1
def r1 : R := ⟨true, true, false, 7, 3, 5⟩
def r2 : R := ⟨false, true, false, 0, 0, 0⟩
theorem br1 : Try.prog.built 50 [(0, .bool true), (1, .bool true), (3, .int .i64 7), (4, .int .i64 3), (5, .int .i64 5)] = some r1.enc.toArray := by kernel_rfl
theorem br2 : Try.prog.built 50 [(1, .bool true)] = some r2.enc.toArray := by kernel_rfl
theorem eq1 (x y : Operand) {w : World} {K : Value → World → Prop} : BK Try.prog .eql 50 x y (.agg r1.enc.toArray) (.agg r1.enc.toArray) w K = K (.bool true) w := BK_of (by kernel_rfl) (by kernel_rfl)
theorem eq2 (x y : Operand) {w : World} {K : Value → World → Prop} : BK Try.prog .eql 50 x y (.agg r2.enc.toArray) (.agg r2.enc.toArray) w K = K (.bool true) w := BK_of (by kernel_rfl) (by kernel_rfl)
def t2 : List R := [⟨true, false, false, 0, 0, 0⟩, ⟨false, true, false, 0, 0, 0⟩]
theorem awake_ok (w : World) : Rt Try.prog 6 #[] w fun u w' => u = .bool true ∧ Mod none_ w w' := by
  refine dispatcherlaw12_awake_calls ?_
  unfold dispatcherlaw12_awake_F
  refine CK_st Try.func8 rfl rfl (New_made w) ?_
  rintro _ w1 ⟨t, rfl, hT1, hm1⟩
  rw [BK_eqlP Try.underlying25]
  simp only [Option.isNone_some, CondK_bool, MG_b, NG_b, VG_b, UG_b, PG_b, BG_b, CG_b, IG_b, PK_bool, NK_ptr, not_ok, reduceCtorEq, if_true, if_false, Bool.true_eq_false, Bool.false_eq_true, Bool.not_true, Bool.not_false]
  have nn : ∀ {v : Value} {a b : World} {xs : List R}, Mod none_ w a → IsTab a w.heap.size t v xs → Mod (touch t v) a b → Mod none_ w b := fun h hT k => h.then k fun i hi q => absurd (touch_ge hT i q) (by omega)
  refine CK_st Try.func9 rfl rfl (Add_made hT1 true false (by simp)) ?_
  rintro _ w2 ⟨rfl, v2, hT2, hm2⟩
  replace hm2 := nn hm1 hT1 hm2
  rw [extract_ok (v := .int .i64 0) rfl, extract_ok (v := .int .i64 0) rfl]
  refine CK_st Try.func9 rfl rfl (Add_made hT2 false true (by decide)) ?_
  rintro _ w3 ⟨rfl, v3, hT3, hm3⟩
  replace hm3 := nn hm2 hT2 hm3
  rw [extract_ok (v := .int .i64 1) rfl, extract_ok (v := .int .i64 0) rfl]
  have hT3 : IsTab w3 w.heap.size t v3 t2 := hT3
  refine lit27 (is := [0, 1]) (by kernel_rfl) rfl (by decide) fun x26 w4 h26 hm4 => ?_
  have hT4 := hT3.none hm4
  refine CK_st Try.func20 rfl rfl (Which_made hT4 (reads_of_owns h26) (by decide)) ?_
  rintro x27 w5 ⟨h27, hm5⟩
  have hp : places (gT t2) [0, 1] = [1] := by decide
  rw [hp] at h27
  have hT5 := hT4.none hm5
  refine lit27 (is := [0]) (by kernel_rfl) rfl (by decide) fun x30 w6 h30 hm6 => ?_
  have hT6 := hT5.none hm6
  refine CK_st Try.func10 rfl rfl (Take_made hT6 (reads_of_owns h30) (by decide) (fun _ => own3_touch hT6 h30)) ?_
  rintro _ w7 ⟨o7, rfl, hT7, -, hm7⟩
  have hk7 : takeOk t2 [0] = false := by decide
  rw [hk7] at hT7 ⊢
  simp only [Bool.false_eq_true, if_false] at hT7 ⊢
  rw [extract_ok (v := o7) rfl, extract_ok (v := .int .i64 120) rfl]
  refine CK_st Try.func19 rfl rfl (Complete_made hT7) ?_
  rintro _ w8 ⟨rfl, hT8, hm8⟩
  have hk8 : compRes t2 0 = 0 := by decide
  have hk8' : compTab t2 0 7 3 5 = [⟨true, true, false, 7, 3, 5⟩, ⟨false, true, false, 0, 0, 0⟩] := by unfold compTab; rw [if_pos hk8]; rfl
  rw [hk8'] at hT8
  rw [hk8]
  refine lit27 (is := [0, 1]) (by kernel_rfl) rfl (by decide) fun x38 w9 h38 hm9 => ?_
  have hT9 := hT8.none hm9
  refine CK_st Try.func10 rfl rfl (Take_made hT9 (reads_of_owns h38) (by decide) (fun _ => own3_touch hT9 h38)) ?_
  rintro _ w10 ⟨o10, rfl, hT10, h10, hm10⟩
  have hk10 : takeOk [⟨true, true, false, 7, 3, 5⟩, ⟨false, true, false, 0, 0, 0⟩] [0, 1] = true := by decide
  rw [hk10] at hT10 h10 ⊢
  simp only [if_true] at hT10 h10 ⊢
  have ho : outTo [⟨true, true, false, 7, 3, 5⟩, ⟨false, true, false, 0, 0, 0⟩] [0, 1] ([0, 1] : List Int).length = [r1, r2] := rfl
  have hg : goneTo [⟨true, true, false, 7, 3, 5⟩, ⟨false, true, false, 0, 0, 0⟩] [0, 1] ([0, 1] : List Int).length = [⟨true, true, true, 7, 3, 5⟩, ⟨false, true, true, 0, 0, 0⟩] := rfl
  rw [ho] at h10
  rw [hg] at hT10
  rw [extract_ok (v := o10) rfl, extract_ok (v := .int .i64 0) rfl, BK_eql]
  simp only [CondK_bool, MG_b, NG_b, VG_b, UG_b, PG_b, BG_b, CG_b, IG_b, PK_bool, NK_ptr, not_ok, reduceCtorEq, if_true, if_false, Bool.true_eq_false, Bool.false_eq_true, Bool.not_true, Bool.not_false, show ((0 : Int) == 0) = true from rfl, show ((1 : Int) == 1) = true from rfl, BK_eql]
  have h27a := owns_mod (owns_mod h27 hm6 (fun _ _ => id)) hm7 (own3_touch hT6 (owns_mod h27 hm6 (fun _ _ => id)))
  have h27b := owns_mod h27a hm8 (own3_touch hT7 h27a)
  have h27c := owns_mod h27b hm9 (fun _ _ => id)
  have h27d := owns_mod h27c hm10 (own3_touch hT9 h27c)
  have hmA : Mod none_ w w10 := nn ((nn (nn (((hm3.trans hm4).trans hm5).trans hm6) hT6 hm7) hT7 hm8).trans hm9) hT9 hm10
  refine lit27 (is := [1]) (by kernel_rfl) rfl (by decide) fun x58 w11 h58 hm11 => ?_
  refine CK_st Try.func14 rfl rfl (Ints_ok (reads_of_owns (owns_mod h27d hm11 (fun _ _ => id))) (reads_of_owns h58) (by decide)) ?_
  rintro _ w12 ⟨rfl, hm12⟩
  have hm1012 := hm11.trans hm12
  have h10' := owns_mod h10 hm1012 (fun _ _ => id)
  have hT12 := hT10.none hm1012
  obtain ⟨Ao, co, rfl, _⟩ := reads_cap (reads_of_owns h10')
  simp only [decide_true, CondK_bool, MG_b, NG_b, VG_b, UG_b, PG_b, BG_b, CG_b, IG_b, PK_bool, NK_ptr, not_ok, reduceCtorEq, if_true, if_false, Bool.true_eq_false, Bool.false_eq_true, Bool.not_true, Bool.not_false, BK_eql, show ((0 : Int) == 0) = true from rfl, show ((120 : Int) == 120) = true from rfl]
  rw [len_sl Try.underlying33]
  simp only [CondK_bool, MG_b, NG_b, VG_b, UG_b, PG_b, BG_b, CG_b, IG_b, PK_bool, NK_ptr, not_ok, reduceCtorEq, if_true, if_false, Bool.true_eq_false, Bool.false_eq_true, Bool.not_true, Bool.not_false, BK_eql, show (((([r1, r2] : List R).length : Nat) : Int) == 2) = true from rfl]
  refine ixldA (sz := 5) Try.underlying33 c50 Try.underlying50 rfl (reads_of_owns h10') (by decide) (by decide) fun y => ?_
  rw [show (Value.agg ((List.drop ((0 : Int).toNat * (5 + 1)) (flat [r1, r2])).take (5 + 1)).toArray) = .agg r1.enc.toArray from rfl]
  rw [build_ok br1]
  simp only [CondK_bool, MG_b, NG_b, VG_b, UG_b, PG_b, BG_b, CG_b, IG_b, PK_bool, NK_ptr, not_ok, reduceCtorEq, if_true, if_false, Bool.true_eq_false, Bool.false_eq_true, Bool.not_true, Bool.not_false, eq1]
  refine ixldA (sz := 5) Try.underlying33 c50 Try.underlying50 rfl (reads_of_owns h10') (by decide) (by decide) fun y2 => ?_
  rw [show (Value.agg ((List.drop ((1 : Int).toNat * (5 + 1)) (flat [r1, r2])).take (5 + 1)).toArray) = .agg r2.enc.toArray from rfl]
  rw [build_ok br2]
  simp only [CondK_bool, MG_b, NG_b, VG_b, UG_b, PG_b, BG_b, CG_b, IG_b, PK_bool, NK_ptr, not_ok, reduceCtorEq, if_true, if_false, Bool.true_eq_false, Bool.false_eq_true, Bool.not_true, Bool.not_false, eq2]
  refine CK_st Try.func15 rfl rfl (Left_made hT12 (by decide)) ?_
  rintro _ w13 ⟨h13, hm13⟩
  have hlf : lefts [⟨true, true, true, 7, 3, 5⟩, ⟨false, true, true, 0, 0, 0⟩] = [] := by decide
  rw [hlf] at h13
  obtain ⟨A13, c13, rfl, _⟩ := reads_cap (reads_of_owns h13)
  rw [len_sl Try.underlying27]
  simp only [CondK_bool, MG_b, NG_b, VG_b, UG_b, PG_b, BG_b, CG_b, IG_b, PK_bool, NK_ptr, not_ok, reduceCtorEq, if_true, if_false, Bool.true_eq_false, Bool.false_eq_true, Bool.not_true, Bool.not_false, BK_eql, show (((([] : List Int).length : Nat) : Int) == 0) = true from rfl]
  refine CK_st Try.func11 rfl rfl (Many_made (hT12.none hm13)) ?_
  rintro _ _ ⟨rfl, rfl⟩
  simp only [CondK_bool, MG_b, NG_b, VG_b, UG_b, PG_b, BG_b, CG_b, IG_b, PK_bool, NK_ptr, not_ok, reduceCtorEq, if_true, if_false, Bool.true_eq_false, Bool.false_eq_true, Bool.not_true, Bool.not_false, BK_eql]
  exact ⟨rfl, hmA.trans (hm1012.trans hm13)⟩
end Go.Proofs.Ytnopejgpbnlmpaa.Req
