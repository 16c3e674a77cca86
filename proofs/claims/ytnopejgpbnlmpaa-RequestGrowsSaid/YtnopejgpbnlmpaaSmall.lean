/- The small functions over rows of numbers. -/
import Derived.Test.YtnopejgpbnlmpaaMade
set_option linter.unusedVariables false
set_option linter.unusedSimpArgs false
namespace Go.Proofs.Ytnopejgpbnlmpaa.Req
open Go Go.X Go.RowKit Go.Proofs.Ytnopejgpbnlmpaa.XF

theorem first_ok {w : World} {v : Value} {is : List Int} (h : reads w 1 v is.length (ivs is)) : Rt Try.prog 16 #[v] w fun u w' => u = .int .i64 (is.headD (-1)) ∧ w' = w := by
  obtain ⟨A, c, rfl, _⟩ := reads_cap h
  refine dispatcherlaw12_first_calls ?_
  unfold dispatcherlaw12_first_F
  rw [len_sl Try.underlying27, BK_eql]
  cases is with
  | nil => simp only [CondK_bool, MG_b, NG_b, VG_b, UG_b, PG_b, BG_b, CG_b, IG_b, PK_bool, NK_ptr, not_ok, reduceCtorEq, if_true, if_false, Bool.true_eq_false, Bool.false_eq_true, Bool.not_true, Bool.not_false, List.length_nil, show (((0 : Nat) : Int) == 0) = true from rfl, List.headD_nil, and_self]
  | cons a l =>
    rw [show (((a :: l).length : Int) == 0) = false by simp; omega]
    simp only [CondK_bool, MG_b, NG_b, VG_b, UG_b, PG_b, BG_b, CG_b, IG_b, PK_bool, NK_ptr, not_ok, reduceCtorEq, if_true, if_false, Bool.true_eq_false, Bool.false_eq_true, Bool.not_true, Bool.not_false]
    refine ixld Try.underlying27 c3 Try.underlying3 rfl h (by omega) (u := .int .i64 a) rfl fun y => ?_
    exact ⟨rfl, rfl⟩
theorem has_ok {w : World} {v : Value} {is : List Int} {a : Int} (h : reads w 1 v is.length (ivs is)) (hn : is.length ≤ 1000000) : Rt Try.prog 18 #[v, .int .i64 a] w fun u w' => u = .bool (decide (a ∈ is)) ∧ w' = w := by
  obtain ⟨A, c, rfl, _⟩ := reads_cap h
  refine dispatcherlaw12_has_calls ?_
  unfold dispatcherlaw12_has_F
  refine W_loop dispatcherlaw12_has_L0_ok (fun ρ w' => ∃ n : Nat, n ≤ is.length ∧ ρ 5 = .int .i64 n ∧ ρ 0 = .slice A is.length c ∧ ρ 1 = .int .i64 a ∧ w' = w ∧ a ∉ is.take n) (fun ρ _ => is.length - (intOf (ρ 5)).toNat)
    ⟨0, Nat.zero_le _, rfl, rfl, rfl, rfl, by simp⟩ ?_
  rintro ρ _ ⟨n, hn', h5, h0, h1, rfl, hno⟩
  rw [dispatcherlaw12_has_L0_eq]
  unfold dispatcherlaw12_has_L0_F
  rw [h5, h0, h1, len_sl Try.underlying27, BK_lss]
  by_cases hlt : n < is.length
  · rw [show decide ((n : Int) < (is.length : Int)) = true by simp; omega]
    obtain ⟨x, hx⟩ : ∃ x, is[n]? = some x := ⟨_, List.getElem?_eq_getElem hlt⟩
    simp only [CondK_bool, MG_b, NG_b, VG_b, UG_b, PG_b, BG_b, CG_b, IG_b, PK_bool, NK_ptr, not_ok, reduceCtorEq, if_true, if_false, Bool.true_eq_false, Bool.false_eq_true, Bool.not_true, Bool.not_false]
    refine ixld Try.underlying27 c3 Try.underlying3 rfl h (by omega) (ivs_get (by simpa using hx)) fun y => ?_
    rw [BK_eql]
    by_cases hxa : x = a
    · rw [show (x == a) = true by simpa using hxa]
      simp only [CondK_bool, MG_b, NG_b, VG_b, UG_b, PG_b, BG_b, CG_b, IG_b, PK_bool, NK_ptr, not_ok, reduceCtorEq, if_true, if_false, Bool.true_eq_false, Bool.false_eq_true, Bool.not_true, Bool.not_false, sq_n, sq_x, sq_r, bk_n, bk_r, bk_x, rt_r, rt_n, rs_0, rs_t, pk_1, pk_2, up_at, reduceIte, Nat.reduceEqDiff]
      have : a ∈ is := hxa ▸ List.mem_of_getElem? hx
      simp [this]
    · rw [show (x == a) = false by simpa using hxa]
      simp only [CondK_bool, MG_b, NG_b, VG_b, UG_b, PG_b, BG_b, CG_b, IG_b, PK_bool, NK_ptr, not_ok, reduceCtorEq, if_true, if_false, Bool.true_eq_false, Bool.false_eq_true, Bool.not_true, Bool.not_false]
      rw [BK_add, wrap_i (by omega) (by omega)]
      refine ⟨⟨n + 1, hlt, rfl, h0, h1, rfl, ?_⟩, ?_⟩
      · rw [List.take_add_one, hx]
        simp only [Option.toList_some, List.mem_append, List.mem_singleton, not_or]
        exact ⟨hno, fun q => hxa q.symm⟩
      · simp only [sq_n, sq_x, sq_r, bk_n, bk_r, bk_x, rt_r, rt_n, rs_0, rs_t, pk_1, pk_2, up_at, reduceIte, Nat.reduceEqDiff, intOf]; omega
  · obtain rfl : n = is.length := by omega
    rw [show decide ((is.length : Int) < (is.length : Int)) = false by simp]
    simp only [CondK_bool, MG_b, NG_b, VG_b, UG_b, PG_b, BG_b, CG_b, IG_b, PK_bool, NK_ptr, not_ok, reduceCtorEq, if_true, if_false, Bool.true_eq_false, Bool.false_eq_true, Bool.not_true, Bool.not_false, sq_n, sq_x, sq_r, bk_n, bk_r, bk_x, rt_r, rt_n, rs_0, rs_t, pk_1, pk_2, up_at, reduceIte, Nat.reduceEqDiff]
    rw [dispatcherlaw12_has_R1_eq]
    unfold dispatcherlaw12_has_R1_F
    simp only [sq_n, sq_x, sq_r, bk_n, bk_r, bk_x, rt_r, rt_n, rs_0, rs_t, pk_1, pk_2, up_at, reduceIte, Nat.reduceEqDiff]
    rw [List.take_length] at hno
    simp [hno]
theorem Index_ok {w : World} {v : Value} {is : List Int} {a : Int} (h : reads w 1 v is.length (ivs is)) (hn : is.length ≤ 1000000) : Rt Try.prog 30 #[v, .int .i64 a] w fun u w' => ∃ k : Int, u = .int .i64 k ∧ decide (0 ≤ k) = decide (a ∈ is) ∧ w' = w := by
  obtain ⟨A, c, rfl, _⟩ := reads_cap h
  refine slices_Index_int_int_calls ?_
  unfold slices_Index_int_int_F
  rw [len_sl Try.underlying27]
  refine W_loop slices_Index_int_int_L0_ok (fun ρ w' => ∃ n : Nat, n ≤ is.length ∧ ρ 8 = .int .i64 n ∧ ρ 7 = .int .i64 is.length ∧ ρ 0 = .slice A is.length c ∧ ρ 1 = .int .i64 a ∧ w' = w ∧ a ∉ is.take n) (fun ρ _ => is.length - (intOf (ρ 8)).toNat)
    ⟨0, Nat.zero_le _, rfl, rfl, rfl, rfl, rfl, by simp⟩ ?_
  rintro ρ _ ⟨n, hn', h5, h7, h0, h1, rfl, hno⟩
  rw [slices_Index_int_int_L0_eq]
  unfold slices_Index_int_int_L0_F
  rw [h5, h7, h0, h1, BK_lss]
  by_cases hlt : n < is.length
  · rw [show decide ((n : Int) < (is.length : Int)) = true by simp; omega]
    obtain ⟨x, hx⟩ : ∃ x, is[n]? = some x := ⟨_, List.getElem?_eq_getElem hlt⟩
    simp only [CondK_bool, MG_b, NG_b, VG_b, UG_b, PG_b, BG_b, CG_b, IG_b, PK_bool, NK_ptr, not_ok, reduceCtorEq, if_true, if_false, Bool.true_eq_false, Bool.false_eq_true, Bool.not_true, Bool.not_false]
    refine ixld Try.underlying27 c3 Try.underlying3 rfl h (by omega) (ivs_get (by simpa using hx)) fun y => ?_
    rw [BK_eql]
    by_cases hxa : a = x
    · rw [show (a == x) = true by simpa using hxa]
      simp only [CondK_bool, MG_b, NG_b, VG_b, UG_b, PG_b, BG_b, CG_b, IG_b, PK_bool, NK_ptr, not_ok, reduceCtorEq, if_true, if_false, Bool.true_eq_false, Bool.false_eq_true, Bool.not_true, Bool.not_false, sq_n, sq_x, sq_r, bk_n, bk_r, bk_x, rt_r, rt_n, rs_0, rs_t, pk_1, pk_2, up_at, reduceIte, Nat.reduceEqDiff]
      have : a ∈ is := hxa ▸ List.mem_of_getElem? hx
      exact ⟨n, rfl, by simp [this], trivial⟩
    · rw [show (a == x) = false by simpa using hxa]
      simp only [CondK_bool, MG_b, NG_b, VG_b, UG_b, PG_b, BG_b, CG_b, IG_b, PK_bool, NK_ptr, not_ok, reduceCtorEq, if_true, if_false, Bool.true_eq_false, Bool.false_eq_true, Bool.not_true, Bool.not_false]
      rw [BK_add, wrap_i (by omega) (by omega)]
      refine ⟨⟨n + 1, hlt, rfl, h7, h0, h1, rfl, ?_⟩, ?_⟩
      · rw [List.take_add_one, hx]
        simp only [Option.toList_some, List.mem_append, List.mem_singleton, not_or]
        exact ⟨hno, hxa⟩
      · simp only [sq_n, sq_x, sq_r, bk_n, bk_r, bk_x, rt_r, rt_n, rs_0, rs_t, pk_1, pk_2, up_at, reduceIte, Nat.reduceEqDiff, intOf]; omega
  · obtain rfl : n = is.length := by omega
    rw [show decide ((is.length : Int) < (is.length : Int)) = false by simp]
    simp only [CondK_bool, MG_b, NG_b, VG_b, UG_b, PG_b, BG_b, CG_b, IG_b, PK_bool, NK_ptr, not_ok, reduceCtorEq, if_true, if_false, Bool.true_eq_false, Bool.false_eq_true, Bool.not_true, Bool.not_false, sq_n, sq_x, sq_r, bk_n, bk_r, bk_x, rt_r, rt_n, rs_0, rs_t, pk_1, pk_2, up_at, reduceIte, Nat.reduceEqDiff]
    rw [slices_Index_int_int_R1_eq]
    unfold slices_Index_int_int_R1_F
    simp only [sq_n, sq_x, sq_r, bk_n, bk_r, bk_x, rt_r, rt_n, rs_0, rs_t, pk_1, pk_2, up_at, reduceIte, Nat.reduceEqDiff]
    rw [List.take_length] at hno
    exact ⟨-1, rfl, by simp [hno], trivial⟩
theorem Contains_ok {w : World} {v : Value} {is : List Int} {a : Int} (h : reads w 1 v is.length (ivs is)) (hn : is.length ≤ 1000000) : Rt Try.prog 26 #[v, .int .i64 a] w fun u w' => u = .bool (decide (a ∈ is)) ∧ w' = w := by
  refine slices_Contains_int_int_calls ?_
  unfold slices_Contains_int_int_F
  refine CK_st Try.func30 rfl rfl (Index_ok h hn) ?_
  rintro _ _ ⟨k, rfl, hk, rfl⟩
  rw [BK_geq, hk]
  exact ⟨rfl, rfl⟩
theorem without_ok {w : World} {v u : Value} {is js : List Int} (h : reads w 1 v is.length (ivs is)) (h' : reads w 1 u js.length (ivs js)) (hn : is.length ≤ 1000000) (hn2 : js.length ≤ 1000000) : Rt Try.prog 13 #[v, u] w fun x w' =>
    w'.ownsRow w.heap.size 3 1 x (is.filter fun i => !decide (i ∈ js)).length (ivs (is.filter fun i => !decide (i ∈ js))) ∧ Mod none_ w w' := by
  obtain ⟨A, c, rfl, _⟩ := reads_cap h
  refine dispatcherlaw12_without_calls ?_
  unfold dispatcherlaw12_without_F
  refine W_loop dispatcherlaw12_without_L0_ok (fun ρ w' => ∃ (n : Nat) (x : Value), n ≤ is.length ∧ ρ 6 = .int .i64 n ∧ ρ 0 = .slice A is.length c ∧ ρ 1 = u ∧ ρ 5 = x ∧ Mod none_ w w' ∧
      w'.ownsRow w.heap.size 3 1 x ((is.take n).filter fun i => !decide (i ∈ js)).length (ivs ((is.take n).filter fun i => !decide (i ∈ js)))) (fun ρ _ => is.length - (intOf (ρ 6)).toNat)
    ⟨0, .slice none 0 0, Nat.zero_le _, rfl, rfl, rfl, rfl, Mod.refl _ _, by simpa [ivs] using World.ownsRow_nil w w.heap.size 3 1⟩ ?_
  rintro ρ w1 ⟨n, x0, hn', h6, h0, h1, h5, hm, hown⟩
  rw [dispatcherlaw12_without_L0_eq]
  unfold dispatcherlaw12_without_L0_F
  rw [h6, h0, h1, h5, len_sl Try.underlying27, BK_lss]
  by_cases hlt : n < is.length
  · rw [show decide ((n : Int) < (is.length : Int)) = true by simp; omega]
    obtain ⟨x, hx⟩ : ∃ x, is[n]? = some x := ⟨_, List.getElem?_eq_getElem hlt⟩
    simp only [CondK_bool, MG_b, NG_b, VG_b, UG_b, PG_b, BG_b, CG_b, IG_b, PK_bool, NK_ptr, not_ok, reduceCtorEq, if_true, if_false, Bool.true_eq_false, Bool.false_eq_true, Bool.not_true, Bool.not_false]
    have hr1 := reads_mod h hm (fun _ _ _ => id)
    have hr2 := reads_mod h' hm (fun _ _ _ => id)
    have htk : (is.take (n + 1)).filter (fun i => !decide (i ∈ js)) = (is.take n).filter (fun i => !decide (i ∈ js)) ++ (if x ∈ js then [] else [x]) := by
      rw [List.take_add_one, hx, List.filter_append]
      congr 1
      by_cases hj : x ∈ js <;> simp [hj]
    refine ixld Try.underlying27 c3 Try.underlying3 rfl hr1 (by omega) (ivs_get (by simpa using hx)) fun y => ?_
    refine CK_st Try.func18 rfl rfl (has_ok hr2 hn2) ?_
    rintro _ w1 ⟨rfl, rfl⟩
    by_cases hj : x ∈ js
    · simp only [hj, decide_true, CondK_bool, MG_b, NG_b, VG_b, UG_b, PG_b, BG_b, CG_b, IG_b, PK_bool, NK_ptr, not_ok, reduceCtorEq, if_true, if_false, Bool.true_eq_false, Bool.false_eq_true, Bool.not_true, Bool.not_false]
      rw [dispatcherlaw12_without_R2_eq]
      unfold dispatcherlaw12_without_R2_F
      simp only [sq_n, sq_x, sq_r, bk_n, bk_r, bk_x, rt_r, rt_n, rs_0, rs_t, pk_1, pk_2, up_at, reduceIte, Nat.reduceEqDiff, h6]
      rw [BK_add, wrap_i (by omega) (by omega)]
      refine ⟨⟨n + 1, x0, hlt, rfl, h0, h1, h5, hm, ?_⟩, ?_⟩
      · rw [htk, if_pos hj, List.append_nil]; exact hown
      · simp only [sq_n, sq_x, sq_r, bk_n, bk_r, bk_x, rt_r, rt_n, rs_0, rs_t, pk_1, pk_2, up_at, reduceIte, Nat.reduceEqDiff, intOf]; omega
    · simp only [hj, decide_false, CondK_bool, MG_b, NG_b, VG_b, UG_b, PG_b, BG_b, CG_b, IG_b, PK_bool, NK_ptr, not_ok, reduceCtorEq, if_true, if_false, Bool.true_eq_false, Bool.false_eq_true, Bool.not_true, Bool.not_false]
      refine ixld Try.underlying27 c3 Try.underlying3 rfl hr1 (by omega) (ivs_get (by simpa using hx)) fun y2 => ?_
      have hle : ((is.take n).filter fun i => !decide (i ∈ js)).length ≤ n := Nat.le_trans (List.length_filter_le _ _) (by rw [List.length_take]; omega)
      refine snoc e27 hown (b27 _) rfl (by simp [Value.oneCell']) (by unfold maxLen; omega) (by omega) hm.size fun y3 v2 w3 h3 hm3 ho3 => ?_
      rw [dispatcherlaw12_without_R2_eq]
      unfold dispatcherlaw12_without_R2_F
      simp only [sq_n, sq_x, sq_r, bk_n, bk_r, bk_x, rt_r, rt_n, rs_0, rs_t, pk_1, pk_2, up_at, reduceIte, Nat.reduceEqDiff, h6]
      rw [BK_add, wrap_i (by omega) (by omega)]
      refine ⟨⟨n + 1, v2, hlt, rfl, h0, h1, rfl, ?_, ?_⟩, ?_⟩
      · exact hm.then hm3 fun k hk q => by have := hown.lt k q.symm; omega
      · rw [htk, if_neg hj, ivs_snoc, List.length_append]; exact h3
      · simp only [sq_n, sq_x, sq_r, bk_n, bk_r, bk_x, rt_r, rt_n, rs_0, rs_t, pk_1, pk_2, up_at, reduceIte, Nat.reduceEqDiff, intOf]; omega
  · obtain rfl : n = is.length := by omega
    rw [show decide ((is.length : Int) < (is.length : Int)) = false by simp]
    simp only [CondK_bool, MG_b, NG_b, VG_b, UG_b, PG_b, BG_b, CG_b, IG_b, PK_bool, NK_ptr, not_ok, reduceCtorEq, if_true, if_false, Bool.true_eq_false, Bool.false_eq_true, Bool.not_true, Bool.not_false, sq_n, sq_x, sq_r, bk_n, bk_r, bk_x, rt_r, rt_n, rs_0, rs_t, pk_1, pk_2, up_at, reduceIte, Nat.reduceEqDiff]
    rw [dispatcherlaw12_without_R1_eq]
    unfold dispatcherlaw12_without_R1_F
    simp only [sq_n, sq_x, sq_r, bk_n, bk_r, bk_x, rt_r, rt_n, rs_0, rs_t, pk_1, pk_2, up_at, reduceIte, Nat.reduceEqDiff, h5]
    rw [List.take_length] at hown
    exact ⟨hown, hm⟩
theorem Ints_ok {w : World} {v u : Value} {is js : List Int} (h : reads w 1 v is.length (ivs is)) (h' : reads w 1 u js.length (ivs js)) (hn : is.length ≤ 1000000) : Rt Try.prog 14 #[v, u] w fun x w' => x = .bool (decide (is = js)) ∧ Mod none_ w w' := by
  obtain ⟨A, c, rfl, _⟩ := reads_cap h
  obtain ⟨A', c', rfl, _⟩ := reads_cap h'
  refine dispatcherref11_Ints_calls ?_
  unfold dispatcherref11_Ints_F
  rw [len_sl Try.underlying27, len_sl Try.underlying27, BK_neq]
  by_cases hl : is.length = js.length
  case neg =>
    rw [show ((is.length : Int) != (js.length : Int)) = true by simp; omega]
    simp only [CondK_bool, MG_b, NG_b, VG_b, UG_b, PG_b, BG_b, CG_b, IG_b, PK_bool, NK_ptr, not_ok, reduceCtorEq, if_true, if_false, Bool.true_eq_false, Bool.false_eq_true, Bool.not_true, Bool.not_false]
    exact ⟨by rw [decide_eq_false (fun q => hl (by rw [q]))], Mod.refl _ _⟩
  rw [show ((is.length : Int) != (js.length : Int)) = false by simp; omega]
  simp only [CondK_bool, MG_b, NG_b, VG_b, UG_b, PG_b, BG_b, CG_b, IG_b, PK_bool, NK_ptr, not_ok, reduceCtorEq, if_true, if_false, Bool.true_eq_false, Bool.false_eq_true, Bool.not_true, Bool.not_false]
  refine W_loop dispatcherref11_Ints_L0_ok (fun ρ w' => ∃ n : Nat, n ≤ is.length ∧ ρ 5 = .int .i64 n ∧ ρ 0 = .slice A is.length c ∧ ρ 1 = .slice A' js.length c' ∧ Mod none_ w w' ∧ is.take n = js.take n) (fun ρ _ => is.length - (intOf (ρ 5)).toNat)
    ⟨0, Nat.zero_le _, rfl, rfl, rfl, Mod.refl _ _, rfl⟩ ?_
  rintro ρ w1 ⟨n, hn', h5, h0, h1, hm, heq⟩
  rw [dispatcherref11_Ints_L0_eq]
  unfold dispatcherref11_Ints_L0_F
  rw [h5, h0, len_sl Try.underlying27, BK_lss]
  by_cases hlt : n < is.length
  · rw [show decide ((n : Int) < (is.length : Int)) = true by simp; omega]
    obtain ⟨x, hx⟩ : ∃ x, is[n]? = some x := ⟨_, List.getElem?_eq_getElem hlt⟩
    obtain ⟨y, hy⟩ : ∃ y, js[n]? = some y := ⟨_, List.getElem?_eq_getElem (by omega)⟩
    simp only [CondK_bool, MG_b, NG_b, VG_b, UG_b, PG_b, BG_b, CG_b, IG_b, PK_bool, NK_ptr, not_ok, reduceCtorEq, if_true, if_false, Bool.true_eq_false, Bool.false_eq_true, Bool.not_true, Bool.not_false]
    refine dispatcherref11_Ints_R2_quiet (D := []) (fun w' => Mod none_ w w') (hm.drawn _) ?_
    unfold dispatcherref11_Ints_R2_Q
    simp only [sq_n, sq_x, sq_r, bk_n, bk_r, bk_x, rt_r, rt_n, rs_0, rs_t, pk_1, pk_2, up_at, reduceIte, Nat.reduceEqDiff, h0, h1, h5]
    refine q_ixld (w := w1) Try.underlying27 c3 Try.underlying3 rfl hm (fun w' hw => reads_mod h hw (fun _ _ _ => id)) (by omega) (ivs_get (by simpa using hx)) fun z1 => ?_
    refine q_ixld (w := w1) Try.underlying27 c3 Try.underlying3 rfl hm (fun w' hw => reads_mod h' hw (fun _ _ _ => id)) (by omega) (ivs_get (by simpa using hy)) fun z2 => ?_
    refine QB_of (v := .bool (x != y)) (fun _ => rfl) (fun w => by simp [go_sem]) ?_
    intro w2 hm2
    rw [dispatcherref11_Ints_R3_eq]
    unfold dispatcherref11_Ints_R3_F
    simp only [sq_n, sq_x, sq_r, bk_n, bk_r, bk_x, rt_r, rt_n, rs_0, rs_t, pk_1, pk_2, up_at, reduceIte, Nat.reduceEqDiff]
    by_cases hxy : x = y
    · rw [show (x != y) = false by simpa using hxy]
      simp only [CondK_bool, MG_b, NG_b, VG_b, UG_b, PG_b, BG_b, CG_b, IG_b, PK_bool, NK_ptr, not_ok, reduceCtorEq, if_true, if_false, Bool.true_eq_false, Bool.false_eq_true, Bool.not_true, Bool.not_false, sq_n, sq_x, sq_r, bk_n, bk_r, bk_x, rt_r, rt_n, rs_0, rs_t, pk_1, pk_2, up_at, reduceIte, Nat.reduceEqDiff]
      rw [dispatcherref11_Ints_R4_eq]
      unfold dispatcherref11_Ints_R4_F
      simp only [sq_n, sq_x, sq_r, bk_n, bk_r, bk_x, rt_r, rt_n, rs_0, rs_t, pk_1, pk_2, up_at, reduceIte, Nat.reduceEqDiff, h5]
      rw [BK_add, wrap_i (by omega) (by omega)]
      refine ⟨⟨n + 1, hlt, rfl, h0, h1, hm2, ?_⟩, ?_⟩
      · rw [List.take_add_one, List.take_add_one, hx, hy, heq, hxy]
      · simp only [sq_n, sq_x, sq_r, bk_n, bk_r, bk_x, rt_r, rt_n, rs_0, rs_t, pk_1, pk_2, up_at, reduceIte, Nat.reduceEqDiff, intOf]; omega
    · rw [show (x != y) = true by simpa using hxy]
      simp only [CondK_bool, MG_b, NG_b, VG_b, UG_b, PG_b, BG_b, CG_b, IG_b, PK_bool, NK_ptr, not_ok, reduceCtorEq, if_true, if_false, Bool.true_eq_false, Bool.false_eq_true, Bool.not_true, Bool.not_false, sq_n, sq_x, sq_r, bk_n, bk_r, bk_x, rt_r, rt_n, rs_0, rs_t, pk_1, pk_2, up_at, reduceIte, Nat.reduceEqDiff]
      refine ⟨?_, hm2⟩
      rw [decide_eq_false]
      intro q
      rw [q, hy] at hx
      exact hxy (Option.some.inj hx.symm)
  · obtain rfl : n = is.length := by omega
    rw [show decide ((is.length : Int) < (is.length : Int)) = false by simp]
    simp only [CondK_bool, MG_b, NG_b, VG_b, UG_b, PG_b, BG_b, CG_b, IG_b, PK_bool, NK_ptr, not_ok, reduceCtorEq, if_true, if_false, Bool.true_eq_false, Bool.false_eq_true, Bool.not_true, Bool.not_false, sq_n, sq_x, sq_r, bk_n, bk_r, bk_x, rt_r, rt_n, rs_0, rs_t, pk_1, pk_2, up_at, reduceIte, Nat.reduceEqDiff]
    rw [dispatcherref11_Ints_R1_eq]
    unfold dispatcherref11_Ints_R1_F
    simp only [sq_n, sq_x, sq_r, bk_n, bk_r, bk_x, rt_r, rt_n, rs_0, rs_t, pk_1, pk_2, up_at, reduceIte, Nat.reduceEqDiff]
    rw [List.take_length, hl, List.take_length] at heq
    exact ⟨by rw [decide_eq_true heq], hm⟩
end Go.Proofs.Ytnopejgpbnlmpaa.Req
