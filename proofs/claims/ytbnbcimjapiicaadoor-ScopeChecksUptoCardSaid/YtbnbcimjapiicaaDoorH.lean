/- Whether something holds of one among others. -/
import Derived.Test.YtbnbcimjapiicaaDoorG
set_option linter.unusedVariables false
set_option linter.unusedSimpArgs false
set_option maxRecDepth 4000
namespace Go.Proofs.YtbnbcimjapiicaaDoor.Tr
open Go Go.X Go.RowKit Go.Proofs.YtbnbcimjapiicaaDoor.XF Go.Proofs.YtbnbcimjapiicaaDoor.XK

def zStc : List Value := [.int .u8 0, .int .u8 0, .int .u8 0, .string ByteArray.empty, .int .i64 0, .slice none 0 0, .slice none 0 0, .slice none 0 0, .int .i64 0, .int .i64 0]
theorem zSt : (Tryd.prog.info? 62).bind (·.zero) = some (.agg zStc.toArray) := by kernel_rfl
theorem iSt : (Tryd.prog.info? 62).map (·.size) = some 10 := by kernel_rfl
theorem st_one {w : World} {e : St} (h : e.Ok w) : (e.cells.toArray.all (·.oneCell')) = true := by
  obtain ⟨A, c, hs, _⟩ := reads_cap h.exprs.1
  obtain ⟨A2, c2, hs2, _⟩ := reads_cap h.body.1
  obtain ⟨A3, c3, hs3, _⟩ := reads_cap h.els.1
  simp [St.cells, hs, hs2, hs3, Value.oneCell']
theorem ixSt {w : World} {s : Value} {l : List St} {i : Nat} {e : St} {K : Value → Value → World → Prop} (h : StsOk w s l) (hi : l[i]? = some e) (hk : ∀ x, K x (.agg e.cells.toArray) w) :
    VK Tryd.prog (Instr.indexAt 23 s (.int .i64 (i : Int))) w fun x w => VK Tryd.prog (Instr.loadAt 62 x) w (K x) := by
  have hlt : i < l.length := (List.getElem?_eq_some_iff.1 hi).1
  refine ixldA uSts cSt Tryd.underlying62 rfl h.1 (by omega) (by omega) fun x => ?_
  rw [show ((i : Int).toNat) = i by omega, fl_drop (k := 9 + 1) St.cells_len hi]
  exact hk x
/-- The place of a statement in a row. -/
theorem ixStA {w : World} {s : Value} {l : List St} {i : Nat} {e : St} {K : Value → World → Prop} (h : StsOk w s l) (hi : l[i]? = some e) (hk : ∀ a, (∀ j u, e.cells[j]? = some u → w.cell? (a.add j) = some u) → K (.pointer (some a)) w) :
    VK Tryd.prog (Instr.indexAt 23 s (.int .i64 (i : Int))) w K := by
  have hlt : i < l.length := (List.getElem?_eq_some_iff.1 hi).1
  refine ixat uSts cSt h.1 (by omega) (by omega) fun a ha _ => hk a fun j u hu => ?_
  have hj : j < 9 + 1 := (List.getElem?_eq_some_iff.1 hu).1
  refine ha j u hj ?_
  rw [show ((i : Int).toNat) = i by omega, fl_get (k := 9 + 1) St.cells_len hi hj]
  exact hu
/-- Declarations. -/
structure De where
  name : ByteArray
  places : Int
  line : Int
  col : Int
def De.cells (e : De) : List Value := [.string e.name, .int .i64 e.places, .int .i64 e.line, .int .i64 e.col]
theorem De.cells_len (e : De) : e.cells.length = 4 := rfl
theorem De.c0 (e : De) : e.cells[0]? = some (.string e.name) := rfl
theorem De.c1 (e : De) : e.cells[1]? = some (.int .i64 e.places) := rfl
theorem De.c2 (e : De) : e.cells[2]? = some (.int .i64 e.line) := rfl
theorem De.c3 (e : De) : e.cells[3]? = some (.int .i64 e.col) := rfl
def De.fine (e : De) : Prop := e.name.size ≤ maxLen ∧ (Lit.int .i64 e.places).wf = true ∧ (Lit.int .i64 e.line).wf = true ∧ (Lit.int .i64 e.col).wf = true
def DesOk (w : World) (s : Value) (l : List De) : Prop := reads w 4 s l.length (l.flatMap De.cells) ∧ ∀ a ∈ l, a.fine
theorem DesOk.mod {w w' : World} {s : Value} {l : List De} (h : DesOk w s l) (hm : Mod none_ w w') : DesOk w' s l := ⟨reads_mod h.1 hm (fun _ _ _ => id), h.2⟩
theorem uDes : Tryd.prog.underlying 22 = some (.slice 40) := by kernel_rfl
theorem cDe : Tryd.prog.cellsOf 40 = 4 := by kernel_rfl
theorem zDe : (Tryd.prog.info? 40).bind (·.zero) = some (.agg #[.string ByteArray.empty, .int .i64 0, .int .i64 0, .int .i64 0]) := by kernel_rfl
theorem iDe : (Tryd.prog.info? 40).map (·.size) = some 4 := by kernel_rfl
theorem de_one (e : De) : (e.cells.toArray.all (·.oneCell')) = true := by simp [De.cells, Value.oneCell']
theorem ixDe {w : World} {s : Value} {l : List De} {i : Nat} {e : De} {K : Value → Value → World → Prop} (h : DesOk w s l) (hi : l[i]? = some e) (hk : ∀ x, K x (.agg e.cells.toArray) w) :
    VK Tryd.prog (Instr.indexAt 22 s (.int .i64 (i : Int))) w fun x w => VK Tryd.prog (Instr.loadAt 40 x) w (K x) := by
  have hlt : i < l.length := (List.getElem?_eq_some_iff.1 hi).1
  refine ixldA uDes cDe Tryd.underlying40 rfl h.1 (by omega) (by omega) fun x => ?_
  rw [show ((i : Int).toNat) = i by omega, fl_drop (k := 3 + 1) De.cells_len hi]
  exact hk x
theorem ixDeA {w : World} {s : Value} {l : List De} {i : Nat} {e : De} {K : Value → World → Prop} (h : DesOk w s l) (hi : l[i]? = some e) (hk : ∀ a, (∀ j u, e.cells[j]? = some u → w.cell? (a.add j) = some u) → K (.pointer (some a)) w) :
    VK Tryd.prog (Instr.indexAt 22 s (.int .i64 (i : Int))) w K := by
  have hlt : i < l.length := (List.getElem?_eq_some_iff.1 hi).1
  refine ixat uDes cDe h.1 (by omega) (by omega) fun a ha _ => hk a fun j u hu => ?_
  have hj : j < 3 + 1 := (List.getElem?_eq_some_iff.1 hu).1
  refine ha j u hj ?_
  rw [show ((i : Int).toNat) = i by omega, fl_get (k := 3 + 1) De.cells_len hi hj]
  exact hu
/-- ContainsFunc, over what its test says of each. -/
theorem IndexFuncEx_ok {w : World} {s : Value} {l : List Ex} {p : Ex → Bool} {fv : Value} (h : ExsOk w s l) (hlen : l.length ≤ 1099511627776)
    (hf : ∀ a ∈ l, ∀ w', Mod none_ w w' → ∀ K : Value → World → Prop, (∀ w'', Mod none_ w' w'' → K (.bool (p a)) w'') → CK Tryd.prog fv [.agg a.cells.toArray] w' K) :
    Rt Tryd.prog 110 #[s, fv] w fun v w' => (∃ r : Int, v = .int .i64 r ∧ (if l.any p then 0 ≤ r else r = -1)) ∧ Mod none_ w w' := by
  obtain ⟨A, c, hs, _⟩ := reads_cap h.1
  refine slices_IndexFunc_tree_Expr_tree_Expr_calls ?_
  unfold slices_IndexFunc_tree_Expr_tree_Expr_F
  simp only [hs, fo25_0, fo25_1, fo40_0, fo40_1, fo60_0, fo60_1, fo60_2, fo60_3, fo62_0, fo62_1, fo62_2, fo62_3, fo62_4, fo62_5, fo62_6, fo62_7, ld2, ld3, ld5, ld9, ld22, ld23, ld58, len9, len22, len23, len52, len58, ldK_some, cellE, blkC_c, add_pl, Nat.zero_add, List.getElem?_toArray, List.getElem?_cons_succ, List.getElem?_cons_zero]
  refine W_loop slices_IndexFunc_tree_Expr_tree_Expr_L0_ok (fun ρ w' => ∃ n : Nat, n ≤ l.length ∧ ρ 8 = .int .i64 n ∧ ρ 7 = .int .i64 l.length ∧ ρ 0 = .slice A l.length c ∧ ρ 1 = fv ∧ (∀ a ∈ l.take n, p a = false) ∧ Mod none_ w w') (fun ρ _ => l.length - (intOf (ρ 8)).toNat)
    ⟨0, Nat.zero_le _, rfl, rfl, rfl, rfl, by simp, Mod.refl _ _⟩ ?_
  rintro ρ w1 ⟨n, hn, h8, h7, h0, h1, hno, hm⟩
  rw [slices_IndexFunc_tree_Expr_tree_Expr_L0_eq]
  unfold slices_IndexFunc_tree_Expr_tree_Expr_L0_F
  simp only [h8, h7, h0, h1, BK_lss]
  by_cases hlt : n < l.length
  · rw [show decide ((n : Int) < (l.length : Int)) = true by rw [decide_eq_true_eq]; omega]
    simp only [CondK_bool, MG_u, NG_u, VG_u, UG_u, PG_u, BG_u, CG_u, IG_u, MG_b, NG_b, VG_b, UG_b, PG_b, BG_b, CG_b, IG_b, PK_bool, NK_ptr, not_ok, reduceCtorEq, if_true, if_false, Bool.true_eq_false, Bool.false_eq_true, Bool.not_true, Bool.not_false]
    have hx : l[n]? = some l[n] := List.getElem?_eq_getElem hlt
    have hmem : l[n] ∈ l := List.getElem_mem hlt
    have h2 := h.mod hm
    rw [hs] at h2
    refine ixEx h2 hx fun y => ?_
    refine hf _ hmem w1 hm _ fun w2 hm2 => ?_
    refine caseC (fun hp => ?_) (fun hp => ?_)
    · refine ⟨⟨_, rfl, ?_⟩, hm.trans hm2⟩
      rw [if_pos (List.any_eq_true.2 ⟨_, hmem, hp⟩)]
      omega
    · rw [BK_add, wrap_i (by omega) (by omega)]
      refine ⟨⟨n + 1, hlt, rfl, h7, h0, h1, ?_, hm.trans hm2⟩, ?_⟩
      · rw [List.take_add_one, hx, Option.toList_some]
        intro a q
        rcases List.mem_append.1 q with q | q
        · exact hno a q
        · rw [List.mem_singleton.1 q]; exact hp
      · simp only [sq_n, sq_x, sq_r, bk_n, bk_r, bk_x, rt_r, rt_n, rs_0, rs_t, pk_1, pk_2, up_at, reduceIte, Nat.reduceEqDiff, intOf]; omega
  · obtain rfl : n = l.length := by omega
    rw [show decide (((l.length : Nat) : Int) < (l.length : Int)) = false by simp]
    simp only [CondK_bool, MG_u, NG_u, VG_u, UG_u, PG_u, BG_u, CG_u, IG_u, MG_b, NG_b, VG_b, UG_b, PG_b, BG_b, CG_b, IG_b, PK_bool, NK_ptr, not_ok, reduceCtorEq, if_true, if_false, Bool.true_eq_false, Bool.false_eq_true, Bool.not_true, Bool.not_false, sq_n, sq_x, sq_r, bk_n, bk_r, bk_x, rt_r, rt_n, rs_0, rs_t, pk_1, pk_2, up_at, reduceIte, Nat.reduceEqDiff]
    rw [slices_IndexFunc_tree_Expr_tree_Expr_R1_eq]
    unfold slices_IndexFunc_tree_Expr_tree_Expr_R1_F
    simp only [sq_n, sq_x, sq_r, bk_n, bk_r, bk_x, rt_r, rt_n, rs_0, rs_t, pk_1, pk_2, up_at, reduceIte, Nat.reduceEqDiff]
    refine ⟨⟨_, rfl, ?_⟩, hm⟩
    rw [if_neg]
    intro q
    obtain ⟨a, ha, hp⟩ := List.any_eq_true.1 q
    rw [List.take_length] at hno
    rw [hno a ha] at hp
    cases hp
theorem ContainsFuncEx_ok {w : World} {s : Value} {l : List Ex} {p : Ex → Bool} {fv : Value} (h : ExsOk w s l) (hlen : l.length ≤ 1099511627776)
    (hf : ∀ a ∈ l, ∀ w', Mod none_ w w' → ∀ K : Value → World → Prop, (∀ w'', Mod none_ w' w'' → K (.bool (p a)) w'') → CK Tryd.prog fv [.agg a.cells.toArray] w' K) :
    Rt Tryd.prog 94 #[s, fv] w fun v w' => v = .bool (l.any p) ∧ Mod none_ w w' := by
  refine slices_ContainsFunc_tree_Expr_tree_Expr_calls ?_
  unfold slices_ContainsFunc_tree_Expr_tree_Expr_F
  refine CK_st Tryd.func110 rfl rfl (IndexFuncEx_ok h hlen hf) ?_
  rintro _ w1 ⟨⟨r, rfl, hr⟩, hm⟩
  rw [BK_geq]
  refine ⟨?_, hm⟩
  cases hp : l.any p with
  | true =>
    rw [hp, if_pos rfl] at hr
    rw [decide_eq_true hr]
  | false =>
    rw [hp, if_neg (by simp)] at hr
    rw [hr]
    rfl
/-- ContainsFunc, over what its test says of each. -/
theorem IndexFuncSt_ok {w : World} {s : Value} {l : List St} {p : St → Bool} {fv : Value} (h : StsOk w s l) (hlen : l.length ≤ 1099511627776)
    (hf : ∀ a ∈ l, ∀ w', Mod none_ w w' → ∀ K : Value → World → Prop, (∀ w'', Mod none_ w' w'' → K (.bool (p a)) w'') → CK Tryd.prog fv [.agg a.cells.toArray] w' K) :
    Rt Tryd.prog 92 #[s, fv] w fun v w' => (∃ r : Int, v = .int .i64 r ∧ (if l.any p then 0 ≤ r else r = -1)) ∧ Mod none_ w w' := by
  obtain ⟨A, c, hs, _⟩ := reads_cap h.1
  refine slices_IndexFunc_tree_Stmt_tree_Stmt_calls ?_
  unfold slices_IndexFunc_tree_Stmt_tree_Stmt_F
  simp only [hs, fo25_0, fo25_1, fo40_0, fo40_1, fo60_0, fo60_1, fo60_2, fo60_3, fo62_0, fo62_1, fo62_2, fo62_3, fo62_4, fo62_5, fo62_6, fo62_7, ld2, ld3, ld5, ld9, ld22, ld23, ld58, len9, len22, len23, len52, len58, ldK_some, cellE, blkC_c, add_pl, Nat.zero_add, List.getElem?_toArray, List.getElem?_cons_succ, List.getElem?_cons_zero]
  refine W_loop slices_IndexFunc_tree_Stmt_tree_Stmt_L0_ok (fun ρ w' => ∃ n : Nat, n ≤ l.length ∧ ρ 8 = .int .i64 n ∧ ρ 7 = .int .i64 l.length ∧ ρ 0 = .slice A l.length c ∧ ρ 1 = fv ∧ (∀ a ∈ l.take n, p a = false) ∧ Mod none_ w w') (fun ρ _ => l.length - (intOf (ρ 8)).toNat)
    ⟨0, Nat.zero_le _, rfl, rfl, rfl, rfl, by simp, Mod.refl _ _⟩ ?_
  rintro ρ w1 ⟨n, hn, h8, h7, h0, h1, hno, hm⟩
  rw [slices_IndexFunc_tree_Stmt_tree_Stmt_L0_eq]
  unfold slices_IndexFunc_tree_Stmt_tree_Stmt_L0_F
  simp only [h8, h7, h0, h1, BK_lss]
  by_cases hlt : n < l.length
  · rw [show decide ((n : Int) < (l.length : Int)) = true by rw [decide_eq_true_eq]; omega]
    simp only [CondK_bool, MG_u, NG_u, VG_u, UG_u, PG_u, BG_u, CG_u, IG_u, MG_b, NG_b, VG_b, UG_b, PG_b, BG_b, CG_b, IG_b, PK_bool, NK_ptr, not_ok, reduceCtorEq, if_true, if_false, Bool.true_eq_false, Bool.false_eq_true, Bool.not_true, Bool.not_false]
    have hx : l[n]? = some l[n] := List.getElem?_eq_getElem hlt
    have hmem : l[n] ∈ l := List.getElem_mem hlt
    have h2 := h.mod hm
    rw [hs] at h2
    refine ixSt h2 hx fun y => ?_
    refine hf _ hmem w1 hm _ fun w2 hm2 => ?_
    refine caseC (fun hp => ?_) (fun hp => ?_)
    · refine ⟨⟨_, rfl, ?_⟩, hm.trans hm2⟩
      rw [if_pos (List.any_eq_true.2 ⟨_, hmem, hp⟩)]
      omega
    · rw [BK_add, wrap_i (by omega) (by omega)]
      refine ⟨⟨n + 1, hlt, rfl, h7, h0, h1, ?_, hm.trans hm2⟩, ?_⟩
      · rw [List.take_add_one, hx, Option.toList_some]
        intro a q
        rcases List.mem_append.1 q with q | q
        · exact hno a q
        · rw [List.mem_singleton.1 q]; exact hp
      · simp only [sq_n, sq_x, sq_r, bk_n, bk_r, bk_x, rt_r, rt_n, rs_0, rs_t, pk_1, pk_2, up_at, reduceIte, Nat.reduceEqDiff, intOf]; omega
  · obtain rfl : n = l.length := by omega
    rw [show decide (((l.length : Nat) : Int) < (l.length : Int)) = false by simp]
    simp only [CondK_bool, MG_u, NG_u, VG_u, UG_u, PG_u, BG_u, CG_u, IG_u, MG_b, NG_b, VG_b, UG_b, PG_b, BG_b, CG_b, IG_b, PK_bool, NK_ptr, not_ok, reduceCtorEq, if_true, if_false, Bool.true_eq_false, Bool.false_eq_true, Bool.not_true, Bool.not_false, sq_n, sq_x, sq_r, bk_n, bk_r, bk_x, rt_r, rt_n, rs_0, rs_t, pk_1, pk_2, up_at, reduceIte, Nat.reduceEqDiff]
    rw [slices_IndexFunc_tree_Stmt_tree_Stmt_R1_eq]
    unfold slices_IndexFunc_tree_Stmt_tree_Stmt_R1_F
    simp only [sq_n, sq_x, sq_r, bk_n, bk_r, bk_x, rt_r, rt_n, rs_0, rs_t, pk_1, pk_2, up_at, reduceIte, Nat.reduceEqDiff]
    refine ⟨⟨_, rfl, ?_⟩, hm⟩
    rw [if_neg]
    intro q
    obtain ⟨a, ha, hp⟩ := List.any_eq_true.1 q
    rw [List.take_length] at hno
    rw [hno a ha] at hp
    cases hp
theorem ContainsFuncSt_ok {w : World} {s : Value} {l : List St} {p : St → Bool} {fv : Value} (h : StsOk w s l) (hlen : l.length ≤ 1099511627776)
    (hf : ∀ a ∈ l, ∀ w', Mod none_ w w' → ∀ K : Value → World → Prop, (∀ w'', Mod none_ w' w'' → K (.bool (p a)) w'') → CK Tryd.prog fv [.agg a.cells.toArray] w' K) :
    Rt Tryd.prog 73 #[s, fv] w fun v w' => v = .bool (l.any p) ∧ Mod none_ w w' := by
  refine slices_ContainsFunc_tree_Stmt_tree_Stmt_calls ?_
  unfold slices_ContainsFunc_tree_Stmt_tree_Stmt_F
  refine CK_st Tryd.func92 rfl rfl (IndexFuncSt_ok h hlen hf) ?_
  rintro _ w1 ⟨⟨r, rfl, hr⟩, hm⟩
  rw [BK_geq]
  refine ⟨?_, hm⟩
  cases hp : l.any p with
  | true =>
    rw [hp, if_pos rfl] at hr
    rw [decide_eq_true hr]
  | false =>
    rw [hp, if_neg (by simp)] at hr
    rw [hr]
    rfl
/-- ContainsFunc, over what its test says of each. -/
theorem IndexFuncDe_ok {w : World} {s : Value} {l : List De} {p : De → Bool} {fv : Value} (h : DesOk w s l) (hlen : l.length ≤ 1099511627776)
    (hf : ∀ a ∈ l, ∀ w', Mod none_ w w' → ∀ K : Value → World → Prop, (∀ w'', Mod none_ w' w'' → K (.bool (p a)) w'') → CK Tryd.prog fv [.agg a.cells.toArray] w' K) :
    Rt Tryd.prog 72 #[s, fv] w fun v w' => (∃ r : Int, v = .int .i64 r ∧ (if l.any p then 0 ≤ r else r = -1)) ∧ Mod none_ w w' := by
  obtain ⟨A, c, hs, _⟩ := reads_cap h.1
  refine slices_IndexFunc_tree_Decl_tree_Decl_calls ?_
  unfold slices_IndexFunc_tree_Decl_tree_Decl_F
  simp only [hs, fo25_0, fo25_1, fo40_0, fo40_1, fo60_0, fo60_1, fo60_2, fo60_3, fo62_0, fo62_1, fo62_2, fo62_3, fo62_4, fo62_5, fo62_6, fo62_7, ld2, ld3, ld5, ld9, ld22, ld23, ld58, len9, len22, len23, len52, len58, ldK_some, cellE, blkC_c, add_pl, Nat.zero_add, List.getElem?_toArray, List.getElem?_cons_succ, List.getElem?_cons_zero]
  refine W_loop slices_IndexFunc_tree_Decl_tree_Decl_L0_ok (fun ρ w' => ∃ n : Nat, n ≤ l.length ∧ ρ 8 = .int .i64 n ∧ ρ 7 = .int .i64 l.length ∧ ρ 0 = .slice A l.length c ∧ ρ 1 = fv ∧ (∀ a ∈ l.take n, p a = false) ∧ Mod none_ w w') (fun ρ _ => l.length - (intOf (ρ 8)).toNat)
    ⟨0, Nat.zero_le _, rfl, rfl, rfl, rfl, by simp, Mod.refl _ _⟩ ?_
  rintro ρ w1 ⟨n, hn, h8, h7, h0, h1, hno, hm⟩
  rw [slices_IndexFunc_tree_Decl_tree_Decl_L0_eq]
  unfold slices_IndexFunc_tree_Decl_tree_Decl_L0_F
  simp only [h8, h7, h0, h1, BK_lss]
  by_cases hlt : n < l.length
  · rw [show decide ((n : Int) < (l.length : Int)) = true by rw [decide_eq_true_eq]; omega]
    simp only [CondK_bool, MG_u, NG_u, VG_u, UG_u, PG_u, BG_u, CG_u, IG_u, MG_b, NG_b, VG_b, UG_b, PG_b, BG_b, CG_b, IG_b, PK_bool, NK_ptr, not_ok, reduceCtorEq, if_true, if_false, Bool.true_eq_false, Bool.false_eq_true, Bool.not_true, Bool.not_false]
    have hx : l[n]? = some l[n] := List.getElem?_eq_getElem hlt
    have hmem : l[n] ∈ l := List.getElem_mem hlt
    have h2 := h.mod hm
    rw [hs] at h2
    refine ixDe h2 hx fun y => ?_
    refine hf _ hmem w1 hm _ fun w2 hm2 => ?_
    refine caseC (fun hp => ?_) (fun hp => ?_)
    · refine ⟨⟨_, rfl, ?_⟩, hm.trans hm2⟩
      rw [if_pos (List.any_eq_true.2 ⟨_, hmem, hp⟩)]
      omega
    · rw [BK_add, wrap_i (by omega) (by omega)]
      refine ⟨⟨n + 1, hlt, rfl, h7, h0, h1, ?_, hm.trans hm2⟩, ?_⟩
      · rw [List.take_add_one, hx, Option.toList_some]
        intro a q
        rcases List.mem_append.1 q with q | q
        · exact hno a q
        · rw [List.mem_singleton.1 q]; exact hp
      · simp only [sq_n, sq_x, sq_r, bk_n, bk_r, bk_x, rt_r, rt_n, rs_0, rs_t, pk_1, pk_2, up_at, reduceIte, Nat.reduceEqDiff, intOf]; omega
  · obtain rfl : n = l.length := by omega
    rw [show decide (((l.length : Nat) : Int) < (l.length : Int)) = false by simp]
    simp only [CondK_bool, MG_u, NG_u, VG_u, UG_u, PG_u, BG_u, CG_u, IG_u, MG_b, NG_b, VG_b, UG_b, PG_b, BG_b, CG_b, IG_b, PK_bool, NK_ptr, not_ok, reduceCtorEq, if_true, if_false, Bool.true_eq_false, Bool.false_eq_true, Bool.not_true, Bool.not_false, sq_n, sq_x, sq_r, bk_n, bk_r, bk_x, rt_r, rt_n, rs_0, rs_t, pk_1, pk_2, up_at, reduceIte, Nat.reduceEqDiff]
    rw [slices_IndexFunc_tree_Decl_tree_Decl_R1_eq]
    unfold slices_IndexFunc_tree_Decl_tree_Decl_R1_F
    simp only [sq_n, sq_x, sq_r, bk_n, bk_r, bk_x, rt_r, rt_n, rs_0, rs_t, pk_1, pk_2, up_at, reduceIte, Nat.reduceEqDiff]
    refine ⟨⟨_, rfl, ?_⟩, hm⟩
    rw [if_neg]
    intro q
    obtain ⟨a, ha, hp⟩ := List.any_eq_true.1 q
    rw [List.take_length] at hno
    rw [hno a ha] at hp
    cases hp
theorem ContainsFuncDe_ok {w : World} {s : Value} {l : List De} {p : De → Bool} {fv : Value} (h : DesOk w s l) (hlen : l.length ≤ 1099511627776)
    (hf : ∀ a ∈ l, ∀ w', Mod none_ w w' → ∀ K : Value → World → Prop, (∀ w'', Mod none_ w' w'' → K (.bool (p a)) w'') → CK Tryd.prog fv [.agg a.cells.toArray] w' K) :
    Rt Tryd.prog 52 #[s, fv] w fun v w' => v = .bool (l.any p) ∧ Mod none_ w w' := by
  refine slices_ContainsFunc_tree_Decl_tree_Decl_calls ?_
  unfold slices_ContainsFunc_tree_Decl_tree_Decl_F
  refine CK_st Tryd.func72 rfl rfl (IndexFuncDe_ok h hlen hf) ?_
  rintro _ w1 ⟨⟨r, rfl, hr⟩, hm⟩
  rw [BK_geq]
  refine ⟨?_, hm⟩
  cases hp : l.any p with
  | true =>
    rw [hp, if_pos rfl] at hr
    rw [decide_eq_true hr]
  | false =>
    rw [hp, if_neg (by simp)] at hr
    rw [hr]
    rfl
end Go.Proofs.YtbnbcimjapiicaaDoor.Tr
