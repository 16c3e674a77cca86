/- QueueNil: a queue that nobody made. -/
import Derived.Test.YtnnppjfpiopgfaaXF
import Derived.Test.YtnnppjfpiopgfaaXMore
set_option linter.unusedVariables false
set_option linter.unusedSimpArgs false
set_option maxRecDepth 4000
namespace Go.Proofs.Ytnnppjfpiopgfaa.Que
open Go Go.X Go.RowKit Go.Proofs.Ytnnppjfpiopgfaa.XF

structure M where
  key : ByteArray
  frm : Int
  to : Int
  call : Int
  tag : Int
  val : Int
  size : Int
  taken : Bool
def M.enc (m : M) : List Value := [.string m.key, .int .i64 m.frm, .int .i64 m.to, .int .i64 m.call, .int .i64 m.tag, .int .i64 m.val, .int .i64 m.size, .bool m.taken]
def M.zero : M := ⟨ByteArray.empty, 0, 0, 0, 0, 0, 0, false⟩
def zm : Value := .agg M.zero.enc.toArray
def NilQ (w : World) (p : Option Addr) : Prop := p = none ∨ ∃ t, p = some ⟨t, 0, none⟩ ∧ w.heap[t]? = some (.cells #[.map none, .map none] 60 (0, 0))
theorem NilQ.mod {w w' : World} {p : Option Addr} (h : NilQ w p) (hm : Mod none_ w w') : NilQ w' p := by
  rcases h with h | ⟨t, h, hb⟩
  · exact .inl h
  · exact .inr ⟨t, h, hm.blk hb id⟩
theorem zm_zero : (Try.prog.info? 31).bind (·.zero) = some zm := by kernel_rfl
theorem zm_built : Try.prog.built 31 [] = some M.zero.enc.toArray := by kernel_rfl
theorem i31 : (Try.prog.info? 31).map (·.size) = some 8 := by kernel_rfl
theorem enc_one (r : M) : (r.enc.toArray.all (·.oneCell')) = true := by simp [M.enc, Value.oneCell']
theorem f60_0 {w : World} {K : Value → World → Prop} (a : Addr) : VK Try.prog (Instr.fieldAt 60 (.pointer (some a)) 0) w K = K (.pointer (some (a.add 0))) w := fo (by kernel_rfl) a
theorem fo31_0 : fieldOff Try.prog 31 0 = some 0 := by kernel_rfl
theorem fo31_1 : fieldOff Try.prog 31 1 = some 1 := by kernel_rfl
theorem fo31_2 : fieldOff Try.prog 31 2 = some 2 := by kernel_rfl
theorem fo31_3 : fieldOff Try.prog 31 3 = some 3 := by kernel_rfl
theorem fo31_4 : fieldOff Try.prog 31 4 = some 4 := by kernel_rfl
theorem c31 : Try.prog.cellsOf 31 = 7 + 1 := by kernel_rfl
theorem c24 : Try.prog.cellsOf 24 = 1 := by kernel_rfl
theorem map_nil (x y : Operand) {w : World} {K : Value → World → Prop} : BK Try.prog .eql 57 x y (.map none) (.map none) w K = K (.bool true) w := BK_of (by kernel_rfl) (by kernel_rfl)

theorem none_nil {w : World} {p : Option Addr} (h : NilQ w p) : Rt Try.prog 32 #[.pointer p] w fun v w' => v = .bool true ∧ w' = w := by
  refine queue_Queue_none_calls ?_
  unfold queue_Queue_none_F
  rw [BK_eqlP Try.underlying24]
  rcases h with rfl | ⟨t, rfl, hb⟩
  · simp only [Option.isNone_none, CondK_bool, MG_b, NG_b, VG_b, UG_b, PG_b, BG_b, CG_b, IG_b, PK_bool, NK_ptr, not_ok, reduceCtorEq, if_true, if_false, Bool.true_eq_false, Bool.false_eq_true, Bool.not_true, Bool.not_false, and_self]
  · simp only [Option.isNone_some, CondK_bool, MG_b, NG_b, VG_b, UG_b, PG_b, BG_b, CG_b, IG_b, PK_bool, NK_ptr, not_ok, reduceCtorEq, if_true, if_false, Bool.true_eq_false, Bool.false_eq_true, Bool.not_true, Bool.not_false, f60_0]
    refine ld1 Try.underlying57 rfl (v := .map none) (by rw [add_pl, cell_blk hb]; rfl) ?_
    simp only [CondK_bool, MG_b, NG_b, VG_b, UG_b, PG_b, BG_b, CG_b, IG_b, PK_bool, NK_ptr, not_ok, reduceCtorEq, if_true, if_false, Bool.true_eq_false, Bool.false_eq_true, Bool.not_true, Bool.not_false, map_nil, and_self]
theorem find_nil {w : World} {p : Option Addr} {a b : Int} (h : NilQ w p) : Rt Try.prog 35 #[.pointer p, .int .i64 a, .int .i64 b] w fun v w' => v = .tuple #[.slice none 0 0, .int .i64 (-1)] ∧ Mod none_ w w' := by
  refine queue_Queue_find_calls ?_
  unfold queue_Queue_find_F
  refine box_k rfl fun w1 _ hm1 _ => ?_
  refine CK_st Try.func32 rfl rfl (none_nil (h.mod hm1)) ?_
  rintro _ w1 ⟨rfl, rfl⟩
  simp only [CondK_bool, MG_b, NG_b, VG_b, UG_b, PG_b, BG_b, CG_b, IG_b, PK_bool, NK_ptr, not_ok, reduceCtorEq, if_true, if_false, Bool.true_eq_false, Bool.false_eq_true, Bool.not_true, Bool.not_false]
  exact ⟨trivial, hm1⟩
theorem Find_nil {w : World} {p : Option Addr} {a b : Int} (h : NilQ w p) : Rt Try.prog 21 #[.pointer p, .int .i64 a, .int .i64 b] w fun v w' => v = .tuple #[zm, .bool false] ∧ Mod none_ w w' := by
  refine queue_Queue_Find_calls ?_
  unfold queue_Queue_Find_F
  refine al_k (cs := M.zero.enc.toArray) zm_zero rfl _ fun w1 hb1 hm1 hs1 => ?_
  refine CK_st Try.func35 rfl rfl (find_nil (h.mod hm1)) ?_
  rintro _ w2 ⟨rfl, hm2⟩
  rw [extract_ok (v := .slice none 0 0) rfl, extract_ok (v := .int .i64 (-1)) rfl, BK_lss]
  simp only [CondK_bool, MG_b, NG_b, VG_b, UG_b, PG_b, BG_b, CG_b, IG_b, PK_bool, NK_ptr, not_ok, reduceCtorEq, if_true, if_false, Bool.true_eq_false, Bool.false_eq_true, Bool.not_true, Bool.not_false, show decide ((-1 : Int) < 0) = true from rfl]
  rw [build_ok zm_built]
  have hb2 := hm2.blk hb1 id
  refine stB i31 rfl (enc_one _) hb2 ?_
  have := X.blk_lt hb2
  exact ⟨_, res_ld (run_ldB (cs := M.zero.enc.toArray) Try.underlying31 rfl i31 (setB_new _ _ _ this)), rfl, (hm1.trans hm2).set _ (fun q => absurd q (by omega))⟩
theorem First_nil {w : World} {p : Option Addr} {k a b c : Value} (h : NilQ w p) : Rt Try.prog 23 #[.pointer p, k, a, b, c] w fun v w' => v = .tuple #[zm, .bool false] ∧ Mod none_ w w' := by
  refine queue_Queue_First_calls ?_
  unfold queue_Queue_First_F
  refine al_k (cs := M.zero.enc.toArray) zm_zero rfl _ fun w1 hb1 hm1 hs1 => ?_
  refine CK_st Try.func32 rfl rfl (none_nil (h.mod hm1)) ?_
  rintro _ w1 ⟨rfl, rfl⟩
  simp only [CondK_bool, MG_b, NG_b, VG_b, UG_b, PG_b, BG_b, CG_b, IG_b, PK_bool, NK_ptr, not_ok, reduceCtorEq, if_true, if_false, Bool.true_eq_false, Bool.false_eq_true, Bool.not_true, Bool.not_false]
  rw [build_ok zm_built]
  refine stB i31 rfl (enc_one _) hb1 ?_
  have := X.blk_lt hb1
  exact ⟨_, res_ld (run_ldB (cs := M.zero.enc.toArray) Try.underlying31 rfl i31 (setB_new _ _ _ this)), rfl, hm1.set _ (fun q => absurd q (by omega))⟩
theorem Send_nil {w : World} {p : Option Addr} {v : Value} (h : NilQ w p) : Rt Try.prog 11 #[.pointer p, v] w fun v w' => v = .int .i64 1 ∧ Mod none_ w w' := by
  refine queue_Queue_Send_calls ?_
  unfold queue_Queue_Send_F
  refine box_k rfl fun w1 _ hm1 _ => ?_
  refine CK_st Try.func32 rfl rfl (none_nil (h.mod hm1)) ?_
  rintro _ w1 ⟨rfl, rfl⟩
  simp only [CondK_bool, MG_b, NG_b, VG_b, UG_b, PG_b, BG_b, CG_b, IG_b, PK_bool, NK_ptr, not_ok, reduceCtorEq, if_true, if_false, Bool.true_eq_false, Bool.false_eq_true, Bool.not_true, Bool.not_false]
  exact ⟨trivial, hm1⟩
theorem Take_nil {w : World} {p : Option Addr} {a b : Value} (h : NilQ w p) : Rt Try.prog 13 #[.pointer p, a, b] w fun v w' => v = .int .i64 1 ∧ w' = w := by
  refine queue_Queue_Take_calls ?_
  unfold queue_Queue_Take_F
  refine CK_st Try.func32 rfl rfl (none_nil h) ?_
  rintro _ w ⟨rfl, rfl⟩
  simp only [CondK_bool, MG_b, NG_b, VG_b, UG_b, PG_b, BG_b, CG_b, IG_b, PK_bool, NK_ptr, not_ok, reduceCtorEq, if_true, if_false, Bool.true_eq_false, Bool.false_eq_true, Bool.not_true, Bool.not_false, and_self]
theorem Left_nil {w : World} {p : Option Addr} (h : NilQ w p) : Rt Try.prog 17 #[.pointer p] w fun v w' => v = .slice none 0 0 ∧ w' = w := by
  refine queue_Queue_Left_calls ?_
  unfold queue_Queue_Left_F
  refine CK_st Try.func32 rfl rfl (none_nil h) ?_
  rintro _ w ⟨rfl, rfl⟩
  simp only [CondK_bool, MG_b, NG_b, VG_b, UG_b, PG_b, BG_b, CG_b, IG_b, PK_bool, NK_ptr, not_ok, reduceCtorEq, if_true, if_false, Bool.true_eq_false, Bool.false_eq_true, Bool.not_true, Bool.not_false, and_self]
theorem Senders_nil {w : World} {p : Option Addr} {a b : Value} (h : NilQ w p) : Rt Try.prog 28 #[.pointer p, a, b] w fun v w' => v = .slice none 0 0 ∧ w' = w := by
  refine queue_Queue_Senders_calls ?_
  unfold queue_Queue_Senders_F
  refine CK_st Try.func32 rfl rfl (none_nil h) ?_
  rintro _ w ⟨rfl, rfl⟩
  simp only [CondK_bool, MG_b, NG_b, VG_b, UG_b, PG_b, BG_b, CG_b, IG_b, PK_bool, NK_ptr, not_ok, reduceCtorEq, if_true, if_false, Bool.true_eq_false, Bool.false_eq_true, Bool.not_true, Bool.not_false, and_self]
theorem Copy_nil (w : World) : Rt Try.prog 15 #[.pointer none] w fun v w' => v = .pointer none ∧ w' = w := by
  refine queue_Queue_Copy_calls ?_
  unfold queue_Queue_Copy_F
  rw [BK_eqlP Try.underlying24]
  simp only [Option.isNone_none, CondK_bool, MG_b, NG_b, VG_b, UG_b, PG_b, BG_b, CG_b, IG_b, PK_bool, NK_ptr, not_ok, reduceCtorEq, if_true, if_false, Bool.true_eq_false, Bool.false_eq_true, Bool.not_true, Bool.not_false, and_self]
theorem Ahead_nil {w : World} {p : Option Addr} {m : M} (h : NilQ w p) : Rt Try.prog 25 #[.pointer p, .agg m.enc.toArray] w fun v w' => v = .slice none 0 0 ∧ Mod none_ w w' := by
  refine queue_Queue_Ahead_calls ?_
  unfold queue_Queue_Ahead_F
  refine box_k (cs := m.enc.toArray) rfl fun w1 hb1 hm1 _ => ?_
  rw [fo fo31_1]
  refine ld1 Try.underlying3 rfl (v := .int .i64 m.frm) (by rw [add_pl, cell_blk hb1]; rfl) ?_
  rw [fo fo31_3]
  refine ld1 Try.underlying3 rfl (v := .int .i64 m.call) (by rw [add_pl, cell_blk hb1]; rfl) ?_
  refine CK_st Try.func35 rfl rfl (find_nil (h.mod hm1)) ?_
  rintro _ w2 ⟨rfl, hm2⟩
  rw [extract_ok (v := .slice none 0 0) rfl, extract_ok (v := .int .i64 (-1)) rfl, max_i, if_pos (by decide)]
  refine VK_of (run_cut (sz := 7) Try.underlying27 c31 (Nat.le_refl 0) (by decide) (by decide) w2) ?_
  show IK Try.prog Builtin.len #[27] 3 [false] [.slice none 0 0] w2 _
  rw [len_sl Try.underlying27]
  refine W_loop queue_Queue_Ahead_L0_ok (fun ρ w' => ρ 24 = .int .i64 0 ∧ ρ 23 = .int .i64 0 ∧ ρ 5 = .slice none 0 0 ∧ w' = w2) (fun ρ _ => 0) ⟨rfl, rfl, rfl, rfl⟩ ?_
  rintro ρ w2 ⟨h24, h23, h5, rfl⟩
  rw [queue_Queue_Ahead_L0_eq]
  unfold queue_Queue_Ahead_L0_F
  rw [h24, h23, BK_lss]
  simp only [CondK_bool, MG_b, NG_b, VG_b, UG_b, PG_b, BG_b, CG_b, IG_b, PK_bool, NK_ptr, not_ok, reduceCtorEq, if_true, if_false, Bool.true_eq_false, Bool.false_eq_true, Bool.not_true, Bool.not_false, show decide ((0 : Int) < 0) = false from rfl, sq_n, sq_x, sq_r, bk_n, bk_r, bk_x, rt_r, rt_n, rs_0, rs_t, pk_1, pk_2, up_at, reduceIte, Nat.reduceEqDiff]
  rw [queue_Queue_Ahead_R1_eq]
  unfold queue_Queue_Ahead_R1_F
  simp only [sq_n, sq_x, sq_r, bk_n, bk_r, bk_x, rt_r, rt_n, rs_0, rs_t, pk_1, pk_2, up_at, reduceIte, Nat.reduceEqDiff, h5]
  exact ⟨trivial, hm1.trans hm2⟩

theorem b60 : Try.prog.built 60 [] = some #[.map none, .map none] := by kernel_rfl
theorem b61 (a : Option Addr) : builtRow Try.prog 61 2 [(0, .pointer none), (1, .pointer a)] = some #[.pointer none, .pointer a] := by kernel_rfl
theorem run_neq (t : TypeId) (k : IntKind) (a b : Int) (w : World) : (binOp .neq t (.int k a) (.int k b)).run Try.prog w = .ok (.bool (a != b)) w := by simp [go_sem]
theorem run_add (t : TypeId) (k : IntKind) (a b : Int) (w : World) : (binOp .add t (.int k a) (.int k b)).run Try.prog w = .ok (.int k (k.wrap (a + b))) w := by simp [go_sem]

theorem Nil_ok (w : World) (m : M) : Rt Try.prog 8 #[.agg m.enc.toArray] w fun v w' => v = .bool true ∧ Mod none_ w w' := by
  refine dispatcherlaw13_QueueNil_calls ?_
  unfold dispatcherlaw13_QueueNil_F
  refine box_k (cs := m.enc.toArray) rfl fun w1 hb1 hm1 _ => ?_
  rw [fo fo31_0]
  refine ld1 Try.underlying9 rfl (v := .string m.key) (by rw [add_pl, cell_blk hb1]; rfl) ?_
  rw [len_str Try.underlying9, BK_gtr, CondK_bool]
  by_cases h100 : decide ((100 : Int) < (m.key.size : Int)) = true
  · rw [if_pos h100]; exact ⟨rfl, hm1⟩
  rw [if_neg h100]
  rw [build_ok b60]
  refine box_k (cs := #[.map none, .map none]) rfl fun w3 hb3 hm3 _ => ?_
  refine bs_k (b61 _) fun w4 hb4 hm4 _ => ?_
  have hm5 : Mod none_ w w4 := (hm1.trans hm3).trans hm4
  have ht4 : NilQ w4 (some ⟨w1.heap.size, 0, none⟩) := .inr ⟨_, rfl, hm4.blk hb3 id⟩
  have hr4 := reads_blk (size := 1) (n := 2) hb4 rfl
  have hb5 := hm4.blk (hm3.blk hb1 id) id
  generalize w3.heap.size = S at *
  generalize w1.heap.size = T at *
  generalize w.heap.size = U at *
  refine W_loop dispatcherlaw13_QueueNil_L0_ok (fun ρ w' => ∃ n : Nat, n ≤ 2 ∧ ρ 5 = .int .i64 n ∧ ρ 4 = .slice (some ⟨S, 0, none⟩) 2 2 ∧ ρ 1 = .pointer (some ⟨U, 0, none⟩) ∧ ρ 3 = .pointer none ∧ Mod none_ w4 w') (fun ρ _ => 2 - (intOf (ρ 5)).toNat)
    ⟨0, by omega, rfl, rfl, rfl, rfl, Mod.refl _ _⟩ ?_
  rintro ρ w6 ⟨n, hn, h5, h4, h1, h3, hm⟩
  rw [dispatcherlaw13_QueueNil_L0_eq]
  unfold dispatcherlaw13_QueueNil_L0_F
  rw [h5, h4, h1, len_sl Try.underlying61, BK_lss]
  by_cases hlt : n < 2
  · rw [show decide ((n : Int) < ((2 : Nat) : Int)) = true by simp; omega]
    simp only [CondK_bool, MG_b, NG_b, VG_b, UG_b, PG_b, BG_b, CG_b, IG_b, PK_bool, NK_ptr, not_ok, reduceCtorEq, if_true, if_false, Bool.true_eq_false, Bool.false_eq_true, Bool.not_true, Bool.not_false]
    obtain ⟨p, hx, htp⟩ : ∃ p : Option Addr, ([.pointer none, .pointer (some ⟨T, 0, none⟩)] : List Value)[n]? = some (.pointer p) ∧ NilQ w4 p := by
      match n, hlt with
      | 0, _ => exact ⟨none, rfl, .inl rfl⟩
      | 1, _ => exact ⟨_, rfl, ht4⟩
    refine ixld Try.underlying61 c24 Try.underlying24 rfl (reads_mod hr4 hm (fun _ _ _ => id)) (by omega) (by rw [show (n : Int).toNat = n by omega]; exact hx) fun y => ?_
    have fl : ∀ {w' : World} (j : Nat) (v : Value), Mod none_ w4 w' → m.enc[j]? = some v → w'.cell? ((⟨U, 0, none⟩ : Addr).add j) = some v := by
      intro w' j v hm' he
      rw [add_pl, cell_blk (hm'.blk hb5 id)]
      simpa using he
    rw [fo fo31_1]
    refine ld1 Try.underlying3 rfl (fl 1 (.int .i64 m.frm) hm rfl) ?_
    rw [fo fo31_3]
    refine ld1 Try.underlying3 rfl (fl 3 (.int .i64 m.call) hm rfl) ?_
    refine CK_st Try.func21 rfl rfl (Find_nil (htp.mod hm)) ?_
    rintro _ w7 ⟨rfl, hm7⟩
    rw [extract_ok (v := zm) rfl, extract_ok (v := .bool false) rfl]
    refine lcl_k (cs := M.zero.enc.toArray) zm_zero _ i31 rfl (enc_one _) fun w8 _ hm8 _ => ?_
    have hm48 := (hm.trans hm7).trans hm8
    rw [fo fo31_0]
    refine ld1 Try.underlying9 rfl (fl 0 (.string m.key) hm48 rfl) ?_
    rw [fo fo31_1]
    refine ld1 Try.underlying3 rfl (fl 1 (.int .i64 m.frm) hm48 rfl) ?_
    rw [fo fo31_2]
    refine ld1 Try.underlying3 rfl (fl 2 (.int .i64 m.to) hm48 rfl) ?_
    rw [fo fo31_4]
    refine ld1 Try.underlying3 rfl (fl 4 (.int .i64 m.tag) hm48 rfl) ?_
    refine CK_st Try.func23 rfl rfl (First_nil (htp.mod hm48)) ?_
    rintro _ w9 ⟨rfl, hm9⟩
    rw [extract_ok (v := zm) rfl, extract_ok (v := .bool false) rfl]
    refine lcl_k (cs := M.zero.enc.toArray) zm_zero _ i31 rfl (enc_one _) fun w10 _ hm10 _ => ?_
    have hm410 := (hm48.trans hm9).trans hm10
    refine dispatcherlaw13_QueueNil_R2_quiet (D := []) (fun w' => Mod none_ w4 w') (hm410.drawn _) ?_
    unfold dispatcherlaw13_QueueNil_R2_Q
    simp only [sq_n, sq_x, sq_r, bk_n, bk_r, bk_x, rt_r, rt_n, rs_0, rs_t, pk_1, pk_2, up_at, reduceIte, Nat.reduceEqDiff, h1, QG_b, if_true]
    have hmsg : ∀ w', Mod none_ w4 w' → (Instr.loadAt 31 (.pointer (some ⟨U, 0, none⟩))).run Try.prog w' = .ok (.agg m.enc.toArray) w' := fun w' hw => run_ldB (cs := m.enc.toArray) Try.underlying31 rfl i31 (hw.blk hb5 id)
    refine QM (QP_of ?_)
    simp only [Bool.false_eq_true, if_false, QG_b, if_true]
    refine QM (QV_of hmsg ?_)
    refine QC_st Try.func11 rfl rfl (v := .int .i64 1) (fun w' hw => Calls.mono (Send_nil (htp.mod hw)) fun e w'' ⟨u, he, hu, hw''⟩ => ⟨by rw [he, hu], hw.trans hw''⟩) ?_
    refine QB_of (v := .bool false) (fun _ => rfl) (fun w => by rw [run_neq]; rfl) (QP_of ?_)
    simp only [Bool.false_eq_true, if_false, QG_b, if_true]
    refine QM (QV_of (fun w' _ => run_fo fo31_1 _ w') (QV_of (fun w' hw => run_ld1 Try.underlying3 rfl (fl 1 (.int .i64 m.frm) hw rfl)) ?_))
    refine QV_of (fun w' _ => run_fo fo31_3 _ w') (QV_of (fun w' hw => run_ld1 Try.underlying3 rfl (fl 3 (.int .i64 m.call) hw rfl)) ?_)
    refine QC_st Try.func13 rfl rfl (v := .int .i64 1) (fun w' hw => Calls.mono (Take_nil (htp.mod hw)) fun e w'' ⟨u, he, hu, hw''⟩ => ⟨by rw [he, hu], by rw [hw'']; exact hw⟩) ?_
    refine QB_of (v := .bool false) (fun _ => rfl) (fun w => by rw [run_neq]; rfl) (QP_of ?_)
    simp only [Bool.false_eq_true, if_false, QG_b, if_true]
    refine QM (QV_of hmsg ?_)
    refine QC_st Try.func25 rfl rfl (v := .slice none 0 0) (fun w' hw => Calls.mono (Ahead_nil (htp.mod hw)) fun e w'' ⟨u, he, hu, hw''⟩ => ⟨by rw [he, hu], hw.trans hw''⟩) ?_
    refine QI_len Try.underlying27 _ _ _ _ (QM ?_)
    refine QV_of (fun w' _ => run_fo fo31_0 _ w') (QV_of (fun w' hw => run_ld1 Try.underlying9 rfl (fl 0 (.string m.key) hw rfl)) ?_)
    refine QV_of (fun w' _ => run_fo fo31_2 _ w') (QV_of (fun w' hw => run_ld1 Try.underlying3 rfl (fl 2 (.int .i64 m.to) hw rfl)) ?_)
    refine QC_st Try.func28 rfl rfl (v := .slice none 0 0) (fun w' hw => Calls.mono (Senders_nil (htp.mod hw)) fun e w'' ⟨u, he, hu, hw''⟩ => ⟨by rw [he, hu], by rw [hw'']; exact hw⟩) ?_
    refine QI_len Try.underlying49 _ _ _ _ (QB_of (v := .int .i64 0) (fun _ => rfl) (fun w => by rw [run_add]; rfl) (QM ?_))
    refine QC_st Try.func17 rfl rfl (v := .slice none 0 0) (fun w' hw => Calls.mono (Left_nil (htp.mod hw)) fun e w'' ⟨u, he, hu, hw''⟩ => ⟨by rw [he, hu], by rw [hw'']; exact hw⟩) ?_
    refine QI_len Try.underlying27 _ _ _ _ (QB_of (v := .int .i64 0) (fun _ => rfl) (fun w => by rw [run_add]; rfl) ?_)
    refine QB_of (v := .bool false) (fun _ => rfl) (fun w => by rw [run_neq]; rfl) (QP_of ?_)
    intro w11 hm11
    rw [dispatcherlaw13_QueueNil_R3_eq]
    unfold dispatcherlaw13_QueueNil_R3_F
    simp only [sq_n, sq_x, sq_r, bk_n, bk_r, bk_x, rt_r, rt_n, rs_0, rs_t, pk_1, pk_2, up_at, reduceIte, Nat.reduceEqDiff, Bool.false_eq_true, if_false, CondK_bool, MG_b, NG_b, VG_b, UG_b, PG_b, BG_b, CG_b, IG_b, PK_bool, NK_ptr, not_ok, reduceCtorEq, if_true, if_false, Bool.true_eq_false, Bool.false_eq_true, Bool.not_true, Bool.not_false]
    rw [dispatcherlaw13_QueueNil_R4_eq]
    unfold dispatcherlaw13_QueueNil_R4_F
    simp only [sq_n, sq_x, sq_r, bk_n, bk_r, bk_x, rt_r, rt_n, rs_0, rs_t, pk_1, pk_2, up_at, reduceIte, Nat.reduceEqDiff, h5]
    rw [BK_add, wrap_i (n := (n : Int) + 1) (by omega) (by omega)]
    refine ⟨⟨n + 1, hlt, rfl, h4, h1, h3, hm11⟩, ?_⟩
    simp only [sq_n, sq_x, sq_r, bk_n, bk_r, bk_x, rt_r, rt_n, rs_0, rs_t, pk_1, pk_2, up_at, reduceIte, Nat.reduceEqDiff, intOf]; omega
  · obtain rfl : n = 2 := by omega
    rw [show decide (((2 : Nat) : Int) < ((2 : Nat) : Int)) = false by simp]
    simp only [CondK_bool, MG_b, NG_b, VG_b, UG_b, PG_b, BG_b, CG_b, IG_b, PK_bool, NK_ptr, not_ok, reduceCtorEq, if_true, if_false, Bool.true_eq_false, Bool.false_eq_true, Bool.not_true, Bool.not_false, sq_n, sq_x, sq_r, bk_n, bk_r, bk_x, rt_r, rt_n, rs_0, rs_t, pk_1, pk_2, up_at, reduceIte, Nat.reduceEqDiff]
    rw [dispatcherlaw13_QueueNil_R1_eq]
    unfold dispatcherlaw13_QueueNil_R1_F
    simp only [sq_n, sq_x, sq_r, bk_n, bk_r, bk_x, rt_r, rt_n, rs_0, rs_t, pk_1, pk_2, up_at, reduceIte, Nat.reduceEqDiff, h3]
    refine CK_st Try.func15 rfl rfl (Copy_nil w6) ?_
    rintro _ w6 ⟨rfl, rfl⟩
    rw [BK_eqlP Try.underlying24]
    simp only [sq_n, sq_x, sq_r, bk_n, bk_r, bk_x, rt_r, rt_n, rs_0, rs_t, pk_1, pk_2, up_at, reduceIte, Nat.reduceEqDiff, Option.isNone_none, true_and]
    exact hm5.trans hm
end Go.Proofs.Ytnnppjfpiopgfaa.Que
