/- RequestGrows, walked. -/
import Derived.Test.YtnopejgpbnlmpaaGrowsPure
import Derived.Test.YtnopejgpbnlmpaaLawLeft
set_option linter.unusedVariables false
set_option linter.unusedSimpArgs false
namespace Go.Proofs.Ytnopejgpbnlmpaa.Req
open Go Go.X Go.RowKit Go.Proofs.Ytnopejgpbnlmpaa.XF

/-- What is so ahead of each round. -/
structure InvG (w0 : World) (B t : Nat) (w : World) (was : Value) (row : List Int) (xs : List R) : Prop where
  mod : Mod none_ w0 w
  base : w0.heap.size ≤ B
  tab : ∃ v, IsTab w B t v xs
  was : w.ownsRow w0.heap.size 3 1 was (places (gT xs) row).length (ivs (places (gT xs) row))
  few : xs.length ≤ 256
theorem places_le (g : Int → Bool) (xs : List Int) : (places g xs).length ≤ xs.length := placesTo_len g xs xs.length
theorem run_lss (t : TypeId) (k : IntKind) (a b : Int) (w : World) : (binOp .lss t (.int k a) (.int k b)).run Try.prog w = .ok (.bool (decide (a < b))) w := by simp [go_sem]
theorem run_leq (t : TypeId) (k : IntKind) (a b : Int) (w : World) : (binOp .leq t (.int k a) (.int k b)).run Try.prog w = .ok (.bool (decide (a ≤ b))) w := by simp [go_sem]
theorem run_gtr (t : TypeId) (k : IntKind) (a b : Int) (w : World) : (binOp .gtr t (.int k a) (.int k b)).run Try.prog w = .ok (.bool (decide (b < a))) w := by simp [go_sem]
theorem run_geq (t : TypeId) (k : IntKind) (a b : Int) (w : World) : (binOp .geq t (.int k a) (.int k b)).run Try.prog w = .ok (.bool (decide (b ≤ a))) w := by simp [go_sem]
theorem run_sub (t : TypeId) (k : IntKind) (a b : Int) (w : World) : (binOp .sub t (.int k a) (.int k b)).run Try.prog w = .ok (.int k (k.wrap (a - b))) w := by simp [go_sem]
theorem run_eql (t : TypeId) (k : IntKind) (a b : Int) (w : World) : (binOp .eql t (.int k a) (.int k b)).run Try.prog w = .ok (.bool (a == b)) w := by simp [go_sem]

/-- The row of what is told now is gone through: all is well. -/
theorem Grows_inner {w : World} {now rv : Value} {row ns : List Int} {A : Option Addr} {c : Nat} {cr : Nat} {Ar : Option Addr} (hnow : now = .slice A ns.length c) (hrv : rv = .slice Ar row.length cr) (h : reads w 1 now ns.length (ivs ns)) (hin : ∀ x ∈ ns, 0 ≤ x ∧ x < row.length) (hup : ns.Pairwise (· < ·)) (hn : ns.length ≤ 1000000)
    {K : Exit → Sl → World → Prop} {ρ : Sl} (h9 : ρ 9 = now) (h1 : ρ 1 = rv) (h10 : ρ 10 = .int .i64 0)
    (hK : ∀ ρ' w', (∀ i, i = 0 ∨ i = 1 ∨ i = 5 ∨ i = 7 ∨ i = 9 → ρ' i = ρ i) → Mod none_ w w' → sx fn_ Try.prog 116 dispatcherlaw12_RequestGrows_R6 K ρ' w') :
    W fn_ Try.prog 116 (Code.loop dispatcherlaw12_RequestGrows_L5) (blkK 3 (seqK (sx fn_ Try.prog 116 dispatcherlaw12_RequestGrows_R6 K) K)) ρ w := by
  subst hnow hrv
  refine W_loop dispatcherlaw12_RequestGrows_L5_ok (fun ρ' w' => ∃ n : Nat, n ≤ ns.length ∧ ρ' 10 = .int .i64 n ∧ ρ' 9 = .slice A ns.length c ∧ ρ' 1 = .slice Ar row.length cr ∧ (∀ i, i = 0 ∨ i = 1 ∨ i = 5 ∨ i = 7 ∨ i = 9 → ρ' i = ρ i) ∧ Mod none_ w w') (fun ρ _ => ns.length - (intOf (ρ 10)).toNat)
    ⟨0, Nat.zero_le _, h10, h9, h1, fun i _ => rfl, Mod.refl _ _⟩ ?_
  rintro ρ2 w2 ⟨n, hn', g10, g9, g1, gk, hm⟩
  rw [dispatcherlaw12_RequestGrows_L5_eq]
  unfold dispatcherlaw12_RequestGrows_L5_F
  rw [g10, g9, len_sl Try.underlying27, BK_lss]
  by_cases hlt : n < ns.length
  case neg =>
    obtain rfl : n = ns.length := by omega
    rw [show decide ((ns.length : Int) < (ns.length : Int)) = false by simp]
    simp only [CondK_bool, MG_b, NG_b, VG_b, UG_b, PG_b, BG_b, CG_b, IG_b, PK_bool, NK_ptr, not_ok, reduceCtorEq, if_true, if_false, Bool.true_eq_false, Bool.false_eq_true, Bool.not_true, Bool.not_false, sq_n, sq_x, sq_r, bk_n, bk_r, bk_x, rt_r, rt_n, rs_0, rs_t, pk_1, pk_2, up_at, reduceIte, Nat.reduceEqDiff]
    refine hK _ _ (fun i hi => ?_) hm
    rw [← gk i hi]
    rcases hi with rfl | rfl | rfl | rfl | rfl <;> simp only [sq_n, sq_x, sq_r, bk_n, bk_r, bk_x, rt_r, rt_n, rs_0, rs_t, pk_1, pk_2, up_at, reduceIte, Nat.reduceEqDiff]
  rw [show decide ((n : Int) < (ns.length : Int)) = true by simp; omega]
  simp only [CondK_bool, MG_b, NG_b, VG_b, UG_b, PG_b, BG_b, CG_b, IG_b, PK_bool, NK_ptr, not_ok, reduceCtorEq, if_true, if_false, Bool.true_eq_false, Bool.false_eq_true, Bool.not_true, Bool.not_false]
  have hnl : (ivs ns)[n]? = some (.int .i64 ns[n]) := ivs_get (List.getElem?_eq_getElem hlt)
  obtain ⟨hx0, hx1⟩ := hin _ (List.getElem_mem hlt)
  have fin : ∀ (ρ' : Sl), ρ' 114 = .bool false → ρ' 10 = .int .i64 n → ρ' 9 = .slice A ns.length c → ρ' 1 = .slice Ar row.length cr → (∀ i, i = 0 ∨ i = 1 ∨ i = 5 ∨ i = 7 ∨ i = 9 → ρ' i = ρ i) → ∀ w', Mod none_ w w' → ∀ (K0 : Exit → Sl → World → Prop),
      sx fn_ Try.prog 116 dispatcherlaw12_RequestGrows_R11 (blkK 4 (seqK (sx fn_ Try.prog 116 dispatcherlaw12_RequestGrows_R12 (seqK (fun ρ' w' => (∃ n : Nat, n ≤ ns.length ∧ ρ' 10 = .int .i64 n ∧ ρ' 9 = .slice A ns.length c ∧ ρ' 1 = .slice Ar row.length cr ∧ (∀ i, i = 0 ∨ i = 1 ∨ i = 5 ∨ i = 7 ∨ i = 9 → ρ' i = ρ i) ∧ Mod none_ w w') ∧
        ns.length - (intOf (ρ' 10)).toNat < ns.length - (intOf (Value.int .i64 n)).toNat) K0)) (seqK (fun ρ' w' => (∃ n : Nat, n ≤ ns.length ∧ ρ' 10 = .int .i64 n ∧ ρ' 9 = .slice A ns.length c ∧ ρ' 1 = .slice Ar row.length cr ∧ (∀ i, i = 0 ∨ i = 1 ∨ i = 5 ∨ i = 7 ∨ i = 9 → ρ' i = ρ i) ∧ Mod none_ w w') ∧
        ns.length - (intOf (ρ' 10)).toNat < ns.length - (intOf (Value.int .i64 n)).toNat) K0))) ρ' w' := by
    intro ρ' e114 e10 e9 e1 ek w' hw K0
    rw [dispatcherlaw12_RequestGrows_R11_eq]
    unfold dispatcherlaw12_RequestGrows_R11_F
    rw [e114]
    simp only [CondK_bool, MG_b, NG_b, VG_b, UG_b, PG_b, BG_b, CG_b, IG_b, PK_bool, NK_ptr, not_ok, reduceCtorEq, if_true, if_false, Bool.true_eq_false, Bool.false_eq_true, Bool.not_true, Bool.not_false, sq_n, sq_x, sq_r, bk_n, bk_r, bk_x, rt_r, rt_n, rs_0, rs_t, pk_1, pk_2, up_at, reduceIte, Nat.reduceEqDiff]
    rw [dispatcherlaw12_RequestGrows_R12_eq]
    unfold dispatcherlaw12_RequestGrows_R12_F
    rw [e10, BK_add, wrap_i (by omega) (by omega)]
    simp only [sq_n, sq_x, sq_r, bk_n, bk_r, bk_x, rt_r, rt_n, rs_0, rs_t, pk_1, pk_2, up_at, reduceIte, Nat.reduceEqDiff]
    refine ⟨⟨n + 1, hlt, rfl, e9, e1, fun i hi => ?_, hw⟩, ?_⟩
    · rw [← ek i hi]
      rcases hi with rfl | rfl | rfl | rfl | rfl <;> simp only [sq_n, sq_x, sq_r, bk_n, bk_r, bk_x, rt_r, rt_n, rs_0, rs_t, pk_1, pk_2, up_at, reduceIte, Nat.reduceEqDiff]
    · simp only [intOf]; omega
  refine dispatcherlaw12_RequestGrows_R10_quiet (D := []) (fun w' => Mod none_ w w') (hm.drawn _) ?_
  unfold dispatcherlaw12_RequestGrows_R10_Q
  simp only [sq_n, sq_x, sq_r, bk_n, bk_r, bk_x, rt_r, rt_n, rs_0, rs_t, pk_1, pk_2, up_at, reduceIte, Nat.reduceEqDiff, g9, g10, g1]
  have hl' : ∀ w', Mod none_ w w' → reads w' 1 (.slice A ns.length c) ns.length (ivs ns) := fun w' hw => reads_mod h hw (fun _ _ _ => id)
  refine q_ixld (w := w2) Try.underlying27 c3 Try.underlying3 rfl hm hl' (by omega) (by simpa using hnl) fun z1 => ?_
  refine QB_of (v := .bool false) (fun _ => rfl) (fun w => by rw [run_lss, decide_eq_false (by omega)]) ?_
  simp only [QG_b, if_true]
  refine QM (QM ?_)
  refine q_ixld (w := w2) Try.underlying27 c3 Try.underlying3 rfl hm hl' (by omega) (by simpa using hnl) fun z2 => ?_
  refine QM (QI_len Try.underlying27 _ _ _ _ ?_)
  refine QB_of (v := .bool false) (fun _ => rfl) (fun w => by rw [run_geq, decide_eq_false (by omega)]) ?_
  refine QP_of ?_
  simp only [Bool.false_eq_true, if_false, QG_b, if_true]
  refine QM (QB_of (v := .bool (decide (0 < (n : Int)))) (fun _ => rfl) (fun w => by rw [run_gtr]) (QM ?_))
  have hkeep' : ∀ (ρ' : Sl), (∀ i, i < 20 → ρ' i = ρ2 i) → ∀ i, i = 0 ∨ i = 1 ∨ i = 5 ∨ i = 7 ∨ i = 9 → ρ' i = ρ i := fun ρ' hh i hi => by rw [← gk i hi]; exact hh i (by omega)
  by_cases h0 : 0 < n
  · rw [decide_eq_true (p := 0 < (n : Int)) (by omega)]
    simp only [QG_b, if_true]
    refine QM (QM ?_)
    refine q_ixld (w := w2) Try.underlying27 c3 Try.underlying3 rfl hm hl' (by omega) (by simpa using hnl) fun z3 => ?_
    have hpl : (ivs ns)[n - 1]? = some (.int .i64 ns[n - 1]) := ivs_get (List.getElem?_eq_getElem (by omega))
    refine QM (QM (QB_of (v := .int .i64 ((n : Int) - 1)) (fun _ => rfl) (fun w => by rw [run_sub, wrap_i (by omega) (by omega)]) ?_))
    refine q_ixld (w := w2) Try.underlying27 c3 Try.underlying3 rfl hm hl' (by omega) (by rw [show ((n : Int) - 1).toNat = n - 1 by omega]; exact hpl) fun z4 => ?_
    have hless := List.pairwise_iff_getElem.1 hup (n - 1) n (by omega) hlt (by omega)
    refine QB_of (v := .bool false) (fun _ => rfl) (fun w => by rw [run_leq, decide_eq_false (by omega)]) ?_
    refine QP_of (QP_of ?_)
    intro w' hw
    refine fin _ ?_ ?_ ?_ ?_ ?_ w' hw _
    · simp only [sq_n, sq_x, sq_r, bk_n, bk_r, bk_x, rt_r, rt_n, rs_0, rs_t, pk_1, pk_2, up_at, reduceIte, Nat.reduceEqDiff, Bool.false_eq_true, if_false]
    · simp only [sq_n, sq_x, sq_r, bk_n, bk_r, bk_x, rt_r, rt_n, rs_0, rs_t, pk_1, pk_2, up_at, reduceIte, Nat.reduceEqDiff, g10]
    · simp only [sq_n, sq_x, sq_r, bk_n, bk_r, bk_x, rt_r, rt_n, rs_0, rs_t, pk_1, pk_2, up_at, reduceIte, Nat.reduceEqDiff, g9]
    · simp only [sq_n, sq_x, sq_r, bk_n, bk_r, bk_x, rt_r, rt_n, rs_0, rs_t, pk_1, pk_2, up_at, reduceIte, Nat.reduceEqDiff, g1]
    · intro i hi
      rw [← gk i hi]
      rcases hi with rfl | rfl | rfl | rfl | rfl <;> simp only [sq_n, sq_x, sq_r, bk_n, bk_r, bk_x, rt_r, rt_n, rs_0, rs_t, pk_1, pk_2, up_at, reduceIte, Nat.reduceEqDiff]
  · rw [decide_eq_false (p := 0 < (n : Int)) (by omega)]
    simp only [QG_b, Bool.false_eq_true, if_false, if_true]
    refine QP_of (QP_of ?_)
    intro w' hw
    refine fin _ ?_ ?_ ?_ ?_ ?_ w' hw _
    · simp only [sq_n, sq_x, sq_r, bk_n, bk_r, bk_x, rt_r, rt_n, rs_0, rs_t, pk_1, pk_2, up_at, reduceIte, Nat.reduceEqDiff, Bool.false_eq_true, if_false]
    · simp only [sq_n, sq_x, sq_r, bk_n, bk_r, bk_x, rt_r, rt_n, rs_0, rs_t, pk_1, pk_2, up_at, reduceIte, Nat.reduceEqDiff, g10]
    · simp only [sq_n, sq_x, sq_r, bk_n, bk_r, bk_x, rt_r, rt_n, rs_0, rs_t, pk_1, pk_2, up_at, reduceIte, Nat.reduceEqDiff, g9]
    · simp only [sq_n, sq_x, sq_r, bk_n, bk_r, bk_x, rt_r, rt_n, rs_0, rs_t, pk_1, pk_2, up_at, reduceIte, Nat.reduceEqDiff, g1]
    · intro i hi
      rw [← gk i hi]
      rcases hi with rfl | rfl | rfl | rfl | rfl <;> simp only [sq_n, sq_x, sq_r, bk_n, bk_r, bk_x, rt_r, rt_n, rs_0, rs_t, pk_1, pk_2, up_at, reduceIte, Nat.reduceEqDiff]
end Go.Proofs.Ytnopejgpbnlmpaa.Req
