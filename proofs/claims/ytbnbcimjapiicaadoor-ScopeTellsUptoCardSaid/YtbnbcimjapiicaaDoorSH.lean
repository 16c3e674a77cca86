/- look, over a table; sameness of entries and of what is wrong. -/
import Derived.Test.YtbnbcimjapiicaaDoorSG
set_option linter.unusedVariables false
set_option linter.unusedSimpArgs false
set_option maxRecDepth 4000
namespace Go.Proofs.YtbnbcimjapiicaaDoor.Tr
open Go Go.X Go.RowKit Go.Proofs.YtbnbcimjapiicaaDoor.XG Go.Proofs.YtbnbcimjapiicaaDoor.XK

deriving instance DecidableEq for En
theorem isI (w : World) : (isAgg 3).run Tryd.prog w = .ok false w := by unfold isAgg; rw [Sem.run_bind, run_underlying Tryd.underlying3 w]; rfl
theorem isE (w : World) : (isAgg 28).run Tryd.prog w = .ok false w := by unfold isAgg; rw [Sem.run_bind, run_underlying Tryd.underlying28 w]; rfl
theorem eqEn (a b : En) (w : World) : (Op.equalIn 10000 37 a.v b.v).run Tryd.prog w = .ok (decide (a = b)) w := by
  show (Op.equalIn (9999 + 1) 37 (.agg a.cells.toArray) (.agg b.cells.toArray)).run Tryd.prog w = _
  rw [run_equalIn_struct w 9999 37 _ _ (by simp [Program.fieldsOf, Tryd.underlying37]) (by kernel_rfl)]
  obtain ⟨a1, a2, a3, a4⟩ := a; obtain ⟨b1, b2, b3, b4⟩ := b
  simp [Program.fieldsOf, Tryd.underlying37, Op.eqFields, part, isU, isI, Sem.run_bind, En.cells, run_equalIn_int w 9998 3 .i64 .i64 _ _ Tryd.underlying3, run_equalIn_int w 9998 5 .u8 .u8 _ _ Tryd.underlying5]
  by_cases h1 : a1 = b1 <;> by_cases h2 : a2 = b2 <;> by_cases h3 : a3 = b3 <;> by_cases h4 : a4 = b4 <;> simp [h1, h2, h3, h4]
theorem eqWr (a b : Wr) (w : World) : (Op.equalIn 10000 30 a.v b.v).run Tryd.prog w = .ok (decide (a = b)) w := by
  show (Op.equalIn (9999 + 1) 30 (.agg a.cells.toArray) (.agg b.cells.toArray)).run Tryd.prog w = _
  rw [run_equalIn_struct w 9999 30 _ _ (by simp [Program.fieldsOf, Tryd.underlying30]) (by kernel_rfl)]
  obtain ⟨a1, a2, a3⟩ := a; obtain ⟨b1, b2, b3⟩ := b
  simp [Program.fieldsOf, Tryd.underlying30, Op.eqFields, part, isE, isI, Sem.run_bind, Wr.cells, run_equalIn_int w 9998 3 .i64 .i64 _ _ Tryd.underlying3, run_equalIn_int w 9998 28 .i64 .i64 _ _ Tryd.underlying28]
  by_cases h1 : a1 = b1 <;> by_cases h2 : a2 = b2 <;> by_cases h3 : a3 = b3 <;> simp [h1, h2, h3]
theorem gEn : Tryd.prog.eqGuardType Tryd.prog.depth 37 = false := by kernel_rfl
theorem gWr : Tryd.prog.eqGuardType Tryd.prog.depth 30 = false := by kernel_rfl
theorem rEnE (a b : En) (w : World) : (binOp .eql 37 a.v b.v).run Tryd.prog w = .ok (.bool (decide (a = b))) w := by
  show (binOp .eql 37 (.agg a.cells.toArray) (.agg b.cells.toArray)).run Tryd.prog w = _
  rw [run_eql_struct]
  have := eqEn a b w
  rw [En.v, En.v] at this
  rw [this]; rfl
theorem rEnN (a b : En) (w : World) : (binOp .neq 37 a.v b.v).run Tryd.prog w = .ok (.bool (!decide (a = b))) w := by
  show (do pure (.bool (!(← Op.equalIn 10000 37 a.v b.v))) : Sem Value).run Tryd.prog w = _
  rw [Sem.run_bind, eqEn]; rfl
theorem rWrE (a b : Wr) (w : World) : (binOp .eql 30 a.v b.v).run Tryd.prog w = .ok (.bool (decide (a = b))) w := by
  show (binOp .eql 30 (.agg a.cells.toArray) (.agg b.cells.toArray)).run Tryd.prog w = _
  rw [run_eql_struct]
  have := eqWr a b w
  rw [Wr.v, Wr.v] at this
  rw [this]; rfl
theorem BK_EnE {w : World} {K : Value → World → Prop} {x y : Operand} (a b : En) : BK Tryd.prog .eql 37 x y a.v b.v w K = K (.bool (decide (a = b))) w := BK_of (run_eqGuard_agg w .eql _ x y _ _ gEn) (rEnE a b w)
theorem BK_EnN {w : World} {K : Value → World → Prop} {x y : Operand} (a b : En) : BK Tryd.prog .neq 37 x y a.v b.v w K = K (.bool (!decide (a = b))) w := BK_of (run_eqGuard_agg w .neq _ x y _ _ gEn) (rEnN a b w)
theorem BK_WrE {w : World} {K : Value → World → Prop} {x y : Operand} (a b : Wr) : BK Tryd.prog .eql 30 x y a.v b.v w K = K (.bool (decide (a = b))) w := BK_of (run_eqGuard_agg w .eql _ x y _ _ gWr) (rWrE a b w)
theorem zF1 : (Tryd.prog.info? 89).bind (·.zero) = some .nilFunc := by kernel_rfl
theorem zF2 : (Tryd.prog.info? 90).bind (·.zero) = some .nilFunc := by kernel_rfl
theorem zF3 : (Tryd.prog.info? 64).bind (·.zero) = some .nilFunc := by kernel_rfl
theorem look_fin {C : Cx} {w : World} (hC : Clo C zWr w) {b4 : Nat} (c4 : w.heap[b4]? = some (.cells zWr.cells.toArray 30 (0, 0))) (l3 : b4 ≠ C.x5) (l4 : C.w0.heap.size ≤ b4) {v : Value} {l : List St} (hok : StsOk C.w0 v l) (hsz : St.szL l ≤ 1099511627776) :
    VK Tryd.prog (Instr.loadAt 64 (pt C.x8)) w fun x12 w => CK Tryd.prog x12 [v] w fun x14 w => VK Tryd.prog (Instr.loadAt 30 (pt C.x5)) w fun x15 w => UK Tryd.prog (Instr.storeAt 30 (pt b4) x15) w fun _ w =>
      ∃ x, (do loadVar 30 (← asAddr (pt b4)) : Sem Value).run Tryd.prog w = .ok x w ∧ (x = (St.wrL (kindP C.ds) l).v ∧ Mod none_ C.w0 w) := by
  refine ldOne rfl Tryd.underlying64 rfl hC.b8 ?_
  refine CK_fn (f := 62) (first := #[]) (cap := #[pt C.x6, pt C.x7, pt C.x8]) (args := [v]) Tryd.func62 rfl rfl (StmtsC_ok l w v hC hok hsz) ?_
  rintro v' w10 ⟨rfl, hC10, hm10⟩
  have c4' := hm10.blk c4 l3
  refine ldS (cs := (St.wrL (kindP C.ds) l).cells.toArray) rfl Tryd.underlying30 rfl iWrg hC10.b5 ?_
  refine stS (b := b4) (old := zWr.cells.toArray) (cs := (St.wrL (kindP C.ds) l).cells.toArray) rfl rfl iWrg rfl (wr_one _) c4' fun w11 hb11 hm11 _ => ?_
  exact ⟨_, res_ld (run_ldB (cs := (St.wrL (kindP C.ds) l).cells.toArray) Tryd.underlying30 rfl iWrg hb11), rfl, hC10.m.then hm11 (fun i hi q => absurd q (by omega))⟩
theorem look_ok' {w : World} {base t : Nat} {ds : List De} (ht : TbAt w base t ds) {v : Value} {l : List St} (hok : StsOk w v l) (hsz : St.szL l ≤ 1099511627776) :
    Rt Tryd.prog 38 #[pt t, v] w fun v' w' => v' = (St.wrL (kindP ds) l).v ∧ Mod none_ w w' := by
  refine scope_Table_look_calls ?_
  unfold scope_Table_look_F
  refine box_k (cs := #[pt t]) rfl fun w1 hb1 hm1 hz1 => ?_
  refine al_k zWrg rfl _ fun w2 hb2 hm2 hz2 => ?_
  refine al_k zWrg rfl _ fun w3 hb3 hm3 hz3 => ?_
  rw [mkFunc]
  refine al_k zF1 rfl _ fun w4 hb4 hm4 hz4 => ?_
  refine stC (b := w3.heap.size) (o := 0) (cs := #[.nilFunc]) rfl (by kernel_rfl) rfl hb4 (by decide) fun w5 hb5 hm5 hz5 => ?_
  refine al_k zF2 rfl _ fun w6 hb6 hm6 hz6 => ?_
  rw [mkFunc]
  refine stC (b := w5.heap.size) (o := 0) (cs := #[.nilFunc]) rfl (by kernel_rfl) rfl hb6 (by decide) fun w7 hb7 hm7 hz7 => ?_
  refine al_k zF3 rfl _ fun w8 hb8 hm8 hz8 => ?_
  rw [mkFunc]
  refine stC (b := w7.heap.size) (o := 0) (cs := #[.nilFunc]) rfl (by kernel_rfl) rfl hb8 (by decide) fun w9 hb9 hm9 hz9 => ?_
  have c2 := hm9.blk (hm8.blk (hm7.blk (hm6.blk (hm5.blk (hm4.blk (hm3.blk (hm2.blk hb1 id) id) id) (by omega)) id) (by omega)) id) (by omega)
  have c4 := hm9.blk (hm8.blk (hm7.blk (hm6.blk (hm5.blk (hm4.blk (hm3.blk hb2 id) id) (by omega)) id) (by omega)) id) (by omega)
  have c5 := hm9.blk (hm8.blk (hm7.blk (hm6.blk (hm5.blk (hm4.blk hb3 id) (by omega)) id) (by omega)) id) (by omega)
  have c6 := hm9.blk (hm8.blk (hm7.blk (hm6.blk hb5 id) (by omega)) id) (by omega)
  have c7 := hm9.blk (hm8.blk hb7 id) (by omega)
  have hm09 : Mod none_ w w9 := (((((((hm1.trans hm2).trans hm3).trans hm4).then hm5 (fun i hi q => absurd q (by omega))).trans hm6).then hm7 (fun i hi q => absurd q (by omega))).trans hm8).then hm9 (fun i hi q => absurd q (by omega))
  have hC : Clo ⟨w, base, t, w.heap.size, w2.heap.size, w3.heap.size, w5.heap.size, w7.heap.size, ds⟩ zWr w9 :=
    ⟨hm09, ht, c2, c5, c6, c7, hb9, by dsimp only; omega⟩
  exact look_fin hC c4 (by dsimp only; omega) (by dsimp only; omega) hok hsz
end Go.Proofs.YtbnbcimjapiicaaDoor.Tr
