/- Printed by wip/x/gen.py (a program of this repo's own): the functions as formulas. -/
import Derived.Test.YthlcnllaclkflaaProg
import Derived.Test.YthlcnllaclkflaaXBase
set_option linter.unusedVariables false
set_option maxRecDepth 100000
namespace Go.Proofs.Ythlcnllaclkflaa.XF
open Go Go.X

/-- dispatcher/dispatcherlaw09.BoundDecides -/
noncomputable def dispatcherlaw09_BoundDecides_b : Code := (Try.f3.body).getD .skip
noncomputable def dispatcherlaw09_BoundDecides_R0 : Code := cAt [1, 1, 0] dispatcherlaw09_BoundDecides_b
noncomputable def dispatcherlaw09_BoundDecides_R1 : Code := cAt [1, 1, 1] dispatcherlaw09_BoundDecides_b
noncomputable def dispatcherlaw09_BoundDecides_R0_ops : Array Oper := opsOf dispatcherlaw09_BoundDecides_R0
def dispatcherlaw09_BoundDecides_R0_Q (C : World → Prop) (K : Exit → Sl → World → Prop) (ρ : Sl) : Prop :=
  QK Try.prog C (do pure (Next.value (← Instr.loadAt 25 (ρ 1)))) fun x7 => QK Try.prog C (do let d ← Deferred.ofValue (Value.func (Fn.func 5) #[] #[]) [x7].toArray; invoke d.target d.args) fun x8 => QK Try.prog C (do pure (Next.value (← Instr.loadAt 25 (ρ 1)))) fun x9 => QK Try.prog C (do let d ← Deferred.ofValue (Value.func (Fn.func 6) #[] #[]) [x9].toArray; invoke d.target d.args) fun x10 => QK Try.prog C (do pure (Next.value (← (do eqGuard BinOp.eql 4 (Operand.tmp 8) (Operand.tmp 10) x8 x10; binOp BinOp.eql 4 x8 x10)))) fun x11 => ∀ w', C w' → K Exit.normal (up (up (up (up (up (up ρ 7 x7) 8 x8) 9 x9) 10 x10) 11 x11) 2 x11) w'
theorem dispatcherlaw09_BoundDecides_R0_quiet (C : World → Prop) {K : Exit → Sl → World → Prop} {ρ : Sl} {w : World} (hC : C { w with drawn := w.drawn + 1 }) (h : dispatcherlaw09_BoundDecides_R0_Q C K ρ) : W Try.prog 12 dispatcherlaw09_BoundDecides_R0 K ρ w := by
  have e : dispatcherlaw09_BoundDecides_R0 = .region (idOf dispatcherlaw09_BoundDecides_R0) dispatcherlaw09_BoundDecides_R0_ops true := by kernel_rfl
  have q : sxq Try.prog C dispatcherlaw09_BoundDecides_R0_ops (fun ρ' => ∀ w', C w' → K .normal ρ' w') dispatcherlaw09_BoundDecides_R0_ops.toList ρ = dispatcherlaw09_BoundDecides_R0_Q C K ρ := by kernel_rfl
  rw [e]
  exact W_quiet C (by kernel_rfl) (by kernel_rfl) (by kernel_rfl) hC (Eq.mpr q h)
def dispatcherlaw09_BoundDecides_R0_T (K : Exit → Sl → World → Prop) (ρ : Sl) (w : World) : Prop :=
  let C : World → Prop := fun w' => w' = w; QK Try.prog C (do pure (Next.value (← Instr.loadAt 25 (ρ 1)))) fun x7_1 => QK Try.prog C (do let d ← Deferred.ofValue (Value.func (Fn.func 5) #[] #[]) [x7_1].toArray; invoke d.target d.args) fun x8_1 => QK Try.prog C (do pure (Next.value (← Instr.loadAt 25 (ρ 1)))) fun x9_1 => CK Try.prog (Value.func (Fn.func 6) #[] #[]) [x9_1] w fun x10_1 w => BK Try.prog BinOp.eql 4 (Operand.tmp 8) (Operand.tmp 10) x8_1 x10_1 w fun x11_1 w => K Exit.normal (up (up (up (up (up (up ρ 7 x7_1) 8 x8_1) 9 x9_1) 10 x10_1) 11 x11_1) 2 x11_1) w
theorem dispatcherlaw09_BoundDecides_R0_tail {K : Exit → Sl → World → Prop} {ρ : Sl} {w : World} (h : dispatcherlaw09_BoundDecides_R0_T K ρ { w with drawn := w.drawn + 1 }) : W Try.prog 12 dispatcherlaw09_BoundDecides_R0 K ρ w := by
  have e : dispatcherlaw09_BoundDecides_R0 = .region (idOf dispatcherlaw09_BoundDecides_R0) dispatcherlaw09_BoundDecides_R0_ops true := by kernel_rfl
  have q : sxq Try.prog (fun w' => w' = { w with drawn := w.drawn + 1 }) dispatcherlaw09_BoundDecides_R0_ops (fun ρ' => sxL Try.prog dispatcherlaw09_BoundDecides_R0_ops (K .normal) (dispatcherlaw09_BoundDecides_R0_ops.toList.drop 3) ρ' { w with drawn := w.drawn + 1 }) (dispatcherlaw09_BoundDecides_R0_ops.toList.take 3) ρ = dispatcherlaw09_BoundDecides_R0_T K ρ { w with drawn := w.drawn + 1 } := by kernel_rfl
  rw [e]
  exact W_tail 3 (by kernel_rfl) (by kernel_rfl) (by kernel_rfl) (Eq.mpr q h)
noncomputable def dispatcherlaw09_BoundDecides_R1_F (K : Exit → Sl → World → Prop) (ρ : Sl) (w : World) : Prop :=
  K Exit.ret ρ w
theorem dispatcherlaw09_BoundDecides_R1_eq (K : Exit → Sl → World → Prop) (ρ : Sl) (w : World) : sx Try.prog 12 dispatcherlaw09_BoundDecides_R1 K ρ w = dispatcherlaw09_BoundDecides_R1_F K ρ w := by kernel_rfl
theorem dispatcherlaw09_BoundDecides_R1_ok : dstOk 12 dispatcherlaw09_BoundDecides_R1 = true := by kernel_rfl
noncomputable def dispatcherlaw09_BoundDecides_F (a0 : Value) (w : World) (R : Value → World → Prop) : Prop :=
  VK Try.prog (Instr.box 25 a0) w fun x1 w => VK Try.prog (Instr.loadAt 25 x1) w fun x3 w => VK Try.prog (Instr.buildSlice 23 1 [(0, x3)].toArray) w fun x4 w => CK Try.prog (Value.func (Fn.func 4) #[] #[]) [x4] w fun x5 w => BK Try.prog BinOp.gtr 3 (Operand.tmp 5) (Operand.const (Value.int IntKind.i64 3000)) x5 (Value.int IntKind.i64 3000) w fun x6 w => CondK x6 (R (Value.bool true) w) (W Try.prog 12 dispatcherlaw09_BoundDecides_R0 (seqK (sx Try.prog 12 dispatcherlaw09_BoundDecides_R1 (retK Try.prog [ResultVar.tmp 2] R)) (retK Try.prog [ResultVar.tmp 2] R)) (up (up (up (up (up (up (rho0 [a0]) 1 x1) 2 (Value.bool false)) 3 x3) 4 x4) 5 x5) 6 x6) w)
theorem dispatcherlaw09_BoundDecides_eq (a0 : Value) (w : World) (R : Value → World → Prop) : sx Try.prog 12 dispatcherlaw09_BoundDecides_b (retK Try.prog Try.f3.results.toList R) (rho0 [a0]) w = dispatcherlaw09_BoundDecides_F a0 w R := by kernel_rfl
theorem dispatcherlaw09_BoundDecides_calls {a0 : Value} {w : World} {R : Value → World → Prop} (h : dispatcherlaw09_BoundDecides_F a0 w R) : Calls Try.prog 3 #[a0] w fun e w' => ∃ v, e = .returned v ∧ R v w' :=
  Go.X.calls_of_sx (n := 12) (c := dispatcherlaw09_BoundDecides_b) Try.func3 (by kernel_rfl) (by kernel_rfl) (Nat.le_of_ble_eq_true rfl) (by kernel_rfl) (Eq.mpr (dispatcherlaw09_BoundDecides_eq a0 w R) h)
end Go.Proofs.Ythlcnllaclkflaa.XF
