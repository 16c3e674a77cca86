/- Several texts of this repo, one behind the other, without what is not used here. -/
import Derived.Test.YtpkfbaagpjdifaaGreatDoorProg
import Derived.Lib.SliceRun
import Derived.Laws.OwnMore
import Derived.Laws.IdiomStrings
import Derived.Laws.BytesArg
import Derived.Test.YtpkfbaagpjdifaaGreatDoorRows
import Derived.Test.YtpkfbaagpjdifaaGreatDoorLU5
set_option linter.unusedVariables false
set_option maxRecDepth 100000
namespace Go.Proofs.YtpkfbaagpjdifaaGreatDoor.XI
open Go Go.X
/-- dispatcher/dispatcherlaw30.LimitsEnough -/
noncomputable def dispatcherlaw30_LimitsEnough_b : Code := (Tryz.f4.body).getD .skip
noncomputable def dispatcherlaw30_LimitsEnough_R0 : Code := cAt [1, 1, 1, 1, 0] dispatcherlaw30_LimitsEnough_b
noncomputable def dispatcherlaw30_LimitsEnough_R1 : Code := cAt [1, 1, 1, 1, 1] dispatcherlaw30_LimitsEnough_b
noncomputable def dispatcherlaw30_LimitsEnough_R0_ops : Array Oper := opsOf dispatcherlaw30_LimitsEnough_R0
def dispatcherlaw30_LimitsEnough_R0_Q (C : World → Prop) (K : Exit → Sl → World → Prop) (ρ : Sl) : Prop :=
  QK Tryz.prog C (do pure (Next.value (← Instr.loadAt 34 (ρ 5)))) fun x23 => QK Tryz.prog C (do pure (Next.value (← Instr.loadAt 34 (ρ 7)))) fun x24 => QK Tryz.prog C (do pure (Next.value (← (do eqGuard BinOp.eql 34 (Operand.tmp 23) (Operand.tmp 24) x23 x24; binOp BinOp.eql 34 x23 x24)))) fun x25 => QG Tryz.prog C x25 true  (pure (Next.value (ρ 6))) fun x27 => QG Tryz.prog C x25 true  (pure (Next.value (ρ 8))) fun x28 => QG Tryz.prog C x25 true  (do pure (Next.value (← (do eqGuard BinOp.eql 3 (Operand.tmp 27) (Operand.tmp 28) x27 x28; binOp BinOp.eql 3 x27 x28)))) fun x29 => QK Tryz.prog C (do pure (Next.value (if ← asBool x25 then x29 else (Value.bool false)))) fun x30 => QG Tryz.prog C x30 true  (do pure (Next.value (← Instr.loadAt 25 (ρ 2)))) fun x32 => QG Tryz.prog C x30 true  (do pure (Next.value (← Instr.loadAt 34 (ρ 3)))) fun x33 => QG Tryz.prog C x30 true  (do let d ← Deferred.ofValue (Value.func (Fn.func 13) #[] #[]) [x32, x33].toArray; invoke d.target d.args) fun x34 => QG Tryz.prog C x30 true  (do pure (Next.value (← Instr.loadAt 25 (ρ 2)))) fun x35 => QG Tryz.prog C x30 true  (do pure (Next.value (← Instr.loadAt 34 (ρ 3)))) fun x36 => QG Tryz.prog C x30 true  (do let d ← Deferred.ofValue (Value.func (Fn.func 14) #[] #[]) [x35, x36].toArray; invoke d.target d.args) fun x37 => QG Tryz.prog C x30 true  (do pure (Next.value (← (do eqGuard BinOp.eql 4 (Operand.tmp 34) (Operand.tmp 37) x34 x37; binOp BinOp.eql 4 x34 x37)))) fun x38 => QK Tryz.prog C (do pure (Next.value (if ← asBool x30 then x38 else (Value.bool false)))) fun x39 => ∀ w', C w' → K Exit.normal (up (up (up (up (up (up (up (up (up (up (up (up (up (up (up (up (up (up ρ 23 x23) 24 x24) 25 x25) 26 x25) 27 x27) 28 x28) 29 x29) 30 x30) 31 x30) 32 x32) 33 x33) 34 x34) 35 x35) 36 x36) 37 x37) 38 x38) 39 x39) 4 x39) w'
theorem dispatcherlaw30_LimitsEnough_R0_quiet {D : List Deferred} (C : World → Prop) {K : Exit → Sl → World → Prop} {ρ : Sl} {w : World} (hC : C { w with drawn := w.drawn + 1 }) (h : dispatcherlaw30_LimitsEnough_R0_Q C K ρ) : W ⟨none, D⟩ Tryz.prog 40 dispatcherlaw30_LimitsEnough_R0 K ρ w := by
  have e : dispatcherlaw30_LimitsEnough_R0 = .region (idOf dispatcherlaw30_LimitsEnough_R0) dispatcherlaw30_LimitsEnough_R0_ops true := by kernel_rfl
  have q : sxq Tryz.prog C dispatcherlaw30_LimitsEnough_R0_ops (fun ρ' => ∀ w', C w' → K .normal ρ' w') dispatcherlaw30_LimitsEnough_R0_ops.toList ρ = dispatcherlaw30_LimitsEnough_R0_Q C K ρ := by kernel_rfl
  rw [e]
  exact W_quiet C (by kernel_rfl) (by kernel_rfl) (by kernel_rfl) hC (Eq.mpr q h)
noncomputable def dispatcherlaw30_LimitsEnough_R1_F (z : At) (K : Exit → Sl → World → Prop) (ρ : Sl) (w : World) : Prop :=
  K Exit.ret ρ w
theorem dispatcherlaw30_LimitsEnough_R1_eq (z : At) (K : Exit → Sl → World → Prop) (ρ : Sl) (w : World) : sx z Tryz.prog 40 dispatcherlaw30_LimitsEnough_R1 K ρ w = dispatcherlaw30_LimitsEnough_R1_F z K ρ w := by kernel_rfl
noncomputable def dispatcherlaw30_LimitsEnough_F (a0 a1 : Value) (w : World) (R : Value → World → Prop) : Prop :=
  VK Tryz.prog (Instr.box 25 a0) w fun x2 w => VK Tryz.prog (Instr.box 34 a1) w fun x3 w => VK Tryz.prog (Instr.loadAt 25 x2) w fun x9 w => CK Tryz.prog (Value.func (Fn.func 6) #[] #[]) [x9] w fun x10 w => CondK x10 (R (Value.bool true) w) (VK Tryz.prog (Instr.loadAt 25 x2) w fun x12 w => VK Tryz.prog (Instr.loadAt 34 x3) w fun x13 w => CK Tryz.prog (Value.func (Fn.func 11) #[] #[]) [x12, x13] w fun x14 w => VK Tryz.prog (Instr.extract x14 0) w fun x15 w => VK Tryz.prog (Instr.extract x14 1) w fun x16 w => VK Tryz.prog (Instr.alloc 34 true (.tuple #[])) w fun x5 w => UK Tryz.prog (Instr.storeAt 34 x5 x15) w fun _ w => VK Tryz.prog (Instr.loadAt 25 x2) w fun x18 w => VK Tryz.prog (Instr.loadAt 34 x3) w fun x19 w => CK Tryz.prog (Value.func (Fn.func 12) #[] #[]) [x18, x19] w fun x20 w => VK Tryz.prog (Instr.extract x20 0) w fun x21 w => VK Tryz.prog (Instr.extract x20 1) w fun x22 w => VK Tryz.prog (Instr.alloc 34 true (.tuple #[])) w fun x7 w => UK Tryz.prog (Instr.storeAt 34 x7 x21) w fun _ w => W fn_ Tryz.prog 40 dispatcherlaw30_LimitsEnough_R0 (seqK (sx fn_ Tryz.prog 40 dispatcherlaw30_LimitsEnough_R1 (retK Tryz.prog [ResultVar.tmp 4] R)) (retK Tryz.prog [ResultVar.tmp 4] R)) (up (up (up (up (up (up (up (up (up (up (up (up (up (up (up (up (up (up (up (up (up (rho0 [a0, a1]) 2 x2) 3 x3) 4 (Value.bool false)) 9 x9) 10 x10) 12 x12) 13 x13) 14 x14) 11 x14) 15 x15) 16 x16) 5 x5) 6 x16) 18 x18) 19 x19) 20 x20) 17 x20) 21 x21) 22 x22) 7 x7) 8 x22) w)
theorem dispatcherlaw30_LimitsEnough_eq (a0 a1 : Value) (w : World) (R : Value → World → Prop) : sx fn_ Tryz.prog 40 dispatcherlaw30_LimitsEnough_b (retK Tryz.prog Tryz.f4.results.toList R) (rho0 [a0, a1]) w = dispatcherlaw30_LimitsEnough_F a0 a1 w R := by kernel_rfl
theorem dispatcherlaw30_LimitsEnough_calls {a0 a1 : Value} {w : World} {R : Value → World → Prop} (h : dispatcherlaw30_LimitsEnough_F a0 a1 w R) : Calls Tryz.prog 4 #[a0, a1] w fun e w' => ∃ v, e = .returned v ∧ R v w' :=
  Go.X.calls_of_sx (n := 40) (c := dispatcherlaw30_LimitsEnough_b) Tryz.func4 (by kernel_rfl) (by kernel_rfl) (Nat.le_of_ble_eq_true rfl) (by kernel_rfl) (Eq.mpr (dispatcherlaw30_LimitsEnough_eq a0 a1 w R) h)
/-- dispatcher/limits.Runs -/
noncomputable def limits_Runs_b : Code := (Tryz.f7.body).getD .skip
noncomputable def limits_Runs_R0 : Code := cAt [1, 1, 1, 0, 1] limits_Runs_b
noncomputable def limits_Runs_R1 : Code := cAt [1, 1, 1, 1] limits_Runs_b
noncomputable def limits_Runs_R0_F (z : At) (K : Exit → Sl → World → Prop) (ρ : Sl) (w : World) : Prop :=
  CondK (ρ 27) (K Exit.ret (up (up ρ 4 (Value.int IntKind.i64 0)) 5 (Value.int IntKind.i64 90)) w) (K Exit.normal ρ w)
theorem limits_Runs_R0_eq (z : At) (K : Exit → Sl → World → Prop) (ρ : Sl) (w : World) : sx z Tryz.prog 29 limits_Runs_R0 K ρ w = limits_Runs_R0_F z K ρ w := by kernel_rfl
noncomputable def limits_Runs_R1_F (z : At) (K : Exit → Sl → World → Prop) (ρ : Sl) (w : World) : Prop :=
  K Exit.ret (up (up (up ρ 28 (ρ 8)) 4 (ρ 8)) 5 (Value.int IntKind.i64 0)) w
theorem limits_Runs_R1_eq (z : At) (K : Exit → Sl → World → Prop) (ρ : Sl) (w : World) : sx z Tryz.prog 29 limits_Runs_R1 K ρ w = limits_Runs_R1_F z K ρ w := by kernel_rfl
noncomputable def limits_Runs_F (a0 a1 : Value) (w : World) (R : Value → World → Prop) : Prop :=
  VK Tryz.prog (Instr.box 25 a0) w fun x2 w => VK Tryz.prog (Instr.loadAt 25 x2) w fun x10 w => CK Tryz.prog (Value.func (Fn.func 16) #[] #[]) [x10, a1] w fun x12 w => VK Tryz.prog (Instr.extract x12 0) w fun x13 w => VK Tryz.prog (Instr.extract x12 1) w fun x14 w => VK Tryz.prog (Instr.alloc 42 true (.tuple #[])) w fun x6 w => UK Tryz.prog (Instr.storeAt 42 x6 x13) w fun _ w => BK Tryz.prog BinOp.neq 27 (Operand.tmp 15) (Operand.const (Value.int IntKind.i64 0)) x14 (Value.int IntKind.i64 0) w fun x16 w => CondK x16 (R (Value.tuple #[(Value.int IntKind.i64 0), x14]) w) (VK Tryz.prog (Instr.fieldAt 25 x2 1) w fun x18 w => VK Tryz.prog (Instr.loadAt 23 x18) w fun x19 w => CK Tryz.prog (Value.func (Fn.func 20) #[] #[]) [x19, a1] w fun x21 w => CK Tryz.prog (Value.func (Fn.func 18) #[] #[]) [x21] w fun x22 w => CK Tryz.prog (Value.func (Fn.func 19) #[] #[]) [x22, a1] w fun x24 w => CK Tryz.prog (Value.func (Fn.func 18) #[] #[]) [x24] w fun x25 w => BK Tryz.prog BinOp.gtr 3 (Operand.tmp 26) (Operand.const (Value.int IntKind.i64 65536)) x25 (Value.int IntKind.i64 65536) w fun x27 w => sx fn_ Tryz.prog 29 limits_Runs_R0 (seqK (sx fn_ Tryz.prog 29 limits_Runs_R1 (retK Tryz.prog [ResultVar.tmp 4, ResultVar.tmp 5] R)) (retK Tryz.prog [ResultVar.tmp 4, ResultVar.tmp 5] R)) (up (up (up (up (up (up (up (up (up (up (up (up (up (up (up (up (up (up (up (up (up (up (up (up (rho0 [a0, a1]) 2 x2) 4 (Value.int IntKind.i64 0)) 5 (Value.int IntKind.i64 0)) 10 x10) 11 a1) 12 x12) 9 x12) 13 x13) 14 x14) 6 x6) 7 x14) 15 x14) 16 x16) 18 x18) 19 x19) 20 a1) 21 x21) 22 x22) 23 a1) 24 x24) 25 x25) 8 x25) 26 x25) 27 x27) w)
theorem limits_Runs_eq (a0 a1 : Value) (w : World) (R : Value → World → Prop) : sx fn_ Tryz.prog 29 limits_Runs_b (retK Tryz.prog Tryz.f7.results.toList R) (rho0 [a0, a1]) w = limits_Runs_F a0 a1 w R := by kernel_rfl
theorem limits_Runs_calls {a0 a1 : Value} {w : World} {R : Value → World → Prop} (h : limits_Runs_F a0 a1 w R) : Calls Tryz.prog 7 #[a0, a1] w fun e w' => ∃ v, e = .returned v ∧ R v w' :=
  Go.X.calls_of_sx (n := 29) (c := limits_Runs_b) Tryz.func7 (by kernel_rfl) (by kernel_rfl) (Nat.le_of_ble_eq_true rfl) (by kernel_rfl) (Eq.mpr (limits_Runs_eq a0 a1 w R) h)
/-- dispatcher/limits.Steps -/
noncomputable def limits_Steps_b : Code := (Tryz.f9.body).getD .skip
noncomputable def limits_Steps_R0 : Code := cAt [1, 1, 1, 1, 0, 1] limits_Steps_b
noncomputable def limits_Steps_R1 : Code := cAt [1, 1, 1, 1, 1] limits_Steps_b
noncomputable def limits_Steps_R0_F (z : At) (K : Exit → Sl → World → Prop) (ρ : Sl) (w : World) : Prop :=
  CondK (ρ 28) (K Exit.ret (up (up ρ 4 (Value.int IntKind.i64 0)) 5 (Value.int IntKind.i64 90)) w) (K Exit.normal ρ w)
theorem limits_Steps_R0_eq (z : At) (K : Exit → Sl → World → Prop) (ρ : Sl) (w : World) : sx z Tryz.prog 30 limits_Steps_R0 K ρ w = limits_Steps_R0_F z K ρ w := by kernel_rfl
noncomputable def limits_Steps_R1_F (z : At) (K : Exit → Sl → World → Prop) (ρ : Sl) (w : World) : Prop :=
  K Exit.ret (up (up (up ρ 29 (ρ 8)) 4 (ρ 8)) 5 (Value.int IntKind.i64 0)) w
theorem limits_Steps_R1_eq (z : At) (K : Exit → Sl → World → Prop) (ρ : Sl) (w : World) : sx z Tryz.prog 30 limits_Steps_R1 K ρ w = limits_Steps_R1_F z K ρ w := by kernel_rfl
noncomputable def limits_Steps_F (a0 a1 : Value) (w : World) (R : Value → World → Prop) : Prop :=
  VK Tryz.prog (Instr.box 25 a0) w fun x2 w => VK Tryz.prog (Instr.loadAt 25 x2) w fun x10 w => CK Tryz.prog (Value.func (Fn.func 16) #[] #[]) [x10, a1] w fun x12 w => VK Tryz.prog (Instr.extract x12 0) w fun x13 w => VK Tryz.prog (Instr.extract x12 1) w fun x14 w => VK Tryz.prog (Instr.alloc 42 true (.tuple #[])) w fun x6 w => UK Tryz.prog (Instr.storeAt 42 x6 x13) w fun _ w => BK Tryz.prog BinOp.neq 27 (Operand.tmp 15) (Operand.const (Value.int IntKind.i64 0)) x14 (Value.int IntKind.i64 0) w fun x16 w => CondK x16 (R (Value.tuple #[(Value.int IntKind.i64 0), x14]) w) (VK Tryz.prog (Instr.fieldAt 42 x6 0) w fun x18 w => VK Tryz.prog (Instr.loadAt 3 x18) w fun x19 w => VK Tryz.prog (Instr.fieldAt 42 x6 1) w fun x21 w => VK Tryz.prog (Instr.loadAt 3 x21) w fun x22 w => BK Tryz.prog BinOp.mul 3 (Operand.const (Value.int IntKind.i64 2)) (Operand.tmp 22) (Value.int IntKind.i64 2) x22 w fun x23 w => BK Tryz.prog BinOp.add 3 (Operand.tmp 23) (Operand.const (Value.int IntKind.i64 1)) x23 (Value.int IntKind.i64 1) w fun x24 w => BK Tryz.prog BinOp.mul 3 (Operand.tmp 20) (Operand.tmp 24) a1 x24 w fun x25 w => IK Tryz.prog Builtin.max #[3, 3] 3 [false, false] [x19, x25] w fun x26 w => BK Tryz.prog BinOp.gtr 3 (Operand.tmp 27) (Operand.const (Value.int IntKind.i64 1048576)) x26 (Value.int IntKind.i64 1048576) w fun x28 w => sx fn_ Tryz.prog 30 limits_Steps_R0 (seqK (sx fn_ Tryz.prog 30 limits_Steps_R1 (retK Tryz.prog [ResultVar.tmp 4, ResultVar.tmp 5] R)) (retK Tryz.prog [ResultVar.tmp 4, ResultVar.tmp 5] R)) (up (up (up (up (up (up (up (up (up (up (up (up (up (up (up (up (up (up (up (up (up (up (up (up (up (rho0 [a0, a1]) 2 x2) 4 (Value.int IntKind.i64 0)) 5 (Value.int IntKind.i64 0)) 10 x10) 11 a1) 12 x12) 9 x12) 13 x13) 14 x14) 6 x6) 7 x14) 15 x14) 16 x16) 18 x18) 19 x19) 20 a1) 21 x21) 22 x22) 23 x23) 24 x24) 25 x25) 26 x26) 8 x26) 27 x26) 28 x28) w)
theorem limits_Steps_eq (a0 a1 : Value) (w : World) (R : Value → World → Prop) : sx fn_ Tryz.prog 30 limits_Steps_b (retK Tryz.prog Tryz.f9.results.toList R) (rho0 [a0, a1]) w = limits_Steps_F a0 a1 w R := by kernel_rfl
theorem limits_Steps_calls {a0 a1 : Value} {w : World} {R : Value → World → Prop} (h : limits_Steps_F a0 a1 w R) : Calls Tryz.prog 9 #[a0, a1] w fun e w' => ∃ v, e = .returned v ∧ R v w' :=
  Go.X.calls_of_sx (n := 30) (c := limits_Steps_b) Tryz.func9 (by kernel_rfl) (by kernel_rfl) (Nat.le_of_ble_eq_true rfl) (by kernel_rfl) (Eq.mpr (limits_Steps_eq a0 a1 w R) h)
/-- dispatcher/limits.Enough -/
noncomputable def limits_Enough_b : Code := (Tryz.f11.body).getD .skip
noncomputable def limits_Enough_R0 : Code := cAt [1, 1, 1, 1] limits_Enough_b
noncomputable def limits_Enough_R0_F (z : At) (K : Exit → Sl → World → Prop) (ρ : Sl) (w : World) : Prop :=
  BK Tryz.prog BinOp.neq 27 (Operand.tmp 27) (Operand.const (Value.int IntKind.i64 0)) (ρ 7) (Value.int IntKind.i64 0) w fun x28 w => CondK x28 (VK Tryz.prog (Instr.build 34 [].toArray) w fun x29 w => UK Tryz.prog (Instr.storeAt 34 (ρ 4) x29) w fun _ w => K Exit.ret (up (up (up (up (up ρ 27 (ρ 7)) 28 x28) 29 x29) 30 (ρ 7)) 5 (ρ 7)) w) (VK Tryz.prog (Instr.fieldAt 34 (ρ 3) 4) w fun x33 w => UK Tryz.prog (Instr.storeAt 3 x33 (ρ 6)) w fun _ w => VK Tryz.prog (Instr.fieldAt 34 (ρ 3) 5) w fun x34 w => UK Tryz.prog (Instr.storeAt 3 x34 (ρ 8)) w fun _ w => VK Tryz.prog (Instr.loadAt 34 (ρ 3)) w fun x35 w => UK Tryz.prog (Instr.storeAt 34 (ρ 4) x35) w fun _ w => K Exit.ret (up (up (up (up (up (up (up (up ρ 27 (ρ 7)) 28 x28) 31 (ρ 6)) 32 (ρ 8)) 33 x33) 34 x34) 35 x35) 5 (Value.int IntKind.i64 0)) w)
theorem limits_Enough_R0_eq (z : At) (K : Exit → Sl → World → Prop) (ρ : Sl) (w : World) : sx z Tryz.prog 36 limits_Enough_R0 K ρ w = limits_Enough_R0_F z K ρ w := by kernel_rfl
noncomputable def limits_Enough_F (a0 a1 : Value) (w : World) (R : Value → World → Prop) : Prop :=
  VK Tryz.prog (Instr.box 25 a0) w fun x2 w => VK Tryz.prog (Instr.box 34 a1) w fun x3 w => VK Tryz.prog (Instr.alloc 34 true (.tuple #[])) w fun x4 w => VK Tryz.prog (Instr.loadAt 25 x2) w fun x10 w => VK Tryz.prog (Instr.fieldAt 34 x3 0) w fun x11 w => VK Tryz.prog (Instr.loadAt 3 x11) w fun x12 w => CK Tryz.prog (Value.func (Fn.func 7) #[] #[]) [x10, x12] w fun x13 w => VK Tryz.prog (Instr.extract x13 0) w fun x14 w => VK Tryz.prog (Instr.extract x13 1) w fun x15 w => BK Tryz.prog BinOp.neq 27 (Operand.tmp 16) (Operand.const (Value.int IntKind.i64 0)) x15 (Value.int IntKind.i64 0) w fun x17 w => CondK x17 (VK Tryz.prog (Instr.build 34 [].toArray) w fun x18 w => UK Tryz.prog (Instr.storeAt 34 x4 x18) w fun _ w => ∃ x4_1, (do loadVar 34 (← asAddr x4) : Sem Value).run Tryz.prog w = .ok x4_1 w ∧ R (Value.tuple #[x4_1, x15]) w) (VK Tryz.prog (Instr.loadAt 25 x2) w fun x21 w => VK Tryz.prog (Instr.fieldAt 34 x3 0) w fun x22 w => VK Tryz.prog (Instr.loadAt 3 x22) w fun x23 w => CK Tryz.prog (Value.func (Fn.func 9) #[] #[]) [x21, x23] w fun x24 w => VK Tryz.prog (Instr.extract x24 0) w fun x25 w => VK Tryz.prog (Instr.extract x24 1) w fun x26 w => sx fn_ Tryz.prog 36 limits_Enough_R0 (retK Tryz.prog [ResultVar.cell 4 34, ResultVar.tmp 5] R) (up (up (up (up (up (up (up (up (up (up (up (up (up (up (up (up (up (up (up (up (up (up (up (up (rho0 [a0, a1]) 2 x2) 3 x3) 4 x4) 5 (Value.int IntKind.i64 0)) 10 x10) 11 x11) 12 x12) 13 x13) 9 x13) 14 x14) 15 x15) 6 x14) 7 x15) 16 x15) 17 x17) 21 x21) 22 x22) 23 x23) 24 x24) 20 x24) 25 x25) 26 x26) 8 x25) 7 x26) w)
theorem limits_Enough_eq (a0 a1 : Value) (w : World) (R : Value → World → Prop) : sx fn_ Tryz.prog 36 limits_Enough_b (retK Tryz.prog Tryz.f11.results.toList R) (rho0 [a0, a1]) w = limits_Enough_F a0 a1 w R := by kernel_rfl
theorem limits_Enough_calls {a0 a1 : Value} {w : World} {R : Value → World → Prop} (h : limits_Enough_F a0 a1 w R) : Calls Tryz.prog 11 #[a0, a1] w fun e w' => ∃ v, e = .returned v ∧ R v w' :=
  Go.X.calls_of_sx (n := 36) (c := limits_Enough_b) Tryz.func11 (by kernel_rfl) (by kernel_rfl) (Nat.le_of_ble_eq_true rfl) (by kernel_rfl) (Eq.mpr (limits_Enough_eq a0 a1 w R) h)
/-- dispatcher/limits.Fits -/
noncomputable def limits_Fits_b : Code := (Tryz.f13.body).getD .skip
noncomputable def limits_Fits_F (a0 a1 : Value) (w : World) (R : Value → World → Prop) : Prop :=
  VK Tryz.prog (Instr.box 25 a0) w fun x2 w => VK Tryz.prog (Instr.box 34 a1) w fun x3 w => VK Tryz.prog (Instr.loadAt 25 x2) w fun x8 w => VK Tryz.prog (Instr.loadAt 34 x3) w fun x9 w => CK Tryz.prog (Value.func (Fn.func 11) #[] #[]) [x8, x9] w fun x10 w => VK Tryz.prog (Instr.extract x10 0) w fun x11 w => VK Tryz.prog (Instr.extract x10 1) w fun x12 w => VK Tryz.prog (Instr.alloc 34 true (.tuple #[])) w fun x5 w => UK Tryz.prog (Instr.storeAt 34 x5 x11) w fun _ w => BK Tryz.prog BinOp.eql 27 (Operand.tmp 13) (Operand.const (Value.int IntKind.i64 0)) x12 (Value.int IntKind.i64 0) w fun x14 w => VG Tryz.prog x14 true (Instr.fieldAt 34 x3 4) w fun x16 w => VG Tryz.prog x14 true (Instr.loadAt 3 x16) w fun x17 w => VG Tryz.prog x14 true (Instr.fieldAt 34 x5 4) w fun x18 w => VG Tryz.prog x14 true (Instr.loadAt 3 x18) w fun x19 w => BG Tryz.prog x14 true BinOp.geq 3 (Operand.tmp 17) (Operand.tmp 19) x17 x19 w fun x20 w => PK Tryz.prog x14 x20 (Value.bool false) w fun x21 w => VG Tryz.prog x21 true (Instr.fieldAt 34 x3 5) w fun x23 w => VG Tryz.prog x21 true (Instr.loadAt 3 x23) w fun x24 w => VG Tryz.prog x21 true (Instr.fieldAt 34 x5 5) w fun x25 w => VG Tryz.prog x21 true (Instr.loadAt 3 x25) w fun x26 w => BG Tryz.prog x21 true BinOp.geq 3 (Operand.tmp 24) (Operand.tmp 26) x24 x26 w fun x27 w => PK Tryz.prog x21 x27 (Value.bool false) w fun x28 w => VG Tryz.prog x28 true (Instr.fieldAt 34 x3 4) w fun x30 w => VG Tryz.prog x28 true (Instr.loadAt 3 x30) w fun x31 w => BG Tryz.prog x28 true BinOp.leq 3 (Operand.tmp 31) (Operand.const (Value.int IntKind.i64 65536)) x31 (Value.int IntKind.i64 65536) w fun x32 w => PK Tryz.prog x28 x32 (Value.bool false) w fun x33 w => VG Tryz.prog x33 true (Instr.fieldAt 34 x3 5) w fun x35 w => VG Tryz.prog x33 true (Instr.loadAt 3 x35) w fun x36 w => BG Tryz.prog x33 true BinOp.leq 3 (Operand.tmp 36) (Operand.const (Value.int IntKind.i64 1048576)) x36 (Value.int IntKind.i64 1048576) w fun x37 w => PK Tryz.prog x33 x37 (Value.bool false) w fun x38 w => R x38 w
theorem limits_Fits_eq (a0 a1 : Value) (w : World) (R : Value → World → Prop) : sx fn_ Tryz.prog 39 limits_Fits_b (retK Tryz.prog Tryz.f13.results.toList R) (rho0 [a0, a1]) w = limits_Fits_F a0 a1 w R := by kernel_rfl
theorem limits_Fits_calls {a0 a1 : Value} {w : World} {R : Value → World → Prop} (h : limits_Fits_F a0 a1 w R) : Calls Tryz.prog 13 #[a0, a1] w fun e w' => ∃ v, e = .returned v ∧ R v w' :=
  Go.X.calls_of_sx (n := 39) (c := limits_Fits_b) Tryz.func13 (by kernel_rfl) (by kernel_rfl) (Nat.le_of_ble_eq_true rfl) (by kernel_rfl) (Eq.mpr (limits_Fits_eq a0 a1 w R) h)
/-- dispatcher/limits.ways -/
noncomputable def limits_ways_b : Code := (Tryz.f33.body).getD .skip
noncomputable def limits_ways_R0 : Code := cAt [1, 1, 0, 1, 0, 1, 1, 1, 1, 1, 0, 1, 1] limits_ways_b
noncomputable def limits_ways_R1 : Code := cAt [1, 1, 1] limits_ways_b
noncomputable def limits_ways_R0_F (z : At) (K : Exit → Sl → World → Prop) (ρ : Sl) (w : World) : Prop :=
  CK Tryz.prog (Value.func (Fn.func 19) #[] #[]) [(ρ 5), (ρ 6)] w fun x36 w => CK Tryz.prog (Value.func (Fn.func 18) #[] #[]) [x36] w fun x37 w => K Exit.ret (up (up (up (up (up ρ 34 (ρ 5)) 35 (ρ 6)) 36 x36) 37 x37) 4 x37) w
theorem limits_ways_R0_eq (z : At) (K : Exit → Sl → World → Prop) (ρ : Sl) (w : World) : sx z Tryz.prog 41 limits_ways_R0 K ρ w = limits_ways_R0_F z K ρ w := by kernel_rfl
noncomputable def limits_ways_F (a0 a1 : Value) (w : World) (R : Value → World → Prop) : Prop :=
  VK Tryz.prog (Instr.box 62 a0) w fun x2 w => VK Tryz.prog (Instr.fieldAt 62 x2 6) w fun x7 w => VK Tryz.prog (Instr.loadAt 23 x7) w fun x8 w => CK Tryz.prog (Value.func (Fn.func 20) #[] #[]) [x8, a1] w fun x10 w => CK Tryz.prog (Value.func (Fn.func 18) #[] #[]) [x10] w fun x11 w => VK Tryz.prog (Instr.fieldAt 62 x2 0) w fun x12 w => VK Tryz.prog (Instr.loadAt 5 x12) w fun x13 w => BK Tryz.prog BinOp.eql 5 (Operand.tmp 13) (Operand.const (Value.int IntKind.u8 3)) x13 (Value.int IntKind.u8 3) w fun x15 w => CondK x15 (VK Tryz.prog (Instr.fieldAt 62 x2 7) w fun x17 w => VK Tryz.prog (Instr.loadAt 23 x17) w fun x18 w => CK Tryz.prog (Value.func (Fn.func 20) #[] #[]) [x18, a1] w fun x20 w => CK Tryz.prog (Value.func (Fn.func 18) #[] #[]) [x20] w fun x21 w => IK Tryz.prog Builtin.max #[3, 3] 3 [false, false] [x11, x21] w fun x22 w => R x22 w) (BK Tryz.prog BinOp.eql 5 (Operand.tmp 13) (Operand.const (Value.int IntKind.u8 4)) x13 (Value.int IntKind.u8 4) w fun x24 w => CondK x24 (BK Tryz.prog BinOp.gtr 3 (Operand.tmp 25) (Operand.const (Value.int IntKind.i64 1)) x11 (Value.int IntKind.i64 1) w fun x26 w => CondK x26 (R (Value.int IntKind.i64 1048576) w) (R (Value.int IntKind.i64 1) w)) (BK Tryz.prog BinOp.eql 5 (Operand.tmp 13) (Operand.const (Value.int IntKind.u8 5)) x13 (Value.int IntKind.u8 5) w fun x28 w => CondK x28 (VK Tryz.prog (Instr.fieldAt 62 x2 4) w fun x29 w => VK Tryz.prog (Instr.loadAt 3 x29) w fun x30 w => BK Tryz.prog BinOp.eql 3 (Operand.tmp 31) (Operand.const (Value.int IntKind.i64 0)) x30 (Value.int IntKind.i64 0) w fun x32 w => CondK x32 (sx fn_ Tryz.prog 41 limits_ways_R0 (blkK 0 (seqK (sx fn_ Tryz.prog 41 limits_ways_R1 (retK Tryz.prog [ResultVar.tmp 4] R)) (retK Tryz.prog [ResultVar.tmp 4] R))) (up (up (up (up (up (up (up (up (up (up (up (up (up (up (up (up (up (up (up (up (up (up (up (rho0 [a0, a1]) 2 x2) 4 (Value.int IntKind.i64 0)) 7 x7) 8 x8) 9 a1) 10 x10) 11 x11) 5 x11) 12 x12) 13 x13) 15 x15) 14 x15) 24 x24) 23 x24) 28 x28) 27 x28) 29 x29) 30 x30) 6 x30) 31 x30) 32 x32) 33 a1) 6 a1) w) (sx fn_ Tryz.prog 41 limits_ways_R0 (blkK 0 (seqK (sx fn_ Tryz.prog 41 limits_ways_R1 (retK Tryz.prog [ResultVar.tmp 4] R)) (retK Tryz.prog [ResultVar.tmp 4] R))) (up (up (up (up (up (up (up (up (up (up (up (up (up (up (up (up (up (up (up (up (up (rho0 [a0, a1]) 2 x2) 4 (Value.int IntKind.i64 0)) 7 x7) 8 x8) 9 a1) 10 x10) 11 x11) 5 x11) 12 x12) 13 x13) 15 x15) 14 x15) 24 x24) 23 x24) 28 x28) 27 x28) 29 x29) 30 x30) 6 x30) 31 x30) 32 x32) w)) (VK Tryz.prog (Instr.loadAt 62 x2) w fun x38 w => CK Tryz.prog (Value.func (Fn.func 46) #[] #[]) [x38, a1] w fun x40 w => R x40 w)))
theorem limits_ways_eq (a0 a1 : Value) (w : World) (R : Value → World → Prop) : sx fn_ Tryz.prog 41 limits_ways_b (retK Tryz.prog Tryz.f33.results.toList R) (rho0 [a0, a1]) w = limits_ways_F a0 a1 w R := by kernel_rfl
theorem limits_ways_calls {a0 a1 : Value} {w : World} {R : Value → World → Prop} (h : limits_ways_F a0 a1 w R) : Calls Tryz.prog 33 #[a0, a1] w fun e w' => ∃ v, e = .returned v ∧ R v w' :=
  Go.X.calls_of_sx (n := 41) (c := limits_ways_b) Tryz.func33 (by kernel_rfl) (by kernel_rfl) (Nat.le_of_ble_eq_true rfl) (by kernel_rfl) (Eq.mpr (limits_ways_eq a0 a1 w R) h)
/-- dispatcher/limits.out -/
noncomputable def limits_out_b : Code := (Tryz.f46.body).getD .skip
noncomputable def limits_out_F (a0 a1 : Value) (w : World) (R : Value → World → Prop) : Prop :=
  VK Tryz.prog (Instr.box 62 a0) w fun x2 w => VK Tryz.prog (Instr.loadAt 62 x2) w fun x5 w => CK Tryz.prog (Value.func (Fn.func 79) #[] #[]) [x5] w fun x6 w => VK Tryz.prog (Op.unary UnOp.not x6) w fun x7 w => CondK x7 (R (Value.int IntKind.i64 1) w) (VK Tryz.prog (Instr.fieldAt 62 x2 1) w fun x8 w => VK Tryz.prog (Instr.loadAt 5 x8) w fun x9 w => BK Tryz.prog BinOp.eql 5 (Operand.tmp 9) (Operand.const (Value.int IntKind.u8 14)) x9 (Value.int IntKind.u8 14) w fun x11 w => CondK x11 (BK Tryz.prog BinOp.add 3 (Operand.tmp 12) (Operand.const (Value.int IntKind.i64 2)) a1 (Value.int IntKind.i64 2) w fun x13 w => R x13 w) (BK Tryz.prog BinOp.eql 5 (Operand.tmp 9) (Operand.const (Value.int IntKind.u8 11)) x9 (Value.int IntKind.u8 11) w fun x15 w => CondK x15 (R (Value.int IntKind.i64 3) w) (BK Tryz.prog BinOp.eql 5 (Operand.tmp 9) (Operand.const (Value.int IntKind.u8 10)) x9 (Value.int IntKind.u8 10) w fun x17 w => CondK x17 (VK Tryz.prog (Instr.fieldAt 62 x2 5) w fun x18 w => VK Tryz.prog (Instr.loadAt 60 x18) w fun x19 w => IK Tryz.prog Builtin.len #[60] 3 [false] [x19] w fun x20 w => BK Tryz.prog BinOp.add 3 (Operand.tmp 20) (Operand.const (Value.int IntKind.i64 1)) x20 (Value.int IntKind.i64 1) w fun x21 w => R x21 w) (BK Tryz.prog BinOp.eql 5 (Operand.tmp 9) (Operand.const (Value.int IntKind.u8 12)) x9 (Value.int IntKind.u8 12) w fun x23 w => CondK x23 (VK Tryz.prog (Instr.fieldAt 62 x2 5) w fun x24 w => VK Tryz.prog (Instr.loadAt 60 x24) w fun x25 w => IK Tryz.prog Builtin.len #[60] 3 [false] [x25] w fun x26 w => BK Tryz.prog BinOp.add 3 (Operand.tmp 26) (Operand.const (Value.int IntKind.i64 2)) x26 (Value.int IntKind.i64 2) w fun x27 w => R x27 w) (BK Tryz.prog BinOp.add 3 (Operand.tmp 28) (Operand.const (Value.int IntKind.i64 1)) a1 (Value.int IntKind.i64 1) w fun x29 w => R x29 w)))))
theorem limits_out_eq (a0 a1 : Value) (w : World) (R : Value → World → Prop) : sx fn_ Tryz.prog 30 limits_out_b (retK Tryz.prog Tryz.f46.results.toList R) (rho0 [a0, a1]) w = limits_out_F a0 a1 w R := by kernel_rfl
theorem limits_out_calls {a0 a1 : Value} {w : World} {R : Value → World → Prop} (h : limits_out_F a0 a1 w R) : Calls Tryz.prog 46 #[a0, a1] w fun e w' => ∃ v, e = .returned v ∧ R v w' :=
  Go.X.calls_of_sx (n := 30) (c := limits_out_b) Tryz.func46 (by kernel_rfl) (by kernel_rfl) (Nat.le_of_ble_eq_true rfl) (by kernel_rfl) (Eq.mpr (limits_out_eq a0 a1 w R) h)
/-- dispatcher/limits.each -/
noncomputable def limits_each_b : Code := (Tryz.f20.body).getD .skip
noncomputable def limits_each_F (a0 a1 : Value) (w : World) (R : Value → World → Prop) : Prop :=
  VK Tryz.prog (Instr.box 23 a0) w fun x2 w => VK Tryz.prog (Instr.box 3 a1) w fun x3 w => VK Tryz.prog (Instr.makeFunc (Fn.func 32) [].toArray [x2, x3].toArray) w fun x5 w => R x5 w
theorem limits_each_eq (a0 a1 : Value) (w : World) (R : Value → World → Prop) : sx fn_ Tryz.prog 6 limits_each_b (retK Tryz.prog Tryz.f20.results.toList R) (rho0 [a0, a1]) w = limits_each_F a0 a1 w R := by kernel_rfl
theorem limits_each_calls {a0 a1 : Value} {w : World} {R : Value → World → Prop} (h : limits_each_F a0 a1 w R) : Calls Tryz.prog 20 #[a0, a1] w fun e w' => ∃ v, e = .returned v ∧ R v w' :=
  Go.X.calls_of_sx (n := 6) (c := limits_each_b) Tryz.func20 (by kernel_rfl) (by kernel_rfl) (Nat.le_of_ble_eq_true rfl) (by kernel_rfl) (Eq.mpr (limits_each_eq a0 a1 w R) h)
/-- dispatcher/limits.each$1 -/
noncomputable def limits_each_1_b : Code := (Tryz.f32.body).getD .skip
noncomputable def limits_each_1_L0 : Code := cAt [1, 0, 0] limits_each_1_b
noncomputable def limits_each_1_L0_F (z : At) (K : Exit → Sl → World → Prop) (ρ : Sl) (w : World) : Prop :=
  BK Tryz.prog BinOp.lss 3 (Operand.tmp 8) (Operand.tmp 7) (ρ 8) (ρ 7) w fun x9 w => CondK x9 (VK Tryz.prog (Instr.indexAt 23 (ρ 6) (ρ 8)) w fun x10 w => VK Tryz.prog (Instr.loadAt 62 x10) w fun x11 w => VK Tryz.prog (Instr.alloc 62 true (.tuple #[])) w fun x5 w => UK Tryz.prog (Instr.storeAt 62 x5 x11) w fun _ w => VK Tryz.prog (Instr.loadAt 62 x5) w fun x13 w => VK Tryz.prog (Instr.loadAt 3 (ρ 2)) w fun x14 w => CK Tryz.prog (Value.func (Fn.func 33) #[] #[]) [x13, x14] w fun x15 w => CK Tryz.prog (ρ 0) [x15] w fun x16 w => VK Tryz.prog (Op.unary UnOp.not x16) w fun x17 w => CondK x17 (K Exit.ret (up (up (up (up (up (up (up (up (up (up ρ 9 x9) 10 x10) 11 x11) 5 x5) 12 (ρ 0)) 13 x13) 14 x14) 15 x15) 16 x16) 17 x17) w) (BK Tryz.prog BinOp.add 3 (Operand.tmp 8) (Operand.const (Value.int IntKind.i64 1)) (ρ 8) (Value.int IntKind.i64 1) w fun x18 w => K Exit.normal (up (up (up (up (up (up (up (up (up (up (up (up ρ 9 x9) 10 x10) 11 x11) 5 x5) 12 (ρ 0)) 13 x13) 14 x14) 15 x15) 16 x16) 17 x17) 18 x18) 8 x18) w)) (K (Exit.exit 0) (up ρ 9 x9) w)
theorem limits_each_1_L0_eq (z : At) (K : Exit → Sl → World → Prop) (ρ : Sl) (w : World) : sx z Tryz.prog 19 limits_each_1_L0 K ρ w = limits_each_1_L0_F z K ρ w := by kernel_rfl
theorem limits_each_1_L0_ok : dstOk 19 limits_each_1_L0 = true := by kernel_rfl
noncomputable def limits_each_1_F (a0 a1 a2 : Value) (w : World) (R : Value → World → Prop) : Prop :=
  VK Tryz.prog (Instr.loadAt 23 a1) w fun x6 w => IK Tryz.prog Builtin.len #[23] 3 [false] [x6] w fun x7 w => W fn_ Tryz.prog 19 (Code.loop limits_each_1_L0) (blkK 0 (retK Tryz.prog [] R)) (up (up (up (rho0 [a0, a1, a2]) 6 x6) 7 x7) 8 (Value.int IntKind.i64 0)) w
theorem limits_each_1_eq (a0 a1 a2 : Value) (w : World) (R : Value → World → Prop) : sx fn_ Tryz.prog 19 limits_each_1_b (retK Tryz.prog Tryz.f32.results.toList R) (rho0 [a0, a1, a2]) w = limits_each_1_F a0 a1 a2 w R := by kernel_rfl
theorem limits_each_1_calls {a0 a1 a2 : Value} {w : World} {R : Value → World → Prop} (h : limits_each_1_F a0 a1 a2 w R) : Calls Tryz.prog 32 #[a0, a1, a2] w fun e w' => ∃ v, e = .returned v ∧ R v w' :=
  Go.X.calls_of_sx (n := 19) (c := limits_each_1_b) Tryz.func32 (by kernel_rfl) (by kernel_rfl) (Nat.le_of_ble_eq_true rfl) (by kernel_rfl) (Eq.mpr (limits_each_1_eq a0 a1 a2 w R) h)
/-- dispatcher/limits.times -/
noncomputable def limits_times_b : Code := (Tryz.f19.body).getD .skip
noncomputable def limits_times_F (a0 a1 : Value) (w : World) (R : Value → World → Prop) : Prop :=
  VK Tryz.prog (Instr.box 3 a0) w fun x2 w => VK Tryz.prog (Instr.box 3 a1) w fun x3 w => VK Tryz.prog (Instr.makeFunc (Fn.func 31) [].toArray [x3, x2].toArray) w fun x5 w => R x5 w
theorem limits_times_eq (a0 a1 : Value) (w : World) (R : Value → World → Prop) : sx fn_ Tryz.prog 6 limits_times_b (retK Tryz.prog Tryz.f19.results.toList R) (rho0 [a0, a1]) w = limits_times_F a0 a1 w R := by kernel_rfl
theorem limits_times_calls {a0 a1 : Value} {w : World} {R : Value → World → Prop} (h : limits_times_F a0 a1 w R) : Calls Tryz.prog 19 #[a0, a1] w fun e w' => ∃ v, e = .returned v ∧ R v w' :=
  Go.X.calls_of_sx (n := 6) (c := limits_times_b) Tryz.func19 (by kernel_rfl) (by kernel_rfl) (Nat.le_of_ble_eq_true rfl) (by kernel_rfl) (Eq.mpr (limits_times_eq a0 a1 w R) h)
/-- dispatcher/limits.times$1 -/
noncomputable def limits_times_1_b : Code := (Tryz.f31.body).getD .skip
noncomputable def limits_times_1_L0 : Code := cAt [1, 0, 0] limits_times_1_b
noncomputable def limits_times_1_L0_F (z : At) (K : Exit → Sl → World → Prop) (ρ : Sl) (w : World) : Prop :=
  BK Tryz.prog BinOp.lss 3 (Operand.tmp 5) (Operand.tmp 4) (ρ 5) (ρ 4) w fun x6 w => CondK x6 (VK Tryz.prog (Instr.loadAt 3 (ρ 2)) w fun x7 w => BK Tryz.prog BinOp.eql 3 (Operand.tmp 7) (Operand.const (Value.int IntKind.i64 1)) x7 (Value.int IntKind.i64 1) w fun x8 w => MG Tryz.prog x8 false (ρ 0) w fun x10 w => VG Tryz.prog x8 false (Instr.loadAt 3 (ρ 2)) w fun x11 w => CG Tryz.prog x8 false x10 [x11] w fun x12 w => VG Tryz.prog x8 false (Op.unary UnOp.not x12) w fun x13 w => PK Tryz.prog x8 (Value.bool true) x13 w fun x14 w => CondK x14 (K Exit.ret (up (up (up (up (up (up (up (up (up ρ 6 x6) 7 x7) 8 x8) 9 x8) 10 x10) 11 x11) 12 x12) 13 x13) 14 x14) w) (BK Tryz.prog BinOp.add 3 (Operand.tmp 5) (Operand.const (Value.int IntKind.i64 1)) (ρ 5) (Value.int IntKind.i64 1) w fun x15 w => K Exit.normal (up (up (up (up (up (up (up (up (up (up (up ρ 6 x6) 7 x7) 8 x8) 9 x8) 10 x10) 11 x11) 12 x12) 13 x13) 14 x14) 15 x15) 5 x15) w)) (K (Exit.exit 0) (up ρ 6 x6) w)
theorem limits_times_1_L0_eq (z : At) (K : Exit → Sl → World → Prop) (ρ : Sl) (w : World) : sx z Tryz.prog 16 limits_times_1_L0 K ρ w = limits_times_1_L0_F z K ρ w := by kernel_rfl
theorem limits_times_1_L0_ok : dstOk 16 limits_times_1_L0 = true := by kernel_rfl
noncomputable def limits_times_1_F (a0 a1 a2 : Value) (w : World) (R : Value → World → Prop) : Prop :=
  VK Tryz.prog (Instr.loadAt 3 a1) w fun x4 w => W fn_ Tryz.prog 16 (Code.loop limits_times_1_L0) (blkK 0 (retK Tryz.prog [] R)) (up (up (rho0 [a0, a1, a2]) 4 x4) 5 (Value.int IntKind.i64 0)) w
theorem limits_times_1_eq (a0 a1 a2 : Value) (w : World) (R : Value → World → Prop) : sx fn_ Tryz.prog 16 limits_times_1_b (retK Tryz.prog Tryz.f31.results.toList R) (rho0 [a0, a1, a2]) w = limits_times_1_F a0 a1 a2 w R := by kernel_rfl
theorem limits_times_1_calls {a0 a1 a2 : Value} {w : World} {R : Value → World → Prop} (h : limits_times_1_F a0 a1 a2 w R) : Calls Tryz.prog 31 #[a0, a1, a2] w fun e w' => ∃ v, e = .returned v ∧ R v w' :=
  Go.X.calls_of_sx (n := 16) (c := limits_times_1_b) Tryz.func31 (by kernel_rfl) (by kernel_rfl) (Nat.le_of_ble_eq_true rfl) (by kernel_rfl) (Eq.mpr (limits_times_1_eq a0 a1 a2 w R) h)
/-- dispatcher/limits.product[int] (with a range over a function: its pieces) -/
noncomputable def limits_product_int_b : Code := (Tryz.f18.body).getD .skip
noncomputable def limits_product_int_g : Operand := gOf (cAt [1, 1, 0, 1, 0] limits_product_int_b)
noncomputable def limits_product_int_ps : Array Tmp := psOf (cAt [1, 1, 0, 1, 0] limits_product_int_b)
noncomputable def limits_product_int_R0 : Code := cAt [0] limits_product_int_b
noncomputable def limits_product_int_R1 : Code := cAt [1, 0] limits_product_int_b
noncomputable def limits_product_int_R2 : Code := cAt [1, 1, 0, 0] limits_product_int_b
noncomputable def limits_product_int_R3 : Code := cAt [1, 1, 0, 1, 0, 0] limits_product_int_b
noncomputable def limits_product_int_R4 : Code := cAt [1, 1, 0, 1, 0, 1] limits_product_int_b
noncomputable def limits_product_int_R5 : Code := cAt [1, 1, 1] limits_product_int_b
noncomputable def limits_product_int_R0_F (z : At) (K : Exit → Sl → World → Prop) (ρ : Sl) (w : World) : Prop :=
  K Exit.normal (up ρ 2 (Value.int IntKind.i64 0)) w
theorem limits_product_int_R0_eq (z : At) (K : Exit → Sl → World → Prop) (ρ : Sl) (w : World) : sx z Tryz.prog 14 limits_product_int_R0 K ρ w = limits_product_int_R0_F z K ρ w := by kernel_rfl
theorem limits_product_int_R0_ok : dstOk 14 limits_product_int_R0 = true := by kernel_rfl
noncomputable def limits_product_int_R1_F (z : At) (K : Exit → Sl → World → Prop) (ρ : Sl) (w : World) : Prop :=
  VK Tryz.prog (Instr.alloc 3 true (.tuple #[])) w fun x3 w => UK Tryz.prog (Instr.storeAt 3 x3 (Value.int IntKind.i64 1)) w fun _ w => K Exit.normal (up (up ρ 5 (Value.int IntKind.i64 1)) 3 x3) w
theorem limits_product_int_R1_eq (z : At) (K : Exit → Sl → World → Prop) (ρ : Sl) (w : World) : sx z Tryz.prog 14 limits_product_int_R1 K ρ w = limits_product_int_R1_F z K ρ w := by kernel_rfl
theorem limits_product_int_R1_ok : dstOk 14 limits_product_int_R1 = true := by kernel_rfl
noncomputable def limits_product_int_R2_F (z : At) (K : Exit → Sl → World → Prop) (ρ : Sl) (w : World) : Prop :=
  K Exit.normal (up ρ 6 (ρ 0)) w
theorem limits_product_int_R2_eq (z : At) (K : Exit → Sl → World → Prop) (ρ : Sl) (w : World) : sx z Tryz.prog 14 limits_product_int_R2 K ρ w = limits_product_int_R2_F z K ρ w := by kernel_rfl
theorem limits_product_int_R2_ok : dstOk 14 limits_product_int_R2 = true := by kernel_rfl
noncomputable def limits_product_int_R3_F (z : At) (K : Exit → Sl → World → Prop) (ρ : Sl) (w : World) : Prop :=
  K Exit.normal (up ρ 4 (ρ 7)) w
theorem limits_product_int_R3_eq (z : At) (K : Exit → Sl → World → Prop) (ρ : Sl) (w : World) : sx z Tryz.prog 14 limits_product_int_R3 K ρ w = limits_product_int_R3_F z K ρ w := by kernel_rfl
theorem limits_product_int_R3_ok : dstOk 14 limits_product_int_R3 = true := by kernel_rfl
noncomputable def limits_product_int_R4_F (z : At) (K : Exit → Sl → World → Prop) (ρ : Sl) (w : World) : Prop :=
  VK Tryz.prog (Instr.loadAt 3 (ρ 3)) w fun x8 w => IK Tryz.prog Builtin.min #[3, 3] 3 [false, true] [(ρ 4), (Value.int IntKind.i64 1048576)] w fun x10 w => BK Tryz.prog BinOp.mul 3 (Operand.tmp 8) (Operand.tmp 10) x8 x10 w fun x11 w => IK Tryz.prog Builtin.min #[3, 3] 3 [false, true] [x11, (Value.int IntKind.i64 1048576)] w fun x12 w => UK Tryz.prog (Instr.storeAt 3 (ρ 3) x12) w fun _ w => K Exit.normal (up (up (up (up (up ρ 8 x8) 9 (ρ 4)) 10 x10) 11 x11) 12 x12) w
theorem limits_product_int_R4_eq (z : At) (K : Exit → Sl → World → Prop) (ρ : Sl) (w : World) : sx z Tryz.prog 14 limits_product_int_R4 K ρ w = limits_product_int_R4_F z K ρ w := by kernel_rfl
theorem limits_product_int_R4_ok : dstOk 14 limits_product_int_R4 = true := by kernel_rfl
noncomputable def limits_product_int_R5_F (z : At) (K : Exit → Sl → World → Prop) (ρ : Sl) (w : World) : Prop :=
  VK Tryz.prog (Instr.loadAt 3 (ρ 3)) w fun x13 w => K Exit.ret (up (up ρ 13 x13) 2 x13) w
theorem limits_product_int_R5_eq (z : At) (K : Exit → Sl → World → Prop) (ρ : Sl) (w : World) : sx z Tryz.prog 14 limits_product_int_R5 K ρ w = limits_product_int_R5_F z K ρ w := by kernel_rfl
theorem limits_product_int_R5_ok : dstOk 14 limits_product_int_R5 = true := by kernel_rfl
theorem limits_product_int_parts : limits_product_int_b = (Code.seq limits_product_int_R0 (Code.seq limits_product_int_R1 (Code.seq (Code.seq limits_product_int_R2 (Code.block 0 (Code.rangeFunc limits_product_int_g limits_product_int_ps limits_product_int_R3 limits_product_int_R4))) limits_product_int_R5))) := by kernel_rfl
/-- dispatcher/dispatcherref30.mul -/
noncomputable def dispatcherref30_mul_b : Code := (Tryz.f37.body).getD .skip
noncomputable def dispatcherref30_mul_F (a0 a1 : Value) (w : World) (R : Value → World → Prop) : Prop :=
  BK Tryz.prog BinOp.geq 3 (Operand.tmp 5) (Operand.const (Value.int IntKind.i64 1048576)) a0 (Value.int IntKind.i64 1048576) w fun x6 w => MG Tryz.prog x6 false a1 w fun x8 w => BG Tryz.prog x6 false BinOp.geq 3 (Operand.tmp 8) (Operand.const (Value.int IntKind.i64 1048576)) x8 (Value.int IntKind.i64 1048576) w fun x9 w => PK Tryz.prog x6 (Value.bool true) x9 w fun x10 w => MG Tryz.prog x10 false a0 w fun x12 w => MG Tryz.prog x10 false a1 w fun x13 w => BG Tryz.prog x10 false BinOp.mul 3 (Operand.tmp 12) (Operand.tmp 13) x12 x13 w fun x14 w => BG Tryz.prog x10 false BinOp.geq 3 (Operand.tmp 14) (Operand.const (Value.int IntKind.i64 1048576)) x14 (Value.int IntKind.i64 1048576) w fun x15 w => PK Tryz.prog x10 (Value.bool true) x15 w fun x16 w => CondK x16 (R (Value.int IntKind.i64 1048576) w) (BK Tryz.prog BinOp.mul 3 (Operand.tmp 17) (Operand.tmp 18) a0 a1 w fun x19 w => R x19 w)
theorem dispatcherref30_mul_eq (a0 a1 : Value) (w : World) (R : Value → World → Prop) : sx fn_ Tryz.prog 20 dispatcherref30_mul_b (retK Tryz.prog Tryz.f37.results.toList R) (rho0 [a0, a1]) w = dispatcherref30_mul_F a0 a1 w R := by kernel_rfl
theorem dispatcherref30_mul_calls {a0 a1 : Value} {w : World} {R : Value → World → Prop} (h : dispatcherref30_mul_F a0 a1 w R) : Calls Tryz.prog 37 #[a0, a1] w fun e w' => ∃ v, e = .returned v ∧ R v w' :=
  Go.X.calls_of_sx (n := 20) (c := dispatcherref30_mul_b) Tryz.func37 (by kernel_rfl) (by kernel_rfl) (Nat.le_of_ble_eq_true rfl) (by kernel_rfl) (Eq.mpr (dispatcherref30_mul_eq a0 a1 w R) h)
/-- dispatcher/dispatcherref30.power -/
noncomputable def dispatcherref30_power_b : Code := (Tryz.f22.body).getD .skip
noncomputable def dispatcherref30_power_L0 : Code := cAt [1, 1, 0, 1, 0, 0] dispatcherref30_power_b
noncomputable def dispatcherref30_power_R1 : Code := cAt [1, 1, 1] dispatcherref30_power_b
noncomputable def dispatcherref30_power_L0_F (z : At) (K : Exit → Sl → World → Prop) (ρ : Sl) (w : World) : Prop :=
  BK Tryz.prog BinOp.lss 3 (Operand.tmp 7) (Operand.tmp 8) (ρ 6) (ρ 1) w fun x9 w => MG Tryz.prog x9 true (ρ 5) w fun x11 w => BG Tryz.prog x9 true BinOp.lss 3 (Operand.tmp 11) (Operand.const (Value.int IntKind.i64 1048576)) x11 (Value.int IntKind.i64 1048576) w fun x12 w => PK Tryz.prog x9 x12 (Value.bool false) w fun x13 w => MG Tryz.prog x13 true (ρ 0) w fun x15 w => BG Tryz.prog x13 true BinOp.gtr 3 (Operand.tmp 15) (Operand.const (Value.int IntKind.i64 1)) x15 (Value.int IntKind.i64 1) w fun x16 w => PK Tryz.prog x13 x16 (Value.bool false) w fun x17 w => CondK x17 (CK Tryz.prog (Value.func (Fn.func 37) #[] #[]) [(ρ 5), (ρ 0)] w fun x22 w => BK Tryz.prog BinOp.add 3 (Operand.tmp 18) (Operand.const (Value.int IntKind.i64 1)) (ρ 6) (Value.int IntKind.i64 1) w fun x19 w => K Exit.normal (up (up (up (up (up (up (up (up (up (up (up (up (up (up (up (up (up (up ρ 7 (ρ 6)) 8 (ρ 1)) 9 x9) 10 x9) 11 x11) 12 x12) 13 x13) 14 x13) 15 x15) 16 x16) 17 x17) 20 (ρ 5)) 21 (ρ 0)) 22 x22) 5 x22) 18 (ρ 6)) 19 x19) 6 x19) w) (K (Exit.exit 0) (up (up (up (up (up (up (up (up (up (up (up ρ 7 (ρ 6)) 8 (ρ 1)) 9 x9) 10 x9) 11 x11) 12 x12) 13 x13) 14 x13) 15 x15) 16 x16) 17 x17) w)
theorem dispatcherref30_power_L0_eq (z : At) (K : Exit → Sl → World → Prop) (ρ : Sl) (w : World) : sx z Tryz.prog 24 dispatcherref30_power_L0 K ρ w = dispatcherref30_power_L0_F z K ρ w := by kernel_rfl
theorem dispatcherref30_power_L0_ok : dstOk 24 dispatcherref30_power_L0 = true := by kernel_rfl
noncomputable def dispatcherref30_power_R1_F (z : At) (K : Exit → Sl → World → Prop) (ρ : Sl) (w : World) : Prop :=
  K Exit.ret (up (up ρ 23 (ρ 5)) 4 (ρ 5)) w
theorem dispatcherref30_power_R1_eq (z : At) (K : Exit → Sl → World → Prop) (ρ : Sl) (w : World) : sx z Tryz.prog 24 dispatcherref30_power_R1 K ρ w = dispatcherref30_power_R1_F z K ρ w := by kernel_rfl
noncomputable def dispatcherref30_power_F (a0 a1 : Value) (w : World) (R : Value → World → Prop) : Prop :=
  W fn_ Tryz.prog 24 (Code.loop dispatcherref30_power_L0) (blkK 0 (seqK (sx fn_ Tryz.prog 24 dispatcherref30_power_R1 (retK Tryz.prog [ResultVar.tmp 4] R)) (retK Tryz.prog [ResultVar.tmp 4] R))) (up (up (up (rho0 [a0, a1]) 4 (Value.int IntKind.i64 0)) 5 (Value.int IntKind.i64 1)) 6 (Value.int IntKind.i64 0)) w
theorem dispatcherref30_power_eq (a0 a1 : Value) (w : World) (R : Value → World → Prop) : sx fn_ Tryz.prog 24 dispatcherref30_power_b (retK Tryz.prog Tryz.f22.results.toList R) (rho0 [a0, a1]) w = dispatcherref30_power_F a0 a1 w R := by kernel_rfl
theorem dispatcherref30_power_calls {a0 a1 : Value} {w : World} {R : Value → World → Prop} (h : dispatcherref30_power_F a0 a1 w R) : Calls Tryz.prog 22 #[a0, a1] w fun e w' => ∃ v, e = .returned v ∧ R v w' :=
  Go.X.calls_of_sx (n := 24) (c := dispatcherref30_power_b) Tryz.func22 (by kernel_rfl) (by kernel_rfl) (Nat.le_of_ble_eq_true rfl) (by kernel_rfl) (Eq.mpr (dispatcherref30_power_eq a0 a1 w R) h)
/-- dispatcher/dispatcherref30.Stmts -/
noncomputable def dispatcherref30_Stmts_b : Code := (Tryz.f23.body).getD .skip
noncomputable def dispatcherref30_Stmts_L0 : Code := cAt [1, 1, 0, 1, 0, 0] dispatcherref30_Stmts_b
noncomputable def dispatcherref30_Stmts_R1 : Code := cAt [1, 1, 1] dispatcherref30_Stmts_b
noncomputable def dispatcherref30_Stmts_L0_F (z : At) (K : Exit → Sl → World → Prop) (ρ : Sl) (w : World) : Prop :=
  IK Tryz.prog Builtin.len #[23] 3 [false] [(ρ 0)] w fun x9 w => BK Tryz.prog BinOp.lss 3 (Operand.tmp 7) (Operand.tmp 9) (ρ 6) x9 w fun x10 w => CondK x10 (VK Tryz.prog (Instr.indexAt 23 (ρ 0) (ρ 6)) w fun x16 w => VK Tryz.prog (Instr.loadAt 62 x16) w fun x17 w => CK Tryz.prog (Value.func (Fn.func 38) #[] #[]) [x17, (ρ 1)] w fun x19 w => CK Tryz.prog (Value.func (Fn.func 37) #[] #[]) [(ρ 5), x19] w fun x20 w => BK Tryz.prog BinOp.add 3 (Operand.tmp 11) (Operand.const (Value.int IntKind.i64 1)) (ρ 6) (Value.int IntKind.i64 1) w fun x12 w => K Exit.normal (up (up (up (up (up (up (up (up (up (up (up (up (up (up (up (up ρ 7 (ρ 6)) 8 (ρ 0)) 9 x9) 10 x10) 13 (ρ 5)) 14 (ρ 0)) 15 (ρ 6)) 16 x16) 17 x17) 18 (ρ 1)) 19 x19) 20 x20) 5 x20) 11 (ρ 6)) 12 x12) 6 x12) w) (K (Exit.exit 0) (up (up (up (up ρ 7 (ρ 6)) 8 (ρ 0)) 9 x9) 10 x10) w)
theorem dispatcherref30_Stmts_L0_eq (z : At) (K : Exit → Sl → World → Prop) (ρ : Sl) (w : World) : sx z Tryz.prog 22 dispatcherref30_Stmts_L0 K ρ w = dispatcherref30_Stmts_L0_F z K ρ w := by kernel_rfl
theorem dispatcherref30_Stmts_L0_ok : dstOk 22 dispatcherref30_Stmts_L0 = true := by kernel_rfl
noncomputable def dispatcherref30_Stmts_R1_F (z : At) (K : Exit → Sl → World → Prop) (ρ : Sl) (w : World) : Prop :=
  K Exit.ret (up (up ρ 21 (ρ 5)) 4 (ρ 5)) w
theorem dispatcherref30_Stmts_R1_eq (z : At) (K : Exit → Sl → World → Prop) (ρ : Sl) (w : World) : sx z Tryz.prog 22 dispatcherref30_Stmts_R1 K ρ w = dispatcherref30_Stmts_R1_F z K ρ w := by kernel_rfl
noncomputable def dispatcherref30_Stmts_F (a0 a1 : Value) (w : World) (R : Value → World → Prop) : Prop :=
  W fn_ Tryz.prog 22 (Code.loop dispatcherref30_Stmts_L0) (blkK 0 (seqK (sx fn_ Tryz.prog 22 dispatcherref30_Stmts_R1 (retK Tryz.prog [ResultVar.tmp 4] R)) (retK Tryz.prog [ResultVar.tmp 4] R))) (up (up (up (rho0 [a0, a1]) 4 (Value.int IntKind.i64 0)) 5 (Value.int IntKind.i64 1)) 6 (Value.int IntKind.i64 0)) w
theorem dispatcherref30_Stmts_eq (a0 a1 : Value) (w : World) (R : Value → World → Prop) : sx fn_ Tryz.prog 22 dispatcherref30_Stmts_b (retK Tryz.prog Tryz.f23.results.toList R) (rho0 [a0, a1]) w = dispatcherref30_Stmts_F a0 a1 w R := by kernel_rfl
theorem dispatcherref30_Stmts_calls {a0 a1 : Value} {w : World} {R : Value → World → Prop} (h : dispatcherref30_Stmts_F a0 a1 w R) : Calls Tryz.prog 23 #[a0, a1] w fun e w' => ∃ v, e = .returned v ∧ R v w' :=
  Go.X.calls_of_sx (n := 22) (c := dispatcherref30_Stmts_b) Tryz.func23 (by kernel_rfl) (by kernel_rfl) (Nat.le_of_ble_eq_true rfl) (by kernel_rfl) (Eq.mpr (dispatcherref30_Stmts_eq a0 a1 w R) h)
/-- dispatcher/dispatcherref30.stmt -/
noncomputable def dispatcherref30_stmt_b : Code := (Tryz.f38.body).getD .skip
noncomputable def dispatcherref30_stmt_R0 : Code := cAt [1, 0, 1, 0, 1, 0, 0] dispatcherref30_stmt_b
noncomputable def dispatcherref30_stmt_R1 : Code := cAt [1, 0, 1, 0, 1, 0, 1] dispatcherref30_stmt_b
noncomputable def dispatcherref30_stmt_R2 : Code := cAt [1, 1] dispatcherref30_stmt_b
noncomputable def dispatcherref30_stmt_R3 : Code := cAt [1, 0, 1, 0, 1, 1, 1, 1, 1, 0, 1, 0] dispatcherref30_stmt_b
noncomputable def dispatcherref30_stmt_R4 : Code := cAt [1, 0, 1, 0, 1, 1, 1, 1, 1, 0, 1, 1] dispatcherref30_stmt_b
noncomputable def dispatcherref30_stmt_R0_ops : Array Oper := opsOf dispatcherref30_stmt_R0
def dispatcherref30_stmt_R0_Q (C : World → Prop) (K : Exit → Sl → World → Prop) (ρ : Sl) : Prop :=
  QK Tryz.prog C (do pure (Next.value (← Instr.fieldAt 62 (ρ 2) 6))) fun x9 => QK Tryz.prog C (do pure (Next.value (← Instr.loadAt 23 x9))) fun x10 => QK Tryz.prog C (do let d ← Deferred.ofValue (Value.func (Fn.func 23) #[] #[]) [x10, (ρ 1)].toArray; invoke d.target d.args) fun x12 => QK Tryz.prog C (do pure (Next.value (← Instr.fieldAt 62 (ρ 2) 7))) fun x13 => QK Tryz.prog C (do pure (Next.value (← Instr.loadAt 23 x13))) fun x14 => QK Tryz.prog C (do let d ← Deferred.ofValue (Value.func (Fn.func 23) #[] #[]) [x14, (ρ 1)].toArray; invoke d.target d.args) fun x16 => QK Tryz.prog C (builtin Builtin.max #[3, 3] 3 [false, false].toArray [x12, x16].toArray) fun x17 => ∀ w', C w' → K Exit.normal (up (up (up (up (up (up (up (up (up (up ρ 9 x9) 10 x10) 11 (ρ 1)) 12 x12) 13 x13) 14 x14) 15 (ρ 1)) 16 x16) 17 x17) 4 x17) w'
theorem dispatcherref30_stmt_R0_quiet {D : List Deferred} (C : World → Prop) {K : Exit → Sl → World → Prop} {ρ : Sl} {w : World} (hC : C { w with drawn := w.drawn + 1 }) (h : dispatcherref30_stmt_R0_Q C K ρ) : W ⟨none, D⟩ Tryz.prog 68 dispatcherref30_stmt_R0 K ρ w := by
  have e : dispatcherref30_stmt_R0 = .region (idOf dispatcherref30_stmt_R0) dispatcherref30_stmt_R0_ops true := by kernel_rfl
  have q : sxq Tryz.prog C dispatcherref30_stmt_R0_ops (fun ρ' => ∀ w', C w' → K .normal ρ' w') dispatcherref30_stmt_R0_ops.toList ρ = dispatcherref30_stmt_R0_Q C K ρ := by kernel_rfl
  rw [e]
  exact W_quiet C (by kernel_rfl) (by kernel_rfl) (by kernel_rfl) hC (Eq.mpr q h)
noncomputable def dispatcherref30_stmt_R1_F (z : At) (K : Exit → Sl → World → Prop) (ρ : Sl) (w : World) : Prop :=
  K Exit.ret ρ w
theorem dispatcherref30_stmt_R1_eq (z : At) (K : Exit → Sl → World → Prop) (ρ : Sl) (w : World) : sx z Tryz.prog 68 dispatcherref30_stmt_R1 K ρ w = dispatcherref30_stmt_R1_F z K ρ w := by kernel_rfl
noncomputable def dispatcherref30_stmt_R3_ops : Array Oper := opsOf dispatcherref30_stmt_R3
def dispatcherref30_stmt_R3_Q (C : World → Prop) (K : Exit → Sl → World → Prop) (ρ : Sl) : Prop :=
  QK Tryz.prog C (do pure (Next.value (← Instr.fieldAt 62 (ρ 2) 6))) fun x36 => QK Tryz.prog C (do pure (Next.value (← Instr.loadAt 23 x36))) fun x37 => QK Tryz.prog C (do let d ← Deferred.ofValue (Value.func (Fn.func 23) #[] #[]) [x37, (ρ 1)].toArray; invoke d.target d.args) fun x39 => QK Tryz.prog C (do pure (Next.value (← Instr.fieldAt 62 (ρ 2) 4))) fun x40 => QK Tryz.prog C (do pure (Next.value (← Instr.loadAt 3 x40))) fun x41 => QK Tryz.prog C (do let d ← Deferred.ofValue (Value.func (Fn.func 22) #[] #[]) [x39, x41].toArray; invoke d.target d.args) fun x42 => ∀ w', C w' → K Exit.normal (up (up (up (up (up (up (up (up ρ 36 x36) 37 x37) 38 (ρ 1)) 39 x39) 40 x40) 41 x41) 42 x42) 4 x42) w'
theorem dispatcherref30_stmt_R3_quiet {D : List Deferred} (C : World → Prop) {K : Exit → Sl → World → Prop} {ρ : Sl} {w : World} (hC : C { w with drawn := w.drawn + 1 }) (h : dispatcherref30_stmt_R3_Q C K ρ) : W ⟨none, D⟩ Tryz.prog 68 dispatcherref30_stmt_R3 K ρ w := by
  have e : dispatcherref30_stmt_R3 = .region (idOf dispatcherref30_stmt_R3) dispatcherref30_stmt_R3_ops true := by kernel_rfl
  have q : sxq Tryz.prog C dispatcherref30_stmt_R3_ops (fun ρ' => ∀ w', C w' → K .normal ρ' w') dispatcherref30_stmt_R3_ops.toList ρ = dispatcherref30_stmt_R3_Q C K ρ := by kernel_rfl
  rw [e]
  exact W_quiet C (by kernel_rfl) (by kernel_rfl) (by kernel_rfl) hC (Eq.mpr q h)
noncomputable def dispatcherref30_stmt_R4_F (z : At) (K : Exit → Sl → World → Prop) (ρ : Sl) (w : World) : Prop :=
  K Exit.ret ρ w
theorem dispatcherref30_stmt_R4_eq (z : At) (K : Exit → Sl → World → Prop) (ρ : Sl) (w : World) : sx z Tryz.prog 68 dispatcherref30_stmt_R4 K ρ w = dispatcherref30_stmt_R4_F z K ρ w := by kernel_rfl
noncomputable def dispatcherref30_stmt_F (a0 a1 : Value) (w : World) (R : Value → World → Prop) : Prop :=
  VK Tryz.prog (Instr.box 62 a0) w fun x2 w => VK Tryz.prog (Instr.fieldAt 62 x2 0) w fun x5 w => VK Tryz.prog (Instr.loadAt 5 x5) w fun x6 w => BK Tryz.prog BinOp.eql 5 (Operand.tmp 6) (Operand.const (Value.int IntKind.u8 3)) x6 (Value.int IntKind.u8 3) w fun x8 w => CondK x8 (W fn_ Tryz.prog 68 dispatcherref30_stmt_R0 (seqK (sx fn_ Tryz.prog 68 dispatcherref30_stmt_R1 (blkK 0 (seqK (sx fn_ Tryz.prog 68 dispatcherref30_stmt_R2 (retK Tryz.prog [ResultVar.tmp 4] R)) (retK Tryz.prog [ResultVar.tmp 4] R)))) (blkK 0 (seqK (sx fn_ Tryz.prog 68 dispatcherref30_stmt_R2 (retK Tryz.prog [ResultVar.tmp 4] R)) (retK Tryz.prog [ResultVar.tmp 4] R)))) (up (up (up (up (up (up (rho0 [a0, a1]) 2 x2) 4 (Value.int IntKind.i64 0)) 5 x5) 6 x6) 8 x8) 7 x8) w) (BK Tryz.prog BinOp.eql 5 (Operand.tmp 6) (Operand.const (Value.int IntKind.u8 4)) x6 (Value.int IntKind.u8 4) w fun x19 w => CondK x19 (VK Tryz.prog (Instr.fieldAt 62 x2 6) w fun x20 w => VK Tryz.prog (Instr.loadAt 23 x20) w fun x21 w => CK Tryz.prog (Value.func (Fn.func 23) #[] #[]) [x21, a1] w fun x23 w => BK Tryz.prog BinOp.gtr 3 (Operand.tmp 23) (Operand.const (Value.int IntKind.i64 1)) x23 (Value.int IntKind.i64 1) w fun x24 w => CondK x24 (R (Value.int IntKind.i64 1048576) w) (R (Value.int IntKind.i64 1) w)) (BK Tryz.prog BinOp.eql 5 (Operand.tmp 6) (Operand.const (Value.int IntKind.u8 5)) x6 (Value.int IntKind.u8 5) w fun x26 w => CondK x26 (VK Tryz.prog (Instr.fieldAt 62 x2 4) w fun x27 w => VK Tryz.prog (Instr.loadAt 3 x27) w fun x28 w => BK Tryz.prog BinOp.eql 3 (Operand.tmp 28) (Operand.const (Value.int IntKind.i64 0)) x28 (Value.int IntKind.i64 0) w fun x29 w => CondK x29 (VK Tryz.prog (Instr.fieldAt 62 x2 6) w fun x30 w => VK Tryz.prog (Instr.loadAt 23 x30) w fun x31 w => CK Tryz.prog (Value.func (Fn.func 23) #[] #[]) [x31, a1] w fun x33 w => CK Tryz.prog (Value.func (Fn.func 22) #[] #[]) [x33, a1] w fun x35 w => R x35 w) (W fn_ Tryz.prog 68 dispatcherref30_stmt_R3 (seqK (sx fn_ Tryz.prog 68 dispatcherref30_stmt_R4 (blkK 0 (seqK (sx fn_ Tryz.prog 68 dispatcherref30_stmt_R2 (retK Tryz.prog [ResultVar.tmp 4] R)) (retK Tryz.prog [ResultVar.tmp 4] R)))) (blkK 0 (seqK (sx fn_ Tryz.prog 68 dispatcherref30_stmt_R2 (retK Tryz.prog [ResultVar.tmp 4] R)) (retK Tryz.prog [ResultVar.tmp 4] R)))) (up (up (up (up (up (up (up (up (up (up (up (up (up (rho0 [a0, a1]) 2 x2) 4 (Value.int IntKind.i64 0)) 5 x5) 6 x6) 8 x8) 7 x8) 19 x19) 18 x19) 26 x26) 25 x26) 27 x27) 28 x28) 29 x29) w)) (VK Tryz.prog (Instr.loadAt 62 x2) w fun x43 w => CK Tryz.prog (Value.func (Fn.func 56) #[] #[]) [x43] w fun x44 w => VK Tryz.prog (Op.unary UnOp.not x44) w fun x45 w => CondK x45 (R (Value.int IntKind.i64 1) w) (VK Tryz.prog (Instr.fieldAt 62 x2 1) w fun x46 w => VK Tryz.prog (Instr.loadAt 5 x46) w fun x47 w => BK Tryz.prog BinOp.eql 5 (Operand.tmp 47) (Operand.const (Value.int IntKind.u8 11)) x47 (Value.int IntKind.u8 11) w fun x49 w => CondK x49 (R (Value.int IntKind.i64 3) w) (BK Tryz.prog BinOp.eql 5 (Operand.tmp 47) (Operand.const (Value.int IntKind.u8 14)) x47 (Value.int IntKind.u8 14) w fun x51 w => CondK x51 (BK Tryz.prog BinOp.add 3 (Operand.tmp 52) (Operand.const (Value.int IntKind.i64 2)) a1 (Value.int IntKind.i64 2) w fun x53 w => R x53 w) (BK Tryz.prog BinOp.eql 5 (Operand.tmp 47) (Operand.const (Value.int IntKind.u8 10)) x47 (Value.int IntKind.u8 10) w fun x55 w => CondK x55 (VK Tryz.prog (Instr.fieldAt 62 x2 5) w fun x56 w => VK Tryz.prog (Instr.loadAt 60 x56) w fun x57 w => IK Tryz.prog Builtin.len #[60] 3 [false] [x57] w fun x58 w => BK Tryz.prog BinOp.add 3 (Operand.tmp 58) (Operand.const (Value.int IntKind.i64 1)) x58 (Value.int IntKind.i64 1) w fun x59 w => R x59 w) (BK Tryz.prog BinOp.eql 5 (Operand.tmp 47) (Operand.const (Value.int IntKind.u8 12)) x47 (Value.int IntKind.u8 12) w fun x61 w => CondK x61 (VK Tryz.prog (Instr.fieldAt 62 x2 5) w fun x62 w => VK Tryz.prog (Instr.loadAt 60 x62) w fun x63 w => IK Tryz.prog Builtin.len #[60] 3 [false] [x63] w fun x64 w => BK Tryz.prog BinOp.add 3 (Operand.tmp 64) (Operand.const (Value.int IntKind.i64 2)) x64 (Value.int IntKind.i64 2) w fun x65 w => R x65 w) (BK Tryz.prog BinOp.add 3 (Operand.tmp 66) (Operand.const (Value.int IntKind.i64 1)) a1 (Value.int IntKind.i64 1) w fun x67 w => R x67 w))))))))
theorem dispatcherref30_stmt_eq (a0 a1 : Value) (w : World) (R : Value → World → Prop) : sx fn_ Tryz.prog 68 dispatcherref30_stmt_b (retK Tryz.prog Tryz.f38.results.toList R) (rho0 [a0, a1]) w = dispatcherref30_stmt_F a0 a1 w R := by kernel_rfl
theorem dispatcherref30_stmt_calls {a0 a1 : Value} {w : World} {R : Value → World → Prop} (h : dispatcherref30_stmt_F a0 a1 w R) : Calls Tryz.prog 38 #[a0, a1] w fun e w' => ∃ v, e = .returned v ∧ R v w' :=
  Go.X.calls_of_sx (n := 68) (c := dispatcherref30_stmt_b) Tryz.func38 (by kernel_rfl) (by kernel_rfl) (Nat.le_of_ble_eq_true rfl) (by kernel_rfl) (Eq.mpr (dispatcherref30_stmt_eq a0 a1 w R) h)
/-- dispatcher/dispatcherref30.Runs -/
noncomputable def dispatcherref30_Runs_b : Code := (Tryz.f8.body).getD .skip
noncomputable def dispatcherref30_Runs_F (a0 a1 : Value) (w : World) (R : Value → World → Prop) : Prop :=
  VK Tryz.prog (Instr.box 25 a0) w fun x2 w => VK Tryz.prog (Instr.loadAt 25 x2) w fun x10 w => CK Tryz.prog (Value.func (Fn.func 21) #[] #[]) [x10, a1] w fun x12 w => VK Tryz.prog (Instr.extract x12 0) w fun x13 w => VK Tryz.prog (Instr.extract x12 1) w fun x14 w => VK Tryz.prog (Instr.alloc 42 true (.tuple #[])) w fun x6 w => UK Tryz.prog (Instr.storeAt 42 x6 x13) w fun _ w => BK Tryz.prog BinOp.neq 3 (Operand.tmp 15) (Operand.const (Value.int IntKind.i64 0)) x14 (Value.int IntKind.i64 0) w fun x16 w => CondK x16 (R (Value.tuple #[(Value.int IntKind.i64 0), x14]) w) (VK Tryz.prog (Instr.fieldAt 25 x2 1) w fun x18 w => VK Tryz.prog (Instr.loadAt 23 x18) w fun x19 w => CK Tryz.prog (Value.func (Fn.func 23) #[] #[]) [x19, a1] w fun x21 w => CK Tryz.prog (Value.func (Fn.func 22) #[] #[]) [x21, a1] w fun x23 w => BK Tryz.prog BinOp.gtr 3 (Operand.tmp 24) (Operand.const (Value.int IntKind.i64 65536)) x23 (Value.int IntKind.i64 65536) w fun x25 w => CondK x25 (R (Value.tuple #[(Value.int IntKind.i64 0), (Value.int IntKind.i64 90)]) w) (R (Value.tuple #[x23, (Value.int IntKind.i64 0)]) w))
theorem dispatcherref30_Runs_eq (a0 a1 : Value) (w : World) (R : Value → World → Prop) : sx fn_ Tryz.prog 27 dispatcherref30_Runs_b (retK Tryz.prog Tryz.f8.results.toList R) (rho0 [a0, a1]) w = dispatcherref30_Runs_F a0 a1 w R := by kernel_rfl
theorem dispatcherref30_Runs_calls {a0 a1 : Value} {w : World} {R : Value → World → Prop} (h : dispatcherref30_Runs_F a0 a1 w R) : Calls Tryz.prog 8 #[a0, a1] w fun e w' => ∃ v, e = .returned v ∧ R v w' :=
  Go.X.calls_of_sx (n := 27) (c := dispatcherref30_Runs_b) Tryz.func8 (by kernel_rfl) (by kernel_rfl) (Nat.le_of_ble_eq_true rfl) (by kernel_rfl) (Eq.mpr (dispatcherref30_Runs_eq a0 a1 w R) h)
/-- dispatcher/dispatcherref30.Steps -/
noncomputable def dispatcherref30_Steps_b : Code := (Tryz.f10.body).getD .skip
noncomputable def dispatcherref30_Steps_R0 : Code := cAt [1, 1, 1, 1, 0, 1] dispatcherref30_Steps_b
noncomputable def dispatcherref30_Steps_R1 : Code := cAt [1, 1, 1, 1, 1] dispatcherref30_Steps_b
noncomputable def dispatcherref30_Steps_R0_F (z : At) (K : Exit → Sl → World → Prop) (ρ : Sl) (w : World) : Prop :=
  CondK (ρ 28) (K Exit.ret (up (up ρ 4 (Value.int IntKind.i64 0)) 5 (Value.int IntKind.i64 90)) w) (K Exit.normal ρ w)
theorem dispatcherref30_Steps_R0_eq (z : At) (K : Exit → Sl → World → Prop) (ρ : Sl) (w : World) : sx z Tryz.prog 30 dispatcherref30_Steps_R0 K ρ w = dispatcherref30_Steps_R0_F z K ρ w := by kernel_rfl
noncomputable def dispatcherref30_Steps_R1_F (z : At) (K : Exit → Sl → World → Prop) (ρ : Sl) (w : World) : Prop :=
  K Exit.ret (up (up (up ρ 29 (ρ 8)) 4 (ρ 8)) 5 (Value.int IntKind.i64 0)) w
theorem dispatcherref30_Steps_R1_eq (z : At) (K : Exit → Sl → World → Prop) (ρ : Sl) (w : World) : sx z Tryz.prog 30 dispatcherref30_Steps_R1 K ρ w = dispatcherref30_Steps_R1_F z K ρ w := by kernel_rfl
noncomputable def dispatcherref30_Steps_F (a0 a1 : Value) (w : World) (R : Value → World → Prop) : Prop :=
  VK Tryz.prog (Instr.box 25 a0) w fun x2 w => VK Tryz.prog (Instr.loadAt 25 x2) w fun x10 w => CK Tryz.prog (Value.func (Fn.func 21) #[] #[]) [x10, a1] w fun x12 w => VK Tryz.prog (Instr.extract x12 0) w fun x13 w => VK Tryz.prog (Instr.extract x12 1) w fun x14 w => VK Tryz.prog (Instr.alloc 42 true (.tuple #[])) w fun x6 w => UK Tryz.prog (Instr.storeAt 42 x6 x13) w fun _ w => BK Tryz.prog BinOp.neq 3 (Operand.tmp 15) (Operand.const (Value.int IntKind.i64 0)) x14 (Value.int IntKind.i64 0) w fun x16 w => CondK x16 (R (Value.tuple #[(Value.int IntKind.i64 0), x14]) w) (VK Tryz.prog (Instr.fieldAt 42 x6 0) w fun x18 w => VK Tryz.prog (Instr.loadAt 3 x18) w fun x19 w => VK Tryz.prog (Instr.fieldAt 42 x6 1) w fun x21 w => VK Tryz.prog (Instr.loadAt 3 x21) w fun x22 w => BK Tryz.prog BinOp.mul 3 (Operand.const (Value.int IntKind.i64 2)) (Operand.tmp 22) (Value.int IntKind.i64 2) x22 w fun x23 w => BK Tryz.prog BinOp.add 3 (Operand.tmp 23) (Operand.const (Value.int IntKind.i64 1)) x23 (Value.int IntKind.i64 1) w fun x24 w => BK Tryz.prog BinOp.mul 3 (Operand.tmp 20) (Operand.tmp 24) a1 x24 w fun x25 w => IK Tryz.prog Builtin.max #[3, 3] 3 [false, false] [x19, x25] w fun x26 w => BK Tryz.prog BinOp.gtr 3 (Operand.tmp 27) (Operand.const (Value.int IntKind.i64 1048576)) x26 (Value.int IntKind.i64 1048576) w fun x28 w => sx fn_ Tryz.prog 30 dispatcherref30_Steps_R0 (seqK (sx fn_ Tryz.prog 30 dispatcherref30_Steps_R1 (retK Tryz.prog [ResultVar.tmp 4, ResultVar.tmp 5] R)) (retK Tryz.prog [ResultVar.tmp 4, ResultVar.tmp 5] R)) (up (up (up (up (up (up (up (up (up (up (up (up (up (up (up (up (up (up (up (up (up (up (up (up (up (rho0 [a0, a1]) 2 x2) 4 (Value.int IntKind.i64 0)) 5 (Value.int IntKind.i64 0)) 10 x10) 11 a1) 12 x12) 9 x12) 13 x13) 14 x14) 6 x6) 7 x14) 15 x14) 16 x16) 18 x18) 19 x19) 20 a1) 21 x21) 22 x22) 23 x23) 24 x24) 25 x25) 26 x26) 8 x26) 27 x26) 28 x28) w)
theorem dispatcherref30_Steps_eq (a0 a1 : Value) (w : World) (R : Value → World → Prop) : sx fn_ Tryz.prog 30 dispatcherref30_Steps_b (retK Tryz.prog Tryz.f10.results.toList R) (rho0 [a0, a1]) w = dispatcherref30_Steps_F a0 a1 w R := by kernel_rfl
theorem dispatcherref30_Steps_calls {a0 a1 : Value} {w : World} {R : Value → World → Prop} (h : dispatcherref30_Steps_F a0 a1 w R) : Calls Tryz.prog 10 #[a0, a1] w fun e w' => ∃ v, e = .returned v ∧ R v w' :=
  Go.X.calls_of_sx (n := 30) (c := dispatcherref30_Steps_b) Tryz.func10 (by kernel_rfl) (by kernel_rfl) (Nat.le_of_ble_eq_true rfl) (by kernel_rfl) (Eq.mpr (dispatcherref30_Steps_eq a0 a1 w R) h)
/-- dispatcher/dispatcherref30.Enough -/
noncomputable def dispatcherref30_Enough_b : Code := (Tryz.f12.body).getD .skip
noncomputable def dispatcherref30_Enough_R0 : Code := cAt [1, 1, 1, 0, 1] dispatcherref30_Enough_b
noncomputable def dispatcherref30_Enough_R1 : Code := cAt [1, 1, 1, 1] dispatcherref30_Enough_b
noncomputable def dispatcherref30_Enough_R0_F (z : At) (K : Exit → Sl → World → Prop) (ρ : Sl) (w : World) : Prop :=
  CondK (ρ 25) (K Exit.normal (up (up ρ 26 (ρ 9)) 7 (ρ 9)) w) (K Exit.normal ρ w)
theorem dispatcherref30_Enough_R0_eq (z : At) (K : Exit → Sl → World → Prop) (ρ : Sl) (w : World) : sx z Tryz.prog 36 dispatcherref30_Enough_R0 K ρ w = dispatcherref30_Enough_R0_F z K ρ w := by kernel_rfl
noncomputable def dispatcherref30_Enough_R1_F (z : At) (K : Exit → Sl → World → Prop) (ρ : Sl) (w : World) : Prop :=
  BK Tryz.prog BinOp.neq 3 (Operand.tmp 27) (Operand.const (Value.int IntKind.i64 0)) (ρ 7) (Value.int IntKind.i64 0) w fun x28 w => CondK x28 (VK Tryz.prog (Instr.build 34 [].toArray) w fun x29 w => UK Tryz.prog (Instr.storeAt 34 (ρ 4) x29) w fun _ w => K Exit.ret (up (up (up (up (up ρ 27 (ρ 7)) 28 x28) 29 x29) 30 (ρ 7)) 5 (ρ 7)) w) (VK Tryz.prog (Instr.fieldAt 34 (ρ 3) 4) w fun x32 w => UK Tryz.prog (Instr.storeAt 3 x32 (ρ 6)) w fun _ w => VK Tryz.prog (Instr.fieldAt 34 (ρ 3) 5) w fun x34 w => UK Tryz.prog (Instr.storeAt 3 x34 (ρ 8)) w fun _ w => VK Tryz.prog (Instr.loadAt 34 (ρ 3)) w fun x35 w => UK Tryz.prog (Instr.storeAt 34 (ρ 4) x35) w fun _ w => K Exit.ret (up (up (up (up (up (up (up (up ρ 27 (ρ 7)) 28 x28) 31 (ρ 6)) 32 x32) 33 (ρ 8)) 34 x34) 35 x35) 5 (Value.int IntKind.i64 0)) w)
theorem dispatcherref30_Enough_R1_eq (z : At) (K : Exit → Sl → World → Prop) (ρ : Sl) (w : World) : sx z Tryz.prog 36 dispatcherref30_Enough_R1 K ρ w = dispatcherref30_Enough_R1_F z K ρ w := by kernel_rfl
noncomputable def dispatcherref30_Enough_F (a0 a1 : Value) (w : World) (R : Value → World → Prop) : Prop :=
  VK Tryz.prog (Instr.box 25 a0) w fun x2 w => VK Tryz.prog (Instr.box 34 a1) w fun x3 w => VK Tryz.prog (Instr.alloc 34 true (.tuple #[])) w fun x4 w => VK Tryz.prog (Instr.loadAt 25 x2) w fun x11 w => VK Tryz.prog (Instr.fieldAt 34 x3 0) w fun x12 w => VK Tryz.prog (Instr.loadAt 3 x12) w fun x13 w => CK Tryz.prog (Value.func (Fn.func 8) #[] #[]) [x11, x13] w fun x14 w => VK Tryz.prog (Instr.extract x14 0) w fun x15 w => VK Tryz.prog (Instr.extract x14 1) w fun x16 w => VK Tryz.prog (Instr.loadAt 25 x2) w fun x18 w => VK Tryz.prog (Instr.fieldAt 34 x3 0) w fun x19 w => VK Tryz.prog (Instr.loadAt 3 x19) w fun x20 w => CK Tryz.prog (Value.func (Fn.func 10) #[] #[]) [x18, x20] w fun x21 w => VK Tryz.prog (Instr.extract x21 0) w fun x22 w => VK Tryz.prog (Instr.extract x21 1) w fun x23 w => BK Tryz.prog BinOp.eql 3 (Operand.tmp 24) (Operand.const (Value.int IntKind.i64 0)) x16 (Value.int IntKind.i64 0) w fun x25 w => sx fn_ Tryz.prog 36 dispatcherref30_Enough_R0 (seqK (sx fn_ Tryz.prog 36 dispatcherref30_Enough_R1 (retK Tryz.prog [ResultVar.cell 4 34, ResultVar.tmp 5] R)) (retK Tryz.prog [ResultVar.cell 4 34, ResultVar.tmp 5] R)) (up (up (up (up (up (up (up (up (up (up (up (up (up (up (up (up (up (up (up (up (up (up (up (up (rho0 [a0, a1]) 2 x2) 3 x3) 4 x4) 5 (Value.int IntKind.i64 0)) 11 x11) 12 x12) 13 x13) 14 x14) 10 x14) 15 x15) 16 x16) 6 x15) 7 x16) 18 x18) 19 x19) 20 x20) 21 x21) 17 x21) 22 x22) 23 x23) 8 x22) 9 x23) 24 x16) 25 x25) w
theorem dispatcherref30_Enough_eq (a0 a1 : Value) (w : World) (R : Value → World → Prop) : sx fn_ Tryz.prog 36 dispatcherref30_Enough_b (retK Tryz.prog Tryz.f12.results.toList R) (rho0 [a0, a1]) w = dispatcherref30_Enough_F a0 a1 w R := by kernel_rfl
theorem dispatcherref30_Enough_calls {a0 a1 : Value} {w : World} {R : Value → World → Prop} (h : dispatcherref30_Enough_F a0 a1 w R) : Calls Tryz.prog 12 #[a0, a1] w fun e w' => ∃ v, e = .returned v ∧ R v w' :=
  Go.X.calls_of_sx (n := 36) (c := dispatcherref30_Enough_b) Tryz.func12 (by kernel_rfl) (by kernel_rfl) (Nat.le_of_ble_eq_true rfl) (by kernel_rfl) (Eq.mpr (dispatcherref30_Enough_eq a0 a1 w R) h)
/-- dispatcher/dispatcherref30.Fits -/
noncomputable def dispatcherref30_Fits_b : Code := (Tryz.f14.body).getD .skip
noncomputable def dispatcherref30_Fits_F (a0 a1 : Value) (w : World) (R : Value → World → Prop) : Prop :=
  VK Tryz.prog (Instr.box 25 a0) w fun x2 w => VK Tryz.prog (Instr.box 34 a1) w fun x3 w => VK Tryz.prog (Instr.loadAt 25 x2) w fun x8 w => VK Tryz.prog (Instr.loadAt 34 x3) w fun x9 w => CK Tryz.prog (Value.func (Fn.func 12) #[] #[]) [x8, x9] w fun x10 w => VK Tryz.prog (Instr.extract x10 0) w fun x11 w => VK Tryz.prog (Instr.extract x10 1) w fun x12 w => VK Tryz.prog (Instr.alloc 34 true (.tuple #[])) w fun x5 w => UK Tryz.prog (Instr.storeAt 34 x5 x11) w fun _ w => BK Tryz.prog BinOp.eql 3 (Operand.tmp 13) (Operand.const (Value.int IntKind.i64 0)) x12 (Value.int IntKind.i64 0) w fun x14 w => VG Tryz.prog x14 true (Instr.fieldAt 34 x3 4) w fun x16 w => VG Tryz.prog x14 true (Instr.loadAt 3 x16) w fun x17 w => VG Tryz.prog x14 true (Instr.fieldAt 34 x5 4) w fun x18 w => VG Tryz.prog x14 true (Instr.loadAt 3 x18) w fun x19 w => BG Tryz.prog x14 true BinOp.geq 3 (Operand.tmp 17) (Operand.tmp 19) x17 x19 w fun x20 w => PK Tryz.prog x14 x20 (Value.bool false) w fun x21 w => VG Tryz.prog x21 true (Instr.fieldAt 34 x3 4) w fun x23 w => VG Tryz.prog x21 true (Instr.loadAt 3 x23) w fun x24 w => BG Tryz.prog x21 true BinOp.leq 3 (Operand.tmp 24) (Operand.const (Value.int IntKind.i64 65536)) x24 (Value.int IntKind.i64 65536) w fun x25 w => PK Tryz.prog x21 x25 (Value.bool false) w fun x26 w => VG Tryz.prog x26 true (Instr.fieldAt 34 x3 5) w fun x28 w => VG Tryz.prog x26 true (Instr.loadAt 3 x28) w fun x29 w => VG Tryz.prog x26 true (Instr.fieldAt 34 x5 5) w fun x30 w => VG Tryz.prog x26 true (Instr.loadAt 3 x30) w fun x31 w => BG Tryz.prog x26 true BinOp.geq 3 (Operand.tmp 29) (Operand.tmp 31) x29 x31 w fun x32 w => PK Tryz.prog x26 x32 (Value.bool false) w fun x33 w => VG Tryz.prog x33 true (Instr.fieldAt 34 x3 5) w fun x35 w => VG Tryz.prog x33 true (Instr.loadAt 3 x35) w fun x36 w => BG Tryz.prog x33 true BinOp.leq 3 (Operand.tmp 36) (Operand.const (Value.int IntKind.i64 1048576)) x36 (Value.int IntKind.i64 1048576) w fun x37 w => PK Tryz.prog x33 x37 (Value.bool false) w fun x38 w => R x38 w
theorem dispatcherref30_Fits_eq (a0 a1 : Value) (w : World) (R : Value → World → Prop) : sx fn_ Tryz.prog 39 dispatcherref30_Fits_b (retK Tryz.prog Tryz.f14.results.toList R) (rho0 [a0, a1]) w = dispatcherref30_Fits_F a0 a1 w R := by kernel_rfl
theorem dispatcherref30_Fits_calls {a0 a1 : Value} {w : World} {R : Value → World → Prop} (h : dispatcherref30_Fits_F a0 a1 w R) : Calls Tryz.prog 14 #[a0, a1] w fun e w' => ∃ v, e = .returned v ∧ R v w' :=
  Go.X.calls_of_sx (n := 39) (c := dispatcherref30_Fits_b) Tryz.func14 (by kernel_rfl) (by kernel_rfl) (Nat.le_of_ble_eq_true rfl) (by kernel_rfl) (Eq.mpr (dispatcherref30_Fits_eq a0 a1 w R) h)
end Go.Proofs.YtpkfbaagpjdifaaGreatDoor.XI
set_option linter.unusedVariables false
set_option linter.unusedSimpArgs false
namespace Go.X
open Go Go.RowKit
section
variable {P : Program} {w : World} {K : Value → World → Prop}
theorem VGtt (s : Sem Value) : VG P (.bool true) true s w K = VK P s w K := by rw [VG_b]; rfl
theorem VGtf (s : Sem Value) : VG P (.bool true) false s w K = K undef w := by rw [VG_b]; rfl
theorem VGft (s : Sem Value) : VG P (.bool false) true s w K = K undef w := by rw [VG_b]; rfl
theorem VGff (s : Sem Value) : VG P (.bool false) false s w K = VK P s w K := by rw [VG_b]; rfl
theorem UGtt (s : Sem Unit) : UG P (.bool true) true s w K = UK P s w K := by rw [UG_b]; rfl
theorem UGtf (s : Sem Unit) : UG P (.bool true) false s w K = K undef w := by rw [UG_b]; rfl
theorem UGft (s : Sem Unit) : UG P (.bool false) true s w K = K undef w := by rw [UG_b]; rfl
theorem UGff (s : Sem Unit) : UG P (.bool false) false s w K = UK P s w K := by rw [UG_b]; rfl
theorem MGtt (v : Value) : MG P (.bool true) true v w K = K v w := by rw [MG_b]; rfl
theorem MGtf (v : Value) : MG P (.bool true) false v w K = K undef w := by rw [MG_b]; rfl
theorem MGft (v : Value) : MG P (.bool false) true v w K = K undef w := by rw [MG_b]; rfl
theorem MGff (v : Value) : MG P (.bool false) false v w K = K v w := by rw [MG_b]; rfl
theorem NGtt (v : Value) : NG P (.bool true) true v w K = NK P v w K := by rw [NG_b]; rfl
theorem NGtf (v : Value) : NG P (.bool true) false v w K = K undef w := by rw [NG_b]; rfl
theorem NGft (v : Value) : NG P (.bool false) true v w K = K undef w := by rw [NG_b]; rfl
theorem NGff (v : Value) : NG P (.bool false) false v w K = NK P v w K := by rw [NG_b]; rfl
theorem PGtt (c a b : Value) : PG P (.bool true) true c a b w K = PK P c a b w K := by rw [PG_b]; rfl
theorem PGtf (c a b : Value) : PG P (.bool true) false c a b w K = K undef w := by rw [PG_b]; rfl
theorem PGft (c a b : Value) : PG P (.bool false) true c a b w K = K undef w := by rw [PG_b]; rfl
theorem PGff (c a b : Value) : PG P (.bool false) false c a b w K = PK P c a b w K := by rw [PG_b]; rfl
theorem BGtt (op : BinOp) (ty : TypeId) (x y : Operand) (a b : Value) : BG P (.bool true) true op ty x y a b w K = BK P op ty x y a b w K := by rw [BG_b]; rfl
theorem BGtf (op : BinOp) (ty : TypeId) (x y : Operand) (a b : Value) : BG P (.bool true) false op ty x y a b w K = K undef w := by rw [BG_b]; rfl
theorem BGft (op : BinOp) (ty : TypeId) (x y : Operand) (a b : Value) : BG P (.bool false) true op ty x y a b w K = K undef w := by rw [BG_b]; rfl
theorem BGff (op : BinOp) (ty : TypeId) (x y : Operand) (a b : Value) : BG P (.bool false) false op ty x y a b w K = BK P op ty x y a b w K := by rw [BG_b]; rfl
theorem CGtt (f : Value) (args : List Value) : CG P (.bool true) true f args w K = CK P f args w K := by rw [CG_b]; rfl
theorem CGtf (f : Value) (args : List Value) : CG P (.bool true) false f args w K = K undef w := by rw [CG_b]; rfl
theorem CGft (f : Value) (args : List Value) : CG P (.bool false) true f args w K = K undef w := by rw [CG_b]; rfl
theorem CGff (f : Value) (args : List Value) : CG P (.bool false) false f args w K = CK P f args w K := by rw [CG_b]; rfl
theorem IGtt (b : Builtin) (ts : Array TypeId) (ty : TypeId) (cs : List Bool) (args : List Value) : IG P (.bool true) true b ts ty cs args w K = IK P b ts ty cs args w K := by rw [IG_b]; rfl
theorem IGtf (b : Builtin) (ts : Array TypeId) (ty : TypeId) (cs : List Bool) (args : List Value) : IG P (.bool true) false b ts ty cs args w K = K undef w := by rw [IG_b]; rfl
theorem IGft (b : Builtin) (ts : Array TypeId) (ty : TypeId) (cs : List Bool) (args : List Value) : IG P (.bool false) true b ts ty cs args w K = K undef w := by rw [IG_b]; rfl
theorem IGff (b : Builtin) (ts : Array TypeId) (ty : TypeId) (cs : List Bool) (args : List Value) : IG P (.bool false) false b ts ty cs args w K = IK P b ts ty cs args w K := by rw [IG_b]; rfl
theorem PKt (a b : Value) : PK P (.bool true) a b w K = K a w := by rw [PK_bool]; rfl
theorem PKf (a b : Value) : PK P (.bool false) a b w K = K b w := by rw [PK_bool]; rfl
theorem CDt (A B : Prop) : CondK (.bool true) A B = A := by rw [CondK_bool]; rfl
theorem CDf (A B : Prop) : CondK (.bool false) A B = B := by rw [CondK_bool]; rfl
theorem NOTt : VK P (Op.unary .not (.bool true)) w K = K (.bool false) w := not_ok true
theorem NOTf : VK P (Op.unary .not (.bool false)) w K = K (.bool true) w := not_ok false
section
variable {k : IntKind} {a b : Int}
theorem EQt (h : a = b) (t : TypeId) (x y : Operand) (K : Value → World → Prop) : BK P .eql t x y (.int k a) (.int k b) w K = K (.bool true) w := by rw [BK_eql, h]; simp
theorem EQf (h : a ≠ b) (t : TypeId) (x y : Operand) (K : Value → World → Prop) : BK P .eql t x y (.int k a) (.int k b) w K = K (.bool false) w := by rw [BK_eql, beq_eq_false_iff_ne.2 h]
theorem NEt (h : a ≠ b) (t : TypeId) (x y : Operand) (K : Value → World → Prop) : BK P .neq t x y (.int k a) (.int k b) w K = K (.bool true) w := by rw [BK_neq, bne_iff_ne.2 h]
theorem NEf (h : a = b) (t : TypeId) (x y : Operand) (K : Value → World → Prop) : BK P .neq t x y (.int k a) (.int k b) w K = K (.bool false) w := by rw [BK_neq, h]; simp
theorem LTt (h : a < b) (t : TypeId) (x y : Operand) (K : Value → World → Prop) : BK P .lss t x y (.int k a) (.int k b) w K = K (.bool true) w := by rw [BK_lss, decide_eq_true h]
theorem LTf (h : b ≤ a) (t : TypeId) (x y : Operand) (K : Value → World → Prop) : BK P .lss t x y (.int k a) (.int k b) w K = K (.bool false) w := by rw [BK_lss, decide_eq_false (by omega)]
theorem GTt (h : b < a) (t : TypeId) (x y : Operand) (K : Value → World → Prop) : BK P .gtr t x y (.int k a) (.int k b) w K = K (.bool true) w := by rw [BK_gtr, decide_eq_true h]
theorem GTf (h : a ≤ b) (t : TypeId) (x y : Operand) (K : Value → World → Prop) : BK P .gtr t x y (.int k a) (.int k b) w K = K (.bool false) w := by rw [BK_gtr, decide_eq_false (by omega)]
theorem LEt (h : a ≤ b) (t : TypeId) (x y : Operand) (K : Value → World → Prop) : BK P .leq t x y (.int k a) (.int k b) w K = K (.bool true) w := by rw [BK_leq, decide_eq_true h]
theorem LEf (h : b < a) (t : TypeId) (x y : Operand) (K : Value → World → Prop) : BK P .leq t x y (.int k a) (.int k b) w K = K (.bool false) w := by rw [BK_leq, decide_eq_false (by omega)]
theorem GEt (h : b ≤ a) (t : TypeId) (x y : Operand) (K : Value → World → Prop) : BK P .geq t x y (.int k a) (.int k b) w K = K (.bool true) w := by rw [BK_geq, decide_eq_true h]
theorem GEf (h : a < b) (t : TypeId) (x y : Operand) (K : Value → World → Prop) : BK P .geq t x y (.int k a) (.int k b) w K = K (.bool false) w := by rw [BK_geq, decide_eq_false (by omega)]
end
section
variable {a b : ByteArray}
end
/-- A field that is read, its place known. -/
structure FO (P : Program) (w : World) (t : TypeId) (i off : Nat) (a : Addr) (t' : TypeId) (v : Value) : Prop where
  h1 : fieldOff P t i = some off
  h2 : ∀ K : Value → World → Prop, VK P (Instr.loadAt t' (.pointer (some (a.add off)))) w K = K v w
theorem FO.mk' {t t' : TypeId} {i off : Nat} {a : Addr} {v : Value} {d : TypeDesc} (h1 : fieldOff P t i = some off) (h2 : P.underlying t' = some d) (h3 : (match d with | .struct _ | .array _ _ => true | _ => false) = false) (h4 : w.cell? (a.add off) = some v) : FO P w t i off a t' v :=
  ⟨h1, fun K => VK_eq_of (run_ld1 h2 h3 h4)⟩
/-- Of a block. -/
theorem FO.blk {t t' ty : TypeId} {i off b : Nat} {fr : Nat × Nat} {cs : Array Value} {v : Value} {d : TypeDesc} (hb : w.heap[b]? = some (.cells cs ty fr)) (h1 : fieldOff P t i = some off) (h2 : P.underlying t' = some d) (h3 : (match d with | .struct _ | .array _ _ => true | _ => false) = false) (h4 : cs[off]? = some v) : FO P w t i off ⟨b, 0, none⟩ t' v :=
  FO.mk' h1 h2 h3 (by rw [add_pl, Nat.zero_add, cell_blk hb]; exact h4)
theorem FO.e {t t' : TypeId} {i off : Nat} {a : Addr} {v : Value} (h : FO P w t i off a t' v) (K : Value → Value → World → Prop) :
    (VK P (Instr.fieldAt t (.pointer (some a)) i) w fun x w => VK P (Instr.loadAt t' x) w (K x)) = K (.pointer (some (a.add off))) v w := by
  rw [fo h.h1, h.h2]
end
theorem least_of {p : Nat → Prop} : ∀ n, p n → ∃ m, p m ∧ ∀ k, p k → m ≤ k := by
  intro n
  induction n using Nat.strongRecOn with
  | ind n ih =>
    intro hn
    by_cases h : ∃ k, k < n ∧ p k
    · obtain ⟨k, hk, hp⟩ := h
      exact ih k hk hp
    · exact ⟨n, hn, fun k hk => Nat.le_of_not_lt fun q => h ⟨k, q, hk⟩⟩
open Classical in
theorem W_loopG {P : Program} {z : At} {n : Nat} {c : Code} {K : Exit → Sl → World → Prop} {ρ : Sl} {w : World} (hd : dstOk n c = true) (I : Nat → Sl → World → Prop) (m : Nat) (h0 : I m ρ w)
    (round : ∀ m ρ w, I m ρ w → sx z P n c (seqK (fun ρ' w' => ∃ m', m' < m ∧ I m' ρ' w') K) ρ w) : W z P n (.loop c) K ρ w := by
  intro a hl
  have hmin : ∀ {ρ w}, (∃ m, I m ρ w) → ∃ m, I m ρ w ∧ ∀ k, I k ρ w → m ≤ k := fun ⟨m, h⟩ => least_of m h
  let μ : Sl → World → Nat := fun ρ w => if h : ∃ m, I m ρ w then Classical.choose (hmin h) else 0
  let M : Act → World → Nat := fun a w => μ (fun i => a.tmps.getD i undef) w
  have hM : ∀ a ρ w, Lk z n a ρ → M a w = μ ρ w := by
    intro a ρ w hl
    have : (fun i => a.tmps.getD i undef) = ρ := funext hl.val
    show μ (fun i => a.tmps.getD i undef) w = μ ρ w
    rw [this]
  refine wpIn_loop (fun a w => ∃ ρ, Lk z n a ρ ∧ ∃ m, I m ρ w) M ⟨ρ, hl, m, h0⟩ ?_
  rintro a w ⟨ρ, hl, hI⟩
  obtain ⟨hs, hle⟩ := Classical.choose_spec (hmin hI)
  have hμ : μ ρ w = Classical.choose (hmin hI) := dif_pos hI
  refine wpIn_mono (sx_W c _ ρ w hd (round _ ρ w hs) a hl) ?_
  rintro e a' w' ⟨ρ', hl', hk⟩
  cases e with
  | normal =>
    obtain ⟨m', hlt, hI'⟩ := hk
    refine ⟨⟨ρ', hl', m', hI'⟩, ?_⟩
    rw [hM a' ρ' w' hl', hM a ρ w hl, hμ]
    have h' : ∃ m, I m ρ' w' := ⟨m', hI'⟩
    have : μ ρ' w' = Classical.choose (hmin h') := dif_pos h'
    rw [this]
    exact Nat.lt_of_le_of_lt ((Classical.choose_spec (hmin h')).2 _ hI') hlt
  | exit id => exact ⟨ρ', hl', hk⟩
  | goto l => exact ⟨ρ', hl', hk⟩
  | ret => exact ⟨ρ', hl', hk⟩
  | panic c => exact ⟨ρ', hl', hk⟩
  | outgrown => exact ⟨ρ', hl', hk⟩
end Go.X
set_option linter.unusedVariables false
set_option linter.unusedSimpArgs false
set_option maxRecDepth 4000
namespace Go.X
open Go Go.RowKit
/-- A new struct's own variable, made out of a literal or not. -/
theorem Mod.fresh {w w' w'' : World} {b : Nat} (h : Mod none_ w w') (hm : Mod (fun i => i = b) w' w'') (hb : w.heap.size ≤ b) : Mod none_ w w'' := h.then hm fun i hi q => by omega
end Go.X
set_option linter.unusedVariables false
set_option linter.unusedSimpArgs false
set_option maxRecDepth 4000
namespace Go.X
open Go Go.RowKit Go.Proofs.YtpkfbaagpjdifaaGreatDoor.Tr
def mulP (a b : Int) : Int := min (a * min b 1048576) 1048576
def prodP (xs : List Int) : Int := xs.foldl mulP 1
def timesP (x n : Int) : List Int := if x = 1 then [] else List.replicate n.toNat x
theorem mul_big {a m : Int} (h1 : 1 ≤ a ∧ a ≤ 1048576) (h2 : 1 ≤ m ∧ m ≤ 1048576) : 1 ≤ a * m ∧ a * m ≤ 1099511627776 := by
  have h := Int.mul_pos (by omega : 0 < a) (by omega : 0 < m)
  have h3 : a * m ≤ 1048576 * 1048576 := Int.mul_le_mul h1.2 h2.2 (by omega) (by omega)
  omega
theorem mulP_in {a b : Int} (ha : 1 ≤ a ∧ a ≤ 1048576) (hb : 1 ≤ b) : 1 ≤ mulP a b ∧ mulP a b ≤ 1048576 := by
  unfold mulP
  have := mul_big ha (m := min b 1048576) (by omega)
  omega
theorem mulP_far {b : Int} (hb : 1 ≤ b) : mulP 1048576 b = 1048576 := by
  unfold mulP
  have : 1048576 * 1 ≤ 1048576 * min b 1048576 := Int.mul_le_mul (by omega) (by omega) (by omega) (by omega)
  omega
theorem foldP_in : ∀ (xs : List Int) (a : Int), 1 ≤ a ∧ a ≤ 1048576 → (∀ x ∈ xs, 1 ≤ x) → 1 ≤ xs.foldl mulP a ∧ xs.foldl mulP a ≤ 1048576
  | [], a, h, _ => h
  | x :: r, a, h, hx => foldP_in r _ (mulP_in h (hx x (by simp))) fun y hy => hx y (List.mem_cons_of_mem _ hy)
theorem prodP_in {xs : List Int} (h : ∀ x ∈ xs, 1 ≤ x) : 1 ≤ prodP xs ∧ prodP xs ≤ 1048576 := foldP_in xs 1 (by omega) h
theorem foldP_far : ∀ (xs : List Int), (∀ x ∈ xs, 1 ≤ x) → xs.foldl mulP 1048576 = 1048576
  | [], _ => rfl
  | x :: r, h => by rw [List.foldl_cons, mulP_far (h x (by simp)), foldP_far r fun y hy => h y (List.mem_cons_of_mem _ hy)]
theorem timesP_in {x n : Int} (h : 1 ≤ x) : ∀ y ∈ timesP x n, 1 ≤ y := by
  intro y hy
  unfold timesP at hy
  split at hy
  · cases hy
  · rw [List.eq_of_mem_replicate hy]; exact h
theorem prodP_snoc (xs : List Int) (x : Int) : prodP (xs ++ [x]) = mulP (prodP xs) x := by unfold prodP; rw [List.foldl_append]; rfl
def outB (r kind : Int) (ne : Nat) (dec : Bool) : Int := if dec then (if kind = 14 then r + 2 else if kind = 11 then 3 else if kind = 10 then ne + 1 else if kind = 12 then ne + 2 else r + 1) else 1
def waysB (r op kind turns : Int) (ne : Nat) (dec : Bool) (B E : Int) : Int :=
  if op = 3 then mx B E else if op = 4 then (if 1 < B then 1048576 else 1) else if op = 5 then prodP (timesP B (if turns = 0 then r else turns)) else outB r kind ne dec
mutual
def St.ways (r : Int) : St → Int
  | ⟨op, kind, red, name, turns, es, exprs, bs, body, ls, els, line, col⟩ => waysB r op kind turns exprs.length (St.dec ⟨op, kind, red, name, turns, es, exprs, bs, body, ls, els, line, col⟩) (St.waysF r 1 body) (St.waysF r 1 els)
def St.waysF (r : Int) (acc : Int) : List St → Int
  | [] => acc
  | e :: l => St.waysF r (mulP acc (St.ways r e)) l
end
theorem St.waysF_eq (r : Int) : ∀ (l : List St) (acc : Int), St.waysF r acc l = (l.map (St.ways r)).foldl mulP acc
  | [], acc => by rw [St.waysF]; rfl
  | e :: l, acc => by rw [St.waysF, St.waysF_eq r l, List.map_cons, List.foldl_cons]
def St.waysL (r : Int) (l : List St) : Int := prodP (l.map (St.ways r))
theorem St.ways_eq (r : Int) (e : St) : e.ways r = waysB r e.op e.kind e.turns e.exprs.length e.dec (St.waysL r e.body) (St.waysL r e.els) := by
  obtain ⟨op, kind, red, name, turns, es, exprs, bs, body, ls, els, line, col⟩ := e
  rw [St.ways, St.waysF_eq, St.waysF_eq]; rfl
theorem waysB_in {r op kind turns : Int} {ne : Nat} {dec : Bool} {B E : Int} (hr : 1 ≤ r) (hB : 1 ≤ B) (hE : 1 ≤ E) : 1 ≤ waysB r op kind turns ne dec B E := by
  unfold waysB
  split
  · unfold mx; split <;> omega
  · split
    · split <;> omega
    · split
      · exact (prodP_in (timesP_in hB)).1
      · unfold outB
        split
        · split
          · omega
          · split
            · omega
            · split
              · omega
              · split <;> omega
        · omega
theorem St.ways_in {r : Int} (hr : 1 ≤ r) : ∀ e : St, 1 ≤ e.ways r := by
  intro e
  induction e using St.ind with
  | h e ih1 ih2 =>
    rw [St.ways_eq]
    refine waysB_in hr (prodP_in fun x hx => ?_).1 (prodP_in fun x hx => ?_).1
    · obtain ⟨a, ha, rfl⟩ := List.mem_map.1 hx; exact ih1 a ha
    · obtain ⟨a, ha, rfl⟩ := List.mem_map.1 hx; exact ih2 a ha
theorem St.waysL_in {r : Int} (hr : 1 ≤ r) (l : List St) : 1 ≤ St.waysL r l ∧ St.waysL r l ≤ 1048576 := prodP_in fun x hx => by obtain ⟨a, _, rfl⟩ := List.mem_map.1 hx; exact St.ways_in hr a
end Go.X
namespace Go.Proofs.YtpkfbaagpjdifaaGreatDoor.Tr
open Go Go.X Go.RowKit Go.Proofs.YtpkfbaagpjdifaaGreatDoor.XI Go.Proofs.YtpkfbaagpjdifaaGreatDoor.XK
theorem zI : (Tryz.prog.info? 3).bind (·.zero) = some (.int .i64 0) := by kernel_rfl
/-- A function that hands out numbers, as long as it is told to go on. -/
def Iter (w0 : World) (f : FuncId) (cap : List Value) (xs : List Int) : Prop := ∀ (l : Nat) (w1 : World) (J : Nat → World → Prop), (∀ k w', J k w' → Mod none_ w0 w') → (∀ k w w', J k w → Mod none_ w w' → J k w') →
  (∀ k w i, xs[k]? = some i → J k w → ∀ K : Value → World → Prop, (∀ w', J (k + 1) w' → K (.bool true) w') → CK Tryz.prog (.func (.yield l) #[] #[]) [.int .i64 i] w K) → J 0 w1 →
  Rt Tryz.prog f ((.func (.yield l) #[] #[]) :: cap).toArray w1 fun _ w' => J xs.length w'
theorem Iter.mod {w0 w1 : World} {f : FuncId} {cap : List Value} {xs : List Int} (h : Iter w0 f cap xs) (hm : Mod none_ w0 w1) : Iter w1 f cap xs := fun l w J hJ hJm hy h0 => h l w J (fun k w' q => hm.trans (hJ k w' q)) hJm hy h0
theorem psP : limits_product_int_ps = #[7] := by kernel_rfl
theorem gP : limits_product_int_g = .tmp 6 := by kernel_rfl
/-- What is so while numbers come. -/
structure Telling (w0 : World) (xs : List Int) (L0 : Loop) (k : Nat) (w : World) : Prop where
  m : Mod none_ w0 w
  n : w.heap[w0.heap.size]? = some (.cells #[.int .i64 (prodP (xs.take k))] 3 (0, 0))
  d : w.heap[w0.heap.size + 1]? = some (.deferred (some []))
  l : w.heap[w0.heap.size + 2]? = some (.loop L0)
theorem Product_ok {w : World} {f : FuncId} {fn : Func} {cap : List Value} {xs : List Int} (hx : ∀ x ∈ xs, 1 ≤ x) (hf : Tryz.prog.funcs[f]? = some fn) (hb : fn.body.isNone = false) (hn : (fn.name == "runtime.NumGoroutine") = false) (hi : Iter w f cap xs) :
    Rt Tryz.prog 18 #[.func (.func f) #[] cap.toArray] w fun v w' => v = .int .i64 (prodP xs) ∧ Mod none_ w w' := by
  refine calls_of_M (n := 14) (c := limits_product_int_b) Tryz.func18 (by kernel_rfl) (by kernel_rfl) (Nat.le_of_ble_eq_true rfl) ?_
  rw [limits_product_int_parts]
  refine seq_M (N := fun ρ' w' => ρ' 0 = .func (.func f) #[] cap.toArray ∧ w = w') limits_product_int_R0_ok (by rw [limits_product_int_R0_eq]; exact ⟨rfl, rfl⟩) ?_
  rintro ρ1 _ ⟨h10, rfl⟩
  refine seq_M (N := fun ρ' w' => ρ' 0 = .func (.func f) #[] cap.toArray ∧ ρ' 3 = .pointer (some ⟨w.heap.size, 0, none⟩) ∧ w'.heap[w.heap.size]? = some (.cells #[.int .i64 1] 3 (0, 0)) ∧ Mod none_ w w' ∧ w'.heap.size = w.heap.size + 1) limits_product_int_R1_ok (by
    rw [limits_product_int_R1_eq]
    unfold limits_product_int_R1_F
    refine al_k (cs := #[.int .i64 0]) zI rfl _ fun w2 hb2 hm2 hz2 => ?_
    refine stC (b := w.heap.size) (o := 0) rfl cI rfl hb2 (by simp) fun w3 hb3 hm3 hz3 => ?_
    exact ⟨h10, rfl, hb3, hm2.fresh hm3 (Nat.le_refl _), by omega⟩) ?_
  rintro ρ2 w1 ⟨h20, h23, hb1, hm1, hz1⟩
  refine seq_range (N := fun ρ' w' => ρ' 3 = .pointer (some ⟨w.heap.size, 0, none⟩) ∧ ρ' 6 = .func (.func f) #[] cap.toArray ∧ w1 = w') limits_product_int_R2_ok limits_product_int_R5_ok (by
    rw [limits_product_int_R2_eq]
    unfold limits_product_int_R2_F
    exact ⟨h23, h20, rfl⟩) ?_
  rintro ρ3 _ ⟨h33, h36, rfl⟩
  refine ⟨f, fn, cap.toArray, by rw [gP]; exact h36, hf, hb, hn, ?_⟩
  intro fn0 tmps hts htv
  rw [hz1]
  have hL0s : (rec_ w1 fn0 tmps limits_product_int_ps limits_product_int_R3 limits_product_int_R4).state = .ready := rfl
  have hL0p : (rec_ w1 fn0 tmps limits_product_int_ps limits_product_int_R3 limits_product_int_R4).pending = none := rfl
  have hL0t : (rec_ w1 fn0 tmps limits_product_int_ps limits_product_int_R3 limits_product_int_R4).tmps = tmps := rfl
  have hL0q : (rec_ w1 fn0 tmps limits_product_int_ps limits_product_int_R3 limits_product_int_R4).params = #[7] := psP
  have hL0a : (rec_ w1 fn0 tmps limits_product_int_ps limits_product_int_R3 limits_product_int_R4).assign = limits_product_int_R3 := rfl
  have hL0b : (rec_ w1 fn0 tmps limits_product_int_ps limits_product_int_R3 limits_product_int_R4).body = limits_product_int_R4 := rfl
  have hen : (enter_ w1 (rec_ w1 fn0 tmps limits_product_int_ps limits_product_int_R3 limits_product_int_R4)) = (w1.alloc (.deferred (some []))).alloc (.loop (rec_ w1 fn0 tmps limits_product_int_ps limits_product_int_R3 limits_product_int_R4)) := rfl
  rw [hen]
  generalize rec_ w1 fn0 tmps limits_product_int_ps limits_product_int_R3 limits_product_int_R4 = L0 at *
  have hma : Mod none_ w1 ((w1.alloc (.deferred (some []))).alloc (.loop L0)) := ((Mod.refl none_ w1).alloc _).alloc _
  have h0 : Telling w xs L0 0 ((w1.alloc (.deferred (some []))).alloc (.loop L0)) := by
    refine ⟨hm1.trans hma, hma.blk hb1 id, ?_, ?_⟩
    · rw [alloc_old _ _ _ (by rw [alloc_size]; omega), ← hz1]; exact alloc_new w1 _
    · have := alloc_new (w1.alloc (.deferred (some []))) (.loop L0)
      rw [alloc_size, hz1] at this
      exact this
  have hci := hi (w.heap.size + 1 + 1) ((w1.alloc (.deferred (some []))).alloc (.loop L0)) (Telling w xs L0) (fun k w' h => h.m) (fun k w' w'' h hm => ⟨h.m.trans hm, hm.blk h.n id, hm.blk h.d id, hm.blk h.l id⟩) ?_ h0
  · refine Rt.mono (R := fun _ w' => Telling w xs L0 xs.length w') (by simpa using hci) ?_
    rintro v w3 ⟨h1, h2, h3, h4⟩
    refine ⟨L0, h4, by rw [hL0s]; decide, hL0p, ?_⟩
    rw [limits_product_int_R5_eq]
    unfold limits_product_int_R5_F
    rw [h33]
    refine ld1 uI rfl (v := .int .i64 (prodP (xs.take xs.length))) (by rw [putB, cell_blk ((setB_old _ _ _ _ (by omega)).trans h2)]; rfl) ?_
    have hm4 : Mod (fun b => b = w.heap.size + 1 + 1 ∨ b = w.heap.size + 1) w3 ((w3.putObj (w.heap.size + 1 + 1) (.loop { L0 with state := .exhausted })).putObj (w.heap.size + 1) (.deferred none)) := ((Mod.refl _ w3).put _ (fun _ => .inl rfl)).put _ (fun _ => .inr rfl)
    refine ⟨?_, ?_⟩
    · rw [putB, setB_old _ _ _ _ (by omega)]; exact h3
    · skip
      exact ⟨by rw [List.take_length]; rfl, h1.then hm4 (fun b hb q => absurd q (by omega))⟩
  · rintro k w' i hki ⟨h1, h2, h3, h4⟩ K hK
    have hk : k < xs.length := by
      rcases Nat.lt_or_ge k xs.length with q | q
      · exact q
      · rw [List.getElem?_eq_none q] at hki; cases hki
    have hi1 : 1 ≤ i := hx i (List.mem_of_getElem? hki)
    have hpre := prodP_in (xs := xs.take k) fun x hq => hx x (List.mem_of_mem_take hq)
    refine CK_yield h4 (by rw [hL0q]; rfl) ?_
    rw [hL0a, hL0b, hL0q, hL0t]
    have hz : ((#[7] : Array Tmp).zip [Value.int .i64 i].toArray).foldl (fun tmps (t, a) => tmps.setIfInBounds t a) tmps = tmps.setIfInBounds 7 (.int .i64 i) := by simp
    rw [hz]
    refine round_of (n := 14) (ρ := up ρ3 7 (.int .i64 i)) (by simp [hts]) (fun j => ?_) limits_product_int_R3_ok limits_product_int_R4_ok ?_
    · rw [up_at]
      have hv := htv j
      simp only [Array.getD_eq_getD_getElem?] at hv ⊢
      rw [Array.getElem?_setIfInBounds]
      by_cases e : 7 = j
      · subst e; simp [hts]
      · rw [if_neg e, if_neg (fun q => e q.symm)]; exact hv
    rw [limits_product_int_R3_eq]
    unfold limits_product_int_R3_F
    refine ⟨L0, h4, hL0s, ?_⟩
    rw [limits_product_int_R4_eq]
    unfold limits_product_int_R4_F
    have hmb : Mod (fun b => b = w.heap.size + 1 + 1) w' (w'.putObj (w.heap.size + 1 + 1) (.loop { L0 with state := .busy })) := (Mod.refl _ w').put _ (fun _ => rfl)
    have hB := X.blk_lt h4
    have r3 : (up (up ρ3 7 (.int .i64 i)) 4 (up ρ3 7 (.int .i64 i) 7)) 3 = .pointer (some ⟨w.heap.size, 0, none⟩) := h33
    have r4 : (up (up ρ3 7 (.int .i64 i)) 4 (up ρ3 7 (.int .i64 i) 7)) 4 = .int .i64 i := rfl
    rw [r3, r4]
    refine ld1 uI rfl (v := .int .i64 (prodP (xs.take k))) (by rw [cell_blk (hmb.blk h2 (by omega))]; rfl) ?_
    rw [min_i]
    have hmin : (if (1048576 : Int) < i then 1048576 else i) = min i 1048576 := by split <;> omega
    rw [hmin, BK_mul]
    have hbig := mul_big hpre (m := min i 1048576) (by omega)
    rw [wrap_i (by omega) (by omega), min_i]
    have hmin2 : (if (1048576 : Int) < prodP (xs.take k) * min i 1048576 then 1048576 else prodP (xs.take k) * min i 1048576) = mulP (prodP (xs.take k)) i := by unfold mulP; split <;> omega
    rw [hmin2]
    have hnext : mulP (prodP (xs.take k)) i = prodP (xs.take (k + 1)) := by rw [List.take_add_one, hki, Option.toList_some, prodP_snoc]
    rw [hnext]
    refine st1 (o := 0) cI rfl (hmb.blk h2 (by omega)) (by simp) ?_
    have hc3 : (setB (w'.putObj (w.heap.size + 1 + 1) (.loop { L0 with state := .busy })) w.heap.size (.cells (#[Value.int .i64 (prodP (xs.take k))].setIfInBounds 0 (.int .i64 (prodP (xs.take (k + 1))))) 3 (0, 0))).heap[w.heap.size + 1 + 1]? = some (.loop { L0 with state := .busy }) := by
      rw [setB_old _ _ _ _ (by omega), putB, setB_new _ _ _ (by omega)]
    refine ⟨_, hc3, hK _ ⟨?_, ?_, ?_, ?_⟩⟩
    · refine Mod.put (Mod.set ?_ _ (fun q => absurd q (by omega))) _ (fun q => absurd q (by omega))
      exact h1.then hmb (fun b hb q => absurd q (by omega))
    · rw [putB, setB_old _ _ _ _ (by omega), setB_new _ _ _ (X.blk_lt (hmb.blk h2 (by omega)))]; rfl
    · rw [putB, setB_old _ _ _ _ (by omega), setB_old _ _ _ _ (by omega)]; exact hmb.blk h3 (by omega)
    · rw [putB, setB_new _ _ _ (by rw [setB_size]; have := X.blk_lt hc3; rw [setB_size] at this; exact this), ← hL0s, ← hL0p]
end Go.Proofs.YtpkfbaagpjdifaaGreatDoor.Tr
set_option linter.unusedVariables false
set_option linter.unusedSimpArgs false
set_option maxRecDepth 4000
namespace Go.Proofs.YtpkfbaagpjdifaaGreatDoor.Tr
open Go Go.X Go.RowKit Go.Proofs.YtpkfbaagpjdifaaGreatDoor.XI Go.Proofs.YtpkfbaagpjdifaaGreatDoor.XK
theorem Times_it {w : World} {bn bx : Nat} {x n : Int} (hn : w.heap[bn]? = some (.cells #[.int .i64 n] 3 (0, 0))) (hx : w.heap[bx]? = some (.cells #[.int .i64 x] 3 (0, 0))) (hm : n ≤ 1000000) : Iter w 31 [pt bn, pt bx] (timesP x n) := by
  intro l w1 J hJ hJm hy h0
  refine limits_times_1_calls ?_
  unfold limits_times_1_F
  refine ldOne (b := bn) rfl uI rfl ((hJ 0 _ h0).blk hn id) ?_
  have hlen : x ≠ 1 → (timesP x n).length = n.toNat := fun q => by unfold timesP; rw [if_neg q, List.length_replicate]
  refine W_loopG limits_times_1_L0_ok (fun m ρ w' => ∃ k, k + m = n.toNat ∧ (x = 1 → k = 0) ∧ ρ 0 = .func (.yield l) #[] #[] ∧ ρ 2 = pt bx ∧ ρ 4 = .int .i64 n ∧ ρ 5 = .int .i64 (k : Nat) ∧ J k w') n.toNat ⟨0, by omega, fun _ => rfl, rfl, rfl, rfl, rfl, h0⟩ ?_
  rintro m ρ w2 ⟨k, hk, hk1, q0, q2, q4, q5, hJ2⟩
  rw [limits_times_1_L0_eq]
  unfold limits_times_1_L0_F
  rw [q5, q4, q2, q0]
  by_cases hlt : (k : Int) < n
  · simp only [↓VG_u, ↓UG_u, ↓MG_u, ↓NG_u, ↓PG_u, ↓BG_u, ↓CG_u, ↓IG_u, ↓VGtt, ↓VGtf, ↓VGft, ↓VGff, ↓UGtt, ↓UGtf, ↓UGft, ↓UGff, ↓MGtt, ↓MGtf, ↓MGft, ↓MGff, ↓NGtt, ↓NGtf, ↓NGft, ↓NGff, ↓PGtt, ↓PGtf, ↓PGft, ↓PGff, ↓BGtt, ↓BGtf, ↓BGft, ↓BGff, ↓CGtt, ↓CGtf, ↓CGft, ↓CGff, ↓IGtt, ↓IGtf, ↓IGft, ↓IGff, ↓PKt, ↓PKf, ↓CDt, ↓CDf, ↓NOTt, ↓NOTf, ↓NK_ptr, ↓LTt hlt]
    have hbx := (hJ k _ hJ2).blk hx id
    refine ldOne (b := bx) rfl uI rfl hbx ?_
    by_cases h1 : x = 1
    · simp only [↓VG_u, ↓UG_u, ↓MG_u, ↓NG_u, ↓PG_u, ↓BG_u, ↓CG_u, ↓IG_u, ↓VGtt, ↓VGtf, ↓VGft, ↓VGff, ↓UGtt, ↓UGtf, ↓UGft, ↓UGff, ↓MGtt, ↓MGtf, ↓MGft, ↓MGff, ↓NGtt, ↓NGtf, ↓NGft, ↓NGff, ↓PGtt, ↓PGtf, ↓PGft, ↓PGff, ↓BGtt, ↓BGtf, ↓BGft, ↓BGff, ↓CGtt, ↓CGtf, ↓CGft, ↓CGff, ↓IGtt, ↓IGtf, ↓IGft, ↓IGff, ↓PKt, ↓PKf, ↓CDt, ↓CDf, ↓NOTt, ↓NOTf, ↓NK_ptr, ↓EQt h1]
      have hl0 : (timesP x n).length = 0 := by unfold timesP; rw [if_pos h1]; rfl
      show J (timesP x n).length w2
      rw [hl0]
      exact hk1 h1 ▸ hJ2
    · simp only [↓VG_u, ↓UG_u, ↓MG_u, ↓NG_u, ↓PG_u, ↓BG_u, ↓CG_u, ↓IG_u, ↓VGtt, ↓VGtf, ↓VGft, ↓VGff, ↓UGtt, ↓UGtf, ↓UGft, ↓UGff, ↓MGtt, ↓MGtf, ↓MGft, ↓MGff, ↓NGtt, ↓NGtf, ↓NGft, ↓NGff, ↓PGtt, ↓PGtf, ↓PGft, ↓PGff, ↓BGtt, ↓BGtf, ↓BGft, ↓BGff, ↓CGtt, ↓CGtf, ↓CGft, ↓CGff, ↓IGtt, ↓IGtf, ↓IGft, ↓IGff, ↓PKt, ↓PKf, ↓CDt, ↓CDf, ↓NOTt, ↓NOTf, ↓NK_ptr, ↓EQf h1]
      refine ldOne (b := bx) rfl uI rfl hbx ?_
      refine hy k w2 x ?_ hJ2 _ fun w3 hJ3 => ?_
      · unfold timesP
        rw [if_neg h1, List.getElem?_replicate, if_pos (by omega)]
      · try simp only [↓VG_u, ↓UG_u, ↓MG_u, ↓NG_u, ↓PG_u, ↓BG_u, ↓CG_u, ↓IG_u, ↓VGtt, ↓VGtf, ↓VGft, ↓VGff, ↓UGtt, ↓UGtf, ↓UGft, ↓UGff, ↓MGtt, ↓MGtf, ↓MGft, ↓MGff, ↓NGtt, ↓NGtf, ↓NGft, ↓NGff, ↓PGtt, ↓PGtf, ↓PGft, ↓PGff, ↓BGtt, ↓BGtf, ↓BGft, ↓BGff, ↓CGtt, ↓CGtf, ↓CGft, ↓CGff, ↓IGtt, ↓IGtf, ↓IGft, ↓IGff, ↓PKt, ↓PKf, ↓CDt, ↓CDf, ↓NOTt, ↓NOTf, ↓NK_ptr]
        refine BKadd (a := k) (b := 1) rfl rfl (by omega) (by omega) ⟨m - 1, by omega, k + 1, by omega, fun q => absurd q h1, ?_, ?_, ?_, rfl, hJ3⟩
        · exact q0
        · exact q2
        · exact q4
  · simp only [↓VG_u, ↓UG_u, ↓MG_u, ↓NG_u, ↓PG_u, ↓BG_u, ↓CG_u, ↓IG_u, ↓VGtt, ↓VGtf, ↓VGft, ↓VGff, ↓UGtt, ↓UGtf, ↓UGft, ↓UGff, ↓MGtt, ↓MGtf, ↓MGft, ↓MGff, ↓NGtt, ↓NGtf, ↓NGft, ↓NGff, ↓PGtt, ↓PGtf, ↓PGft, ↓PGff, ↓BGtt, ↓BGtf, ↓BGft, ↓BGff, ↓CGtt, ↓CGtf, ↓CGft, ↓CGff, ↓IGtt, ↓IGtf, ↓IGft, ↓IGff, ↓PKt, ↓PKf, ↓CDt, ↓CDf, ↓NOTt, ↓NOTf, ↓NK_ptr, ↓LTf (show n ≤ (k : Int) by omega)]
    rw [sq_x, bk_x]
    show J (timesP x n).length w2
    by_cases h1 : x = 1
    · have hl0 : (timesP x n).length = 0 := by unfold timesP; rw [if_pos h1]; rfl
      rw [hl0]
      exact hk1 h1 ▸ hJ2
    · rw [hlen h1, show n.toNat = k by omega]
      exact hJ2
theorem Times_k {w : World} {x n : Int} (hx : 1 ≤ x) (hm : n ≤ 1000000) {K : Value → Value → World → Prop} (hk : ∀ y w', Mod none_ w w' → K y (.int .i64 (prodP (timesP x n))) w') :
    CK Tryz.prog (.func (.func 19) #[] #[]) [.int .i64 x, .int .i64 n] w fun y w => CK Tryz.prog (.func (.func 18) #[] #[]) [y] w (K y) := by
  refine CK_st (R := fun v w' => ∃ bn bx : Nat, v = .func (.func 31) #[] [pt bn, pt bx].toArray ∧ w'.heap[bn]? = some (.cells #[.int .i64 n] 3 (0, 0)) ∧ w'.heap[bx]? = some (.cells #[.int .i64 x] 3 (0, 0)) ∧ Mod none_ w w') Tryz.func19 rfl rfl ?_ ?_
  · refine limits_times_calls ?_
    unfold limits_times_F
    refine box_k (cs := #[.int .i64 x]) rfl fun w1 hb1 hm1 hz1 => ?_
    refine box_k (cs := #[.int .i64 n]) rfl fun w2 hb2 hm2 hz2 => ?_
    rw [mkFunc]
    exact ⟨_, _, rfl, hb2, hm2.blk hb1 id, hm1.trans hm2⟩
  · rintro _ w1 ⟨bn, bx, rfl, hbn, hbx, hm1⟩
    refine CK_st Tryz.func18 rfl rfl (Product_ok (timesP_in hx) Tryz.func31 rfl rfl (Times_it hbn hbx hm)) ?_
    rintro _ w2 ⟨rfl, hm2⟩
    exact hk _ _ (hm1.trans hm2)
def WaysOk (r : Int) (e : St) : Prop := ∀ w : World, e.Ok w → e.sz ≤ 1099511627776 → e.may = true → Rt Tryz.prog 33 #[.agg e.cells.toArray, .int .i64 r] w fun v w' => v = .int .i64 (e.ways r) ∧ Mod none_ w w'
theorem Each_it {w : World} {bs br : Nat} {r : Int} {s : Value} {l : List St} (hs : w.heap[bs]? = some (.cells #[s] 23 (0, 0))) (hr : w.heap[br]? = some (.cells #[.int .i64 r] 3 (0, 0))) (hok : StsOk w s l) (hsz : St.szL l ≤ 1099511627776) (hmay : ∀ a ∈ l, a.may = true) (ih : ∀ a ∈ l, WaysOk r a) :
    Iter w 32 [pt bs, pt br] (l.map (St.ways r)) := by
  intro lp w1 J hJ hJm hy h0
  obtain ⟨A, c, rfl, _⟩ := reads_cap hok.1
  have hlen := St.len_sz l
  refine limits_each_1_calls ?_
  unfold limits_each_1_F
  refine ldOne (b := bs) rfl uSts rfl ((hJ 0 _ h0).blk hs id) ?_
  rw [len_sl uSts]
  refine W_loopG limits_each_1_L0_ok (fun m ρ w' => ∃ k, k + m = l.length ∧ ρ 0 = .func (.yield lp) #[] #[] ∧ ρ 2 = pt br ∧ ρ 6 = .slice A l.length c ∧ ρ 7 = .int .i64 (l.length : Nat) ∧ ρ 8 = .int .i64 (k : Nat) ∧ J k w') l.length ⟨0, by omega, rfl, rfl, rfl, rfl, rfl, h0⟩ ?_
  rintro m ρ w2 ⟨k, hk, q0, q2, q6, q7, q8, hJ2⟩
  rw [limits_each_1_L0_eq]
  unfold limits_each_1_L0_F
  rw [q8, q7, q6, q2, q0]
  by_cases hlt : k < l.length
  · simp only [↓VG_u, ↓UG_u, ↓MG_u, ↓NG_u, ↓PG_u, ↓BG_u, ↓CG_u, ↓IG_u, ↓VGtt, ↓VGtf, ↓VGft, ↓VGff, ↓UGtt, ↓UGtf, ↓UGft, ↓UGff, ↓MGtt, ↓MGtf, ↓MGft, ↓MGff, ↓NGtt, ↓NGtf, ↓NGft, ↓NGff, ↓PGtt, ↓PGtf, ↓PGft, ↓PGff, ↓BGtt, ↓BGtf, ↓BGft, ↓BGff, ↓CGtt, ↓CGtf, ↓CGft, ↓CGff, ↓IGtt, ↓IGtf, ↓IGft, ↓IGff, ↓PKt, ↓PKf, ↓CDt, ↓CDf, ↓NOTt, ↓NOTf, ↓NK_ptr, ↓LTt (show (k : Int) < (l.length : Int) by omega)]
    have hx : l[k]? = some l[k] := List.getElem?_eq_getElem hlt
    have hmem := List.getElem_mem hlt
    have hm2 := hJ k _ hJ2
    have hok2 := hok.mod hm2
    refine ixSt hok2 hx fun x10 => ?_
    refine lcl_k (cs := l[k].cells.toArray) zSt _ iSt rfl (st_one (hok.at hx)) fun w3 hb3 hm3 hz3 => ?_
    refine ldS (cs := l[k].cells.toArray) rfl Tryz.underlying62 rfl iSt hb3 ?_
    refine ldOne (b := br) rfl uI rfl ((hm2.trans hm3).blk hr id) ?_
    have hsn := St.szL_at hx
    refine CK_st Tryz.func33 rfl rfl (ih _ hmem w3 ((hok2.at hx).mod hm3) (by omega) (hmay _ hmem)) ?_
    rintro _ w4 ⟨rfl, hm4⟩
    refine hy k w4 _ (by rw [List.getElem?_map, hx]; rfl) (hJm _ _ _ (hJm _ _ _ hJ2 hm3) hm4) _ fun w5 hJ5 => ?_
    try simp only [↓VG_u, ↓UG_u, ↓MG_u, ↓NG_u, ↓PG_u, ↓BG_u, ↓CG_u, ↓IG_u, ↓VGtt, ↓VGtf, ↓VGft, ↓VGff, ↓UGtt, ↓UGtf, ↓UGft, ↓UGff, ↓MGtt, ↓MGtf, ↓MGft, ↓MGff, ↓NGtt, ↓NGtf, ↓NGft, ↓NGff, ↓PGtt, ↓PGtf, ↓PGft, ↓PGff, ↓BGtt, ↓BGtf, ↓BGft, ↓BGff, ↓CGtt, ↓CGtf, ↓CGft, ↓CGff, ↓IGtt, ↓IGtf, ↓IGft, ↓IGff, ↓PKt, ↓PKf, ↓CDt, ↓CDf, ↓NOTt, ↓NOTf, ↓NK_ptr]
    refine BKadd (a := k) (b := 1) rfl rfl (by omega) (by omega) ⟨m - 1, by omega, k + 1, by omega, ?_, ?_, ?_, ?_, rfl, hJ5⟩
    · exact q0
    · exact q2
    · exact q6
    · exact q7
  · simp only [↓VG_u, ↓UG_u, ↓MG_u, ↓NG_u, ↓PG_u, ↓BG_u, ↓CG_u, ↓IG_u, ↓VGtt, ↓VGtf, ↓VGft, ↓VGff, ↓UGtt, ↓UGtf, ↓UGft, ↓UGff, ↓MGtt, ↓MGtf, ↓MGft, ↓MGff, ↓NGtt, ↓NGtf, ↓NGft, ↓NGff, ↓PGtt, ↓PGtf, ↓PGft, ↓PGff, ↓BGtt, ↓BGtf, ↓BGft, ↓BGff, ↓CGtt, ↓CGtf, ↓CGft, ↓CGff, ↓IGtt, ↓IGtf, ↓IGft, ↓IGff, ↓PKt, ↓PKf, ↓CDt, ↓CDf, ↓NOTt, ↓NOTf, ↓NK_ptr, ↓LTf (show (l.length : Int) ≤ (k : Int) by omega)]
    rw [sq_x, bk_x]
    show J (l.map (St.ways r)).length w2
    rw [List.length_map, show l.length = k by omega]
    exact hJ2
theorem Each_k {w : World} {r : Int} (hr : 1 ≤ r) {s : Value} {l : List St} (hok : StsOk w s l) (hsz : St.szL l ≤ 1099511627776) (hmay : ∀ a ∈ l, a.may = true) (ih : ∀ a ∈ l, WaysOk r a) {K : Value → Value → World → Prop} (hk : ∀ y w', Mod none_ w w' → K y (.int .i64 (St.waysL r l)) w') :
    CK Tryz.prog (.func (.func 20) #[] #[]) [s, .int .i64 r] w fun y w => CK Tryz.prog (.func (.func 18) #[] #[]) [y] w (K y) := by
  have hs1 : (Value.cells s) = #[s] := by obtain ⟨A, c, rfl, _⟩ := reads_cap hok.1; rfl
  refine CK_st (R := fun v w' => ∃ bs br : Nat, v = .func (.func 32) #[] [pt bs, pt br].toArray ∧ w'.heap[bs]? = some (.cells #[s] 23 (0, 0)) ∧ w'.heap[br]? = some (.cells #[.int .i64 r] 3 (0, 0)) ∧ Mod none_ w w') Tryz.func20 rfl rfl ?_ ?_
  · refine limits_each_calls ?_
    unfold limits_each_F
    refine box_k (cs := #[s]) hs1 fun w1 hb1 hm1 hz1 => ?_
    refine box_k (cs := #[.int .i64 r]) rfl fun w2 hb2 hm2 hz2 => ?_
    rw [mkFunc]
    exact ⟨_, _, rfl, hm2.blk hb1 id, hb2, hm1.trans hm2⟩
  · rintro _ w1 ⟨bs, br, rfl, hbs, hbr, hm1⟩
    refine CK_st Tryz.func18 rfl rfl (Product_ok (fun x hx => by obtain ⟨a, _, rfl⟩ := List.mem_map.1 hx; exact St.ways_in hr a) Tryz.func32 rfl rfl (Each_it hbs hbr (hok.mod hm1) hsz hmay ih)) ?_
    rintro _ w2 ⟨rfl, hm2⟩
    exact hk _ _ (hm1.trans hm2)
theorem out_ok {w : World} {e : St} {r : Int} (hr : 1 ≤ r ∧ r ≤ 64) (hok : e.Ok w) (hsz : e.sz ≤ 1099511627776) : Rt Tryz.prog 46 #[.agg e.cells.toArray, .int .i64 r] w fun v w' => v = .int .i64 (outB r e.kind e.exprs.length e.dec) ∧ Mod none_ w w' := by
  refine limits_out_calls ?_
  unfold limits_out_F
  refine box_k (cs := e.cells.toArray) rfl fun w1 hb1 hm1 hz1 => ?_
  refine ldS (cs := e.cells.toArray) rfl Tryz.underlying62 rfl iSt hb1 ?_
  refine CK_st Tryz.func79 rfl rfl (Decides_ok (hok.mod hm1)) ?_
  rintro _ w2 ⟨rfl, hm2⟩
  have hm02 := hm1.trans hm2
  have hb2 := hm2.blk hb1 id
  have hne := Ex.len_sz e.exprs
  have hse := St.sz_eq e
  cases hd : e.dec with
  | false =>
    try simp only [↓VG_u, ↓UG_u, ↓MG_u, ↓NG_u, ↓PG_u, ↓BG_u, ↓CG_u, ↓IG_u, ↓VGtt, ↓VGtf, ↓VGft, ↓VGff, ↓UGtt, ↓UGtf, ↓UGft, ↓UGff, ↓MGtt, ↓MGtf, ↓MGft, ↓MGff, ↓NGtt, ↓NGtf, ↓NGft, ↓NGff, ↓PGtt, ↓PGtf, ↓PGft, ↓PGff, ↓BGtt, ↓BGtf, ↓BGft, ↓BGff, ↓CGtt, ↓CGtf, ↓CGft, ↓CGff, ↓IGtt, ↓IGtf, ↓IGft, ↓IGff, ↓PKt, ↓PKf, ↓CDt, ↓CDf, ↓NOTt, ↓NOTf, ↓NK_ptr]
    exact ⟨rfl, hm02⟩
  | true =>
    try simp only [↓VG_u, ↓UG_u, ↓MG_u, ↓NG_u, ↓PG_u, ↓BG_u, ↓CG_u, ↓IG_u, ↓VGtt, ↓VGtf, ↓VGft, ↓VGff, ↓UGtt, ↓UGtf, ↓UGft, ↓UGff, ↓MGtt, ↓MGtf, ↓MGft, ↓MGff, ↓NGtt, ↓NGtf, ↓NGft, ↓NGff, ↓PGtt, ↓PGtf, ↓PGft, ↓PGff, ↓BGtt, ↓BGtf, ↓BGft, ↓BGff, ↓CGtt, ↓CGtf, ↓CGft, ↓CGff, ↓IGtt, ↓IGtf, ↓IGft, ↓IGff, ↓PKt, ↓PKf, ↓CDt, ↓CDf, ↓NOTt, ↓NOTf, ↓NK_ptr]
    have f1 : FO Tryz.prog w2 62 1 1 ⟨w.heap.size, 0, none⟩ 5 (.int .u8 e.kind) := FO.blk hb2 (by kernel_rfl) uU8 rfl rfl
    obtain ⟨A, c, hes, _⟩ := reads_cap hok.exprs.1
    have f5 : FO Tryz.prog w2 62 5 5 ⟨w.heap.size, 0, none⟩ 60 (.slice A e.exprs.length c) := FO.blk hb2 (by kernel_rfl) uExs rfl (by rw [← hes]; rfl)
    simp only [↓f1.e]
    unfold outB
    rw [if_pos rfl]
    by_cases k14 : e.kind = 14
    · simp only [↓VG_u, ↓UG_u, ↓MG_u, ↓NG_u, ↓PG_u, ↓BG_u, ↓CG_u, ↓IG_u, ↓VGtt, ↓VGtf, ↓VGft, ↓VGff, ↓UGtt, ↓UGtf, ↓UGft, ↓UGff, ↓MGtt, ↓MGtf, ↓MGft, ↓MGff, ↓NGtt, ↓NGtf, ↓NGft, ↓NGff, ↓PGtt, ↓PGtf, ↓PGft, ↓PGff, ↓BGtt, ↓BGtf, ↓BGft, ↓BGff, ↓CGtt, ↓CGtf, ↓CGft, ↓CGff, ↓IGtt, ↓IGtf, ↓IGft, ↓IGff, ↓PKt, ↓PKf, ↓CDt, ↓CDf, ↓NOTt, ↓NOTf, ↓NK_ptr, ↓EQt k14]
      rw [if_pos k14]
      exact BKadd (a := r) (b := 2) rfl rfl (by omega) (by omega) ⟨rfl, hm02⟩
    · simp only [↓VG_u, ↓UG_u, ↓MG_u, ↓NG_u, ↓PG_u, ↓BG_u, ↓CG_u, ↓IG_u, ↓VGtt, ↓VGtf, ↓VGft, ↓VGff, ↓UGtt, ↓UGtf, ↓UGft, ↓UGff, ↓MGtt, ↓MGtf, ↓MGft, ↓MGff, ↓NGtt, ↓NGtf, ↓NGft, ↓NGff, ↓PGtt, ↓PGtf, ↓PGft, ↓PGff, ↓BGtt, ↓BGtf, ↓BGft, ↓BGff, ↓CGtt, ↓CGtf, ↓CGft, ↓CGff, ↓IGtt, ↓IGtf, ↓IGft, ↓IGff, ↓PKt, ↓PKf, ↓CDt, ↓CDf, ↓NOTt, ↓NOTf, ↓NK_ptr, ↓EQf k14]
      rw [if_neg k14]
      by_cases k11 : e.kind = 11
      · simp only [↓VG_u, ↓UG_u, ↓MG_u, ↓NG_u, ↓PG_u, ↓BG_u, ↓CG_u, ↓IG_u, ↓VGtt, ↓VGtf, ↓VGft, ↓VGff, ↓UGtt, ↓UGtf, ↓UGft, ↓UGff, ↓MGtt, ↓MGtf, ↓MGft, ↓MGff, ↓NGtt, ↓NGtf, ↓NGft, ↓NGff, ↓PGtt, ↓PGtf, ↓PGft, ↓PGff, ↓BGtt, ↓BGtf, ↓BGft, ↓BGff, ↓CGtt, ↓CGtf, ↓CGft, ↓CGff, ↓IGtt, ↓IGtf, ↓IGft, ↓IGff, ↓PKt, ↓PKf, ↓CDt, ↓CDf, ↓NOTt, ↓NOTf, ↓NK_ptr, ↓EQt k11]
        rw [if_pos k11]
        first | exact ⟨rfl, hm02⟩ | exact ⟨trivial, hm02⟩
      · simp only [↓VG_u, ↓UG_u, ↓MG_u, ↓NG_u, ↓PG_u, ↓BG_u, ↓CG_u, ↓IG_u, ↓VGtt, ↓VGtf, ↓VGft, ↓VGff, ↓UGtt, ↓UGtf, ↓UGft, ↓UGff, ↓MGtt, ↓MGtf, ↓MGft, ↓MGff, ↓NGtt, ↓NGtf, ↓NGft, ↓NGff, ↓PGtt, ↓PGtf, ↓PGft, ↓PGff, ↓BGtt, ↓BGtf, ↓BGft, ↓BGff, ↓CGtt, ↓CGtf, ↓CGft, ↓CGff, ↓IGtt, ↓IGtf, ↓IGft, ↓IGff, ↓PKt, ↓PKf, ↓CDt, ↓CDf, ↓NOTt, ↓NOTf, ↓NK_ptr, ↓EQf k11]
        rw [if_neg k11]
        by_cases k10 : e.kind = 10
        · simp only [↓VG_u, ↓UG_u, ↓MG_u, ↓NG_u, ↓PG_u, ↓BG_u, ↓CG_u, ↓IG_u, ↓VGtt, ↓VGtf, ↓VGft, ↓VGff, ↓UGtt, ↓UGtf, ↓UGft, ↓UGff, ↓MGtt, ↓MGtf, ↓MGft, ↓MGff, ↓NGtt, ↓NGtf, ↓NGft, ↓NGff, ↓PGtt, ↓PGtf, ↓PGft, ↓PGff, ↓BGtt, ↓BGtf, ↓BGft, ↓BGff, ↓CGtt, ↓CGtf, ↓CGft, ↓CGff, ↓IGtt, ↓IGtf, ↓IGft, ↓IGff, ↓PKt, ↓PKf, ↓CDt, ↓CDf, ↓NOTt, ↓NOTf, ↓NK_ptr, ↓EQt k10, ↓f5.e]
          rw [if_pos k10, len_sl uExs]
          exact BKadd (a := e.exprs.length) (b := 1) rfl rfl (by omega) (by omega) ⟨rfl, hm02⟩
        · simp only [↓VG_u, ↓UG_u, ↓MG_u, ↓NG_u, ↓PG_u, ↓BG_u, ↓CG_u, ↓IG_u, ↓VGtt, ↓VGtf, ↓VGft, ↓VGff, ↓UGtt, ↓UGtf, ↓UGft, ↓UGff, ↓MGtt, ↓MGtf, ↓MGft, ↓MGff, ↓NGtt, ↓NGtf, ↓NGft, ↓NGff, ↓PGtt, ↓PGtf, ↓PGft, ↓PGff, ↓BGtt, ↓BGtf, ↓BGft, ↓BGff, ↓CGtt, ↓CGtf, ↓CGft, ↓CGff, ↓IGtt, ↓IGtf, ↓IGft, ↓IGff, ↓PKt, ↓PKf, ↓CDt, ↓CDf, ↓NOTt, ↓NOTf, ↓NK_ptr, ↓EQf k10]
          rw [if_neg k10]
          by_cases k12 : e.kind = 12
          · simp only [↓VG_u, ↓UG_u, ↓MG_u, ↓NG_u, ↓PG_u, ↓BG_u, ↓CG_u, ↓IG_u, ↓VGtt, ↓VGtf, ↓VGft, ↓VGff, ↓UGtt, ↓UGtf, ↓UGft, ↓UGff, ↓MGtt, ↓MGtf, ↓MGft, ↓MGff, ↓NGtt, ↓NGtf, ↓NGft, ↓NGff, ↓PGtt, ↓PGtf, ↓PGft, ↓PGff, ↓BGtt, ↓BGtf, ↓BGft, ↓BGff, ↓CGtt, ↓CGtf, ↓CGft, ↓CGff, ↓IGtt, ↓IGtf, ↓IGft, ↓IGff, ↓PKt, ↓PKf, ↓CDt, ↓CDf, ↓NOTt, ↓NOTf, ↓NK_ptr, ↓EQt k12, ↓f5.e]
            rw [if_pos k12, len_sl uExs]
            exact BKadd (a := e.exprs.length) (b := 2) rfl rfl (by omega) (by omega) ⟨rfl, hm02⟩
          · simp only [↓VG_u, ↓UG_u, ↓MG_u, ↓NG_u, ↓PG_u, ↓BG_u, ↓CG_u, ↓IG_u, ↓VGtt, ↓VGtf, ↓VGft, ↓VGff, ↓UGtt, ↓UGtf, ↓UGft, ↓UGff, ↓MGtt, ↓MGtf, ↓MGft, ↓MGff, ↓NGtt, ↓NGtf, ↓NGft, ↓NGff, ↓PGtt, ↓PGtf, ↓PGft, ↓PGff, ↓BGtt, ↓BGtf, ↓BGft, ↓BGff, ↓CGtt, ↓CGtf, ↓CGft, ↓CGff, ↓IGtt, ↓IGtf, ↓IGft, ↓IGff, ↓PKt, ↓PKf, ↓CDt, ↓CDf, ↓NOTt, ↓NOTf, ↓NK_ptr, ↓EQf k12]
            rw [if_neg k12]
            exact BKadd (a := r) (b := 1) rfl rfl (by omega) (by omega) ⟨rfl, hm02⟩
theorem ways_ok {r : Int} (hr : 1 ≤ r ∧ r ≤ 64) : ∀ e : St, WaysOk r e := by
  intro e
  induction e using St.ind with
  | h e ih1 ih2 =>
  intro w hok hsz hmay
  have hse := St.sz_eq e
  obtain ⟨m1, m2, m3⟩ := may_parts hmay
  have ht := may_turns hmay
  have hweq := St.ways_eq r e
  refine limits_ways_calls ?_
  unfold limits_ways_F
  refine box_k (cs := e.cells.toArray) rfl fun w1 hb1 hm1 hz1 => ?_
  have f6 : FO Tryz.prog w1 62 6 6 ⟨w.heap.size, 0, none⟩ 23 e.bs := FO.blk hb1 (by kernel_rfl) uSts rfl rfl
  simp only [↓f6.e]
  refine Each_k hr.1 (hok.mod hm1).body (by omega) m2 ih1 fun y w2 hm2 => ?_
  have hm02 := hm1.trans hm2
  have hb2 := hm2.blk hb1 id
  have f0 : FO Tryz.prog w2 62 0 0 ⟨w.heap.size, 0, none⟩ 5 (.int .u8 e.op) := FO.blk hb2 (by kernel_rfl) uU8 rfl rfl
  have f4 : FO Tryz.prog w2 62 4 4 ⟨w.heap.size, 0, none⟩ 3 (.int .i64 e.turns) := FO.blk hb2 (by kernel_rfl) uI rfl rfl
  have f7 : FO Tryz.prog w2 62 7 7 ⟨w.heap.size, 0, none⟩ 23 e.ls := FO.blk hb2 (by kernel_rfl) uSts rfl rfl
  have hB := St.waysL_in hr.1 e.body
  simp only [↓f0.e]
  unfold waysB at hweq
  by_cases k3 : e.op = 3
  · simp only [↓VG_u, ↓UG_u, ↓MG_u, ↓NG_u, ↓PG_u, ↓BG_u, ↓CG_u, ↓IG_u, ↓VGtt, ↓VGtf, ↓VGft, ↓VGff, ↓UGtt, ↓UGtf, ↓UGft, ↓UGff, ↓MGtt, ↓MGtf, ↓MGft, ↓MGff, ↓NGtt, ↓NGtf, ↓NGft, ↓NGff, ↓PGtt, ↓PGtf, ↓PGft, ↓PGff, ↓BGtt, ↓BGtf, ↓BGft, ↓BGff, ↓CGtt, ↓CGtf, ↓CGft, ↓CGff, ↓IGtt, ↓IGtf, ↓IGft, ↓IGff, ↓PKt, ↓PKf, ↓CDt, ↓CDf, ↓NOTt, ↓NOTf, ↓NK_ptr, ↓EQt k3, ↓f7.e]
    rw [if_pos k3] at hweq
    refine Each_k hr.1 (hok.mod hm02).els (by omega) m3 ih2 fun y w3 hm3 => ?_
    rw [max_i]
    exact ⟨by rw [hweq]; rfl, hm02.trans hm3⟩
  · simp only [↓VG_u, ↓UG_u, ↓MG_u, ↓NG_u, ↓PG_u, ↓BG_u, ↓CG_u, ↓IG_u, ↓VGtt, ↓VGtf, ↓VGft, ↓VGff, ↓UGtt, ↓UGtf, ↓UGft, ↓UGff, ↓MGtt, ↓MGtf, ↓MGft, ↓MGff, ↓NGtt, ↓NGtf, ↓NGft, ↓NGff, ↓PGtt, ↓PGtf, ↓PGft, ↓PGff, ↓BGtt, ↓BGtf, ↓BGft, ↓BGff, ↓CGtt, ↓CGtf, ↓CGft, ↓CGff, ↓IGtt, ↓IGtf, ↓IGft, ↓IGff, ↓PKt, ↓PKf, ↓CDt, ↓CDf, ↓NOTt, ↓NOTf, ↓NK_ptr, ↓EQf k3]
    rw [if_neg k3] at hweq
    by_cases k4 : e.op = 4
    · simp only [↓VG_u, ↓UG_u, ↓MG_u, ↓NG_u, ↓PG_u, ↓BG_u, ↓CG_u, ↓IG_u, ↓VGtt, ↓VGtf, ↓VGft, ↓VGff, ↓UGtt, ↓UGtf, ↓UGft, ↓UGff, ↓MGtt, ↓MGtf, ↓MGft, ↓MGff, ↓NGtt, ↓NGtf, ↓NGft, ↓NGff, ↓PGtt, ↓PGtf, ↓PGft, ↓PGff, ↓BGtt, ↓BGtf, ↓BGft, ↓BGff, ↓CGtt, ↓CGtf, ↓CGft, ↓CGff, ↓IGtt, ↓IGtf, ↓IGft, ↓IGff, ↓PKt, ↓PKf, ↓CDt, ↓CDf, ↓NOTt, ↓NOTf, ↓NK_ptr, ↓EQt k4]
      rw [if_pos k4] at hweq
      by_cases h1 : 1 < St.waysL r e.body
      · simp only [↓VG_u, ↓UG_u, ↓MG_u, ↓NG_u, ↓PG_u, ↓BG_u, ↓CG_u, ↓IG_u, ↓VGtt, ↓VGtf, ↓VGft, ↓VGff, ↓UGtt, ↓UGtf, ↓UGft, ↓UGff, ↓MGtt, ↓MGtf, ↓MGft, ↓MGff, ↓NGtt, ↓NGtf, ↓NGft, ↓NGff, ↓PGtt, ↓PGtf, ↓PGft, ↓PGff, ↓BGtt, ↓BGtf, ↓BGft, ↓BGff, ↓CGtt, ↓CGtf, ↓CGft, ↓CGff, ↓IGtt, ↓IGtf, ↓IGft, ↓IGff, ↓PKt, ↓PKf, ↓CDt, ↓CDf, ↓NOTt, ↓NOTf, ↓NK_ptr, ↓GTt h1]
        rw [if_pos h1] at hweq
        first | exact ⟨by rw [hweq], hm02⟩ | exact ⟨trivial, hm02⟩
      · simp only [↓VG_u, ↓UG_u, ↓MG_u, ↓NG_u, ↓PG_u, ↓BG_u, ↓CG_u, ↓IG_u, ↓VGtt, ↓VGtf, ↓VGft, ↓VGff, ↓UGtt, ↓UGtf, ↓UGft, ↓UGff, ↓MGtt, ↓MGtf, ↓MGft, ↓MGff, ↓NGtt, ↓NGtf, ↓NGft, ↓NGff, ↓PGtt, ↓PGtf, ↓PGft, ↓PGff, ↓BGtt, ↓BGtf, ↓BGft, ↓BGff, ↓CGtt, ↓CGtf, ↓CGft, ↓CGff, ↓IGtt, ↓IGtf, ↓IGft, ↓IGff, ↓PKt, ↓PKf, ↓CDt, ↓CDf, ↓NOTt, ↓NOTf, ↓NK_ptr, ↓GTf (show St.waysL r e.body ≤ 1 by omega)]
        rw [if_neg h1] at hweq
        first | exact ⟨by rw [hweq], hm02⟩ | exact ⟨trivial, hm02⟩
    · simp only [↓VG_u, ↓UG_u, ↓MG_u, ↓NG_u, ↓PG_u, ↓BG_u, ↓CG_u, ↓IG_u, ↓VGtt, ↓VGtf, ↓VGft, ↓VGff, ↓UGtt, ↓UGtf, ↓UGft, ↓UGff, ↓MGtt, ↓MGtf, ↓MGft, ↓MGff, ↓NGtt, ↓NGtf, ↓NGft, ↓NGff, ↓PGtt, ↓PGtf, ↓PGft, ↓PGff, ↓BGtt, ↓BGtf, ↓BGft, ↓BGff, ↓CGtt, ↓CGtf, ↓CGft, ↓CGff, ↓IGtt, ↓IGtf, ↓IGft, ↓IGff, ↓PKt, ↓PKf, ↓CDt, ↓CDf, ↓NOTt, ↓NOTf, ↓NK_ptr, ↓EQf k4]
      rw [if_neg k4] at hweq
      by_cases k5 : e.op = 5
      · simp only [↓VG_u, ↓UG_u, ↓MG_u, ↓NG_u, ↓PG_u, ↓BG_u, ↓CG_u, ↓IG_u, ↓VGtt, ↓VGtf, ↓VGft, ↓VGff, ↓UGtt, ↓UGtf, ↓UGft, ↓UGff, ↓MGtt, ↓MGtf, ↓MGft, ↓MGff, ↓NGtt, ↓NGtf, ↓NGft, ↓NGff, ↓PGtt, ↓PGtf, ↓PGft, ↓PGff, ↓BGtt, ↓BGtf, ↓BGft, ↓BGff, ↓CGtt, ↓CGtf, ↓CGft, ↓CGff, ↓IGtt, ↓IGtf, ↓IGft, ↓IGff, ↓PKt, ↓PKf, ↓CDt, ↓CDf, ↓NOTt, ↓NOTf, ↓NK_ptr, ↓EQt k5, ↓f4.e]
        rw [if_pos k5] at hweq
        have fin : ∀ (ρ : Sl) (K : Exit → Sl → World → Prop), ρ 5 = .int .i64 (St.waysL r e.body) → ρ 6 = .int .i64 (if e.turns = 0 then r else e.turns) → (∀ ρ' w', ρ' 4 = .int .i64 (e.ways r) → Mod none_ w w' → K .ret ρ' w') → sx fn_ Tryz.prog 41 limits_ways_R0 K ρ w2 := by
          intro ρ K r5 r6 hK
          rw [limits_ways_R0_eq]
          unfold limits_ways_R0_F
          rw [r5, r6]
          refine Times_k hB.1 (by split <;> omega) fun y w3 hm3 => hK _ _ ?_ (hm02.trans hm3)
          show Value.int .i64 _ = _
          rw [hweq]
        by_cases h0 : e.turns = 0
        · simp only [↓VG_u, ↓UG_u, ↓MG_u, ↓NG_u, ↓PG_u, ↓BG_u, ↓CG_u, ↓IG_u, ↓VGtt, ↓VGtf, ↓VGft, ↓VGff, ↓UGtt, ↓UGtf, ↓UGft, ↓UGff, ↓MGtt, ↓MGtf, ↓MGft, ↓MGff, ↓NGtt, ↓NGtf, ↓NGft, ↓NGff, ↓PGtt, ↓PGtf, ↓PGft, ↓PGff, ↓BGtt, ↓BGtf, ↓BGft, ↓BGff, ↓CGtt, ↓CGtf, ↓CGft, ↓CGff, ↓IGtt, ↓IGtf, ↓IGft, ↓IGff, ↓PKt, ↓PKf, ↓CDt, ↓CDf, ↓NOTt, ↓NOTf, ↓NK_ptr, ↓EQt h0]
          refine fin _ _ ?_ ?_ fun ρ' w' h4 hm => ?_
          · rfl
          · rw [if_pos h0]; rfl
          · exact ⟨h4, hm⟩
        · simp only [↓VG_u, ↓UG_u, ↓MG_u, ↓NG_u, ↓PG_u, ↓BG_u, ↓CG_u, ↓IG_u, ↓VGtt, ↓VGtf, ↓VGft, ↓VGff, ↓UGtt, ↓UGtf, ↓UGft, ↓UGff, ↓MGtt, ↓MGtf, ↓MGft, ↓MGff, ↓NGtt, ↓NGtf, ↓NGft, ↓NGff, ↓PGtt, ↓PGtf, ↓PGft, ↓PGff, ↓BGtt, ↓BGtf, ↓BGft, ↓BGff, ↓CGtt, ↓CGtf, ↓CGft, ↓CGff, ↓IGtt, ↓IGtf, ↓IGft, ↓IGff, ↓PKt, ↓PKf, ↓CDt, ↓CDf, ↓NOTt, ↓NOTf, ↓NK_ptr, ↓EQf h0]
          refine fin _ _ ?_ ?_ fun ρ' w' h4 hm => ?_
          · rfl
          · rw [if_neg h0]; rfl
          · exact ⟨h4, hm⟩
      · simp only [↓VG_u, ↓UG_u, ↓MG_u, ↓NG_u, ↓PG_u, ↓BG_u, ↓CG_u, ↓IG_u, ↓VGtt, ↓VGtf, ↓VGft, ↓VGff, ↓UGtt, ↓UGtf, ↓UGft, ↓UGff, ↓MGtt, ↓MGtf, ↓MGft, ↓MGff, ↓NGtt, ↓NGtf, ↓NGft, ↓NGff, ↓PGtt, ↓PGtf, ↓PGft, ↓PGff, ↓BGtt, ↓BGtf, ↓BGft, ↓BGff, ↓CGtt, ↓CGtf, ↓CGft, ↓CGff, ↓IGtt, ↓IGtf, ↓IGft, ↓IGff, ↓PKt, ↓PKf, ↓CDt, ↓CDf, ↓NOTt, ↓NOTf, ↓NK_ptr, ↓EQf k5]
        rw [if_neg k5] at hweq
        refine ldS (cs := e.cells.toArray) rfl Tryz.underlying62 rfl iSt hb2 ?_
        refine CK_st Tryz.func46 rfl rfl (out_ok hr (hok.mod hm02) hsz) ?_
        rintro _ w3 ⟨rfl, hm3⟩
        exact ⟨by rw [hweq], hm02.trans hm3⟩
end Go.Proofs.YtpkfbaagpjdifaaGreatDoor.Tr
set_option linter.unusedVariables false
set_option linter.unusedSimpArgs false
set_option maxRecDepth 4000
namespace Go.Proofs.YtpkfbaagpjdifaaGreatDoor.Tr
open Go Go.X Go.RowKit Go.Proofs.YtpkfbaagpjdifaaGreatDoor.XG Go.Proofs.YtpkfbaagpjdifaaGreatDoor.XH Go.Proofs.YtpkfbaagpjdifaaGreatDoor.XK
theorem fldWr {w : World} {K : Value → World → Prop} (e : Wr) : VK Tryz.prog (Instr.field 64 e.v 0) w K = K (.int .i64 e.err) w := by
  refine VK_eq_of ?_
  unfold Instr.field
  simp [Sem.run_bind, run_underlying Tryz.underlying64, part, isE, Wr.v, Wr.cells, asAgg]
theorem ScCheck_ok {w : World} (hg : Gl w) {p : Pr} (h : p.Ok w) (hf : p.fits) : Rt Tryz.prog 26 #[.agg p.cells.toArray] w fun v w' => v = (checkP p).v ∧ Mod none_ w w' := by
  refine scope_Check_calls ?_
  unfold scope_Check_F
  refine box_k (cs := p.cells.toArray) rfl fun w1 hb1 hm1 hz1 => ?_
  refine al_k zWrg rfl _ fun w2 hb2 hm2 hz2 => ?_
  have hm02 := hm1.trans hm2
  refine ldB (cs := p.cells.toArray) Tryz.underlying25 rfl iPr (hm2.blk hb1 id) ?_
  refine CK_st Tryz.func42 rfl rfl (New_ok (hg.mod hm02) (h.mod hm02) hf) ?_
  rintro _ w3 ⟨x, rfl, hT⟩
  rw [extract_ok (v := x) rfl, extract_ok (v := (checkP p).v) rfl]
  have hm3 := hT.m
  have hb3 := hm3.blk hb2 id
  refine lcl_k (cs := (checkP p).cells.toArray) zWrg _ iWrg rfl (wr_one _) fun w4 hb4 hm4 hz4 => ?_
  refine ldB (cs := (checkP p).cells.toArray) Tryz.underlying64 rfl iWrg hb4 ?_
  refine stS (b := w1.heap.size) (old := zWr.cells.toArray) (cs := (checkP p).cells.toArray) rfl rfl iWrg rfl (wr_one _) (hm4.blk hb3 id) fun w5 hb5 hm5 _ => ?_
  exact ⟨_, res_ld (run_ldB (cs := (checkP p).cells.toArray) Tryz.underlying64 rfl iWrg hb5), rfl, ((hm02.trans hm3).trans hm4).then hm5 fun i hi q => absurd q (by omega)⟩
def ofP (p : Pr) (n : Int) : Bd × Int :=
  if (checkP p).err ≠ 0 ∨ n < 1 ∨ 64 < n then (zBd, 2) else if St.lpL p.body then (zBd, 90) else if 1048576 < (St.bdF n zBd p.body).s + 1 then (zBd, 90) else ((St.bdF n zBd p.body).and (Bd.mk 1 0 0), 0)
theorem of_may {p : Pr} (h : (checkP p).err = 0) : ∀ a ∈ p.body, a.may = true := by
  unfold checkP at h
  split at h
  · rename_i hm
    unfold Pr.may at hm
    simp only [Bool.and_eq_true, St.mayL_eq, List.all_eq_true] at hm
    exact hm.2
  · simp at h
theorem body_in {p : Pr} {n : Int} (hn : 1 ≤ n ∧ n ≤ 64) (hm : ∀ a ∈ p.body, a.may = true) (hf : p.fits) : (St.bdF n zBd p.body).In 1048577 := bdF_in (fun a ha => by
  obtain ⟨i, hi⟩ := List.getElem?_of_mem ha
  have := St.szL_at hi
  have := hf.2
  exact (bd_in hn a (hm a ha) (by omega)).1) (zBd_in _ (by decide))
theorem resOf {w w' : World} {b4 : Nat} {b old : Bd} {er : Int} {v : Value} {p : Pr} {n : Int} (g : w'.heap[b4]? = some (.cells old.cells.toArray 42 (0, 0))) (hm : Mod none_ w w') (hb : w.heap.size ≤ b4) (ho : ofP p n = (b, er)) (hv : v = b.v) :
    UK Tryz.prog (Instr.storeAt 42 (.pointer (some ⟨b4, 0, none⟩)) v) w' fun _ w'' => ∃ x, (do loadVar 42 (← asAddr (.pointer (some ⟨b4, 0, none⟩))) : Sem Value).run Tryz.prog w'' = .ok x w'' ∧ (Value.tuple #[x, .int .i64 er] = Value.tuple #[(ofP p n).1.v, .int .i64 (ofP p n).2] ∧ Mod none_ w w'') := by
  subst hv
  refine stS (b := b4) (old := old.cells.toArray) (cs := b.cells.toArray) rfl rfl iBnd rfl (bd_one _) g fun w5 hb5 hm5 _ => ?_
  exact ⟨_, res_ld (run_ldB (cs := b.cells.toArray) Tryz.underlying42 rfl iBnd hb5), by rw [ho]; rfl, hm.then hm5 fun i hi q => absurd q (by omega)⟩
theorem Of_ok {w : World} (hg : Gl w) {p : Pr} (h : p.Ok w) (hf : p.fits) (n : Int) : Rt Tryz.prog 16 #[.agg p.cells.toArray, .int .i64 n] w fun v w' => v = .tuple #[(ofP p n).1.v, .int .i64 (ofP p n).2] ∧ Mod none_ w w' := by
  refine bound_Of_calls ?_
  unfold bound_Of_F
  refine box_k (cs := p.cells.toArray) rfl fun w1 hb1 hm1 hz1 => ?_
  refine al_k zBnd rfl _ fun w2 hb2 hm2 hz2 => ?_
  have hm02 := hm1.trans hm2
  refine ldB (cs := p.cells.toArray) Tryz.underlying25 rfl iPr (hm2.blk hb1 id) ?_
  refine CK_st Tryz.func26 rfl rfl (ScCheck_ok (hg.mod hm02) (h.mod hm02) hf) ?_
  rintro _ w3 ⟨rfl, hm3⟩
  rw [fldWr]
  have hm03 := hm02.trans hm3
  have hb13 := (hm2.trans hm3).blk hb1 id
  have hb23 := hm3.blk hb2 id
  have hlt : w.heap.size < w1.heap.size := by omega
  clear hm1 hz1 hb1 hm2 hz2 hb2 hm3 hm02
  generalize w1.heap.size = b4 at *
  have hes : (checkP p).err ≠ 0 → ofP p n = (zBd, 2) := fun q => by unfold ofP; rw [if_pos (Or.inl q)]
  refine BKneI (a := (checkP p).err) (b := 0) rfl rfl (fun hz => ?_) (fun hz => ?_)
  rotate_left
  · simp only [CondK_bool, MG_u, NG_u, VG_u, UG_u, PG_u, BG_u, CG_u, IG_u, MG_b, NG_b, VG_b, UG_b, PG_b, BG_b, CG_b, IG_b, PK_bool, NK_ptr, not_ok, reduceCtorEq, if_true, if_false, Bool.true_eq_false, Bool.false_eq_true, Bool.not_true, Bool.not_false]
    rw [build_ok bBd0]
    exact resOf hb23 hm03 (by omega) (hes hz) rfl
  · have hmays := of_may hz
    simp only [CondK_bool, MG_u, NG_u, VG_u, UG_u, PG_u, BG_u, CG_u, IG_u, MG_b, NG_b, VG_b, UG_b, PG_b, BG_b, CG_b, IG_b, PK_bool, NK_ptr, not_ok, reduceCtorEq, if_true, if_false, Bool.true_eq_false, Bool.false_eq_true, Bool.not_true, Bool.not_false]
    refine BKlss (a := n) (b := 1) rfl rfl ?_
    by_cases h1 : n < 1
    · rw [decide_eq_true h1]
      simp only [CondK_bool, MG_u, NG_u, VG_u, UG_u, PG_u, BG_u, CG_u, IG_u, MG_b, NG_b, VG_b, UG_b, PG_b, BG_b, CG_b, IG_b, PK_bool, NK_ptr, not_ok, reduceCtorEq, if_true, if_false, Bool.true_eq_false, Bool.false_eq_true, Bool.not_true, Bool.not_false]
      rw [build_ok bBd0]
      exact resOf hb23 hm03 (by omega) (by unfold ofP; rw [if_pos (Or.inr (Or.inl h1))]) rfl
    rw [decide_eq_false h1]
    simp only [CondK_bool, MG_u, NG_u, VG_u, UG_u, PG_u, BG_u, CG_u, IG_u, MG_b, NG_b, VG_b, UG_b, PG_b, BG_b, CG_b, IG_b, PK_bool, NK_ptr, not_ok, reduceCtorEq, if_true, if_false, Bool.true_eq_false, Bool.false_eq_true, Bool.not_true, Bool.not_false]
    refine BKgtr (a := n) (b := 64) rfl rfl ?_
    by_cases h2 : 64 < n
    · rw [decide_eq_true h2]
      refine condT ?_
      rw [build_ok bBd0]
      exact resOf hb23 hm03 (by omega) (by unfold ofP; rw [if_pos (Or.inr (Or.inr h2))]) rfl
    rw [decide_eq_false h2]
    refine condF ?_
    have hn : 1 ≤ n ∧ n ≤ 64 := by omega
    have ho : ofP p n = if St.lpL p.body then (zBd, 90) else if 1048576 < (St.bdF n zBd p.body).s + 1 then (zBd, 90) else ((St.bdF n zBd p.body).and (Bd.mk 1 0 0), 0) := by
      unfold ofP
      rw [if_neg (by rintro (q | q | q); exact q hz; exact h1 q; exact h2 q)]
    refine ldB (cs := p.cells.toArray) Tryz.underlying25 rfl iPr hb13 ?_
    refine CK_st Tryz.func27 rfl rfl (Counted_ok (h.mod hm03) hf) ?_
    rintro _ w4 ⟨rfl, hm4⟩
    rw [not_ok, Bool.not_not]
    have hm04 := hm03.trans hm4
    cases hl : St.lpL p.body with
    | true =>
      refine condT ?_
      rw [build_ok bBd0]
      exact resOf (hm4.blk hb23 id) hm04 (by omega) (by rw [ho, hl]; rfl) rfl
    | false =>
      refine condF ?_
      rw [hl] at ho
      have f1 : FAt Tryz.prog w4 25 1 ⟨w.heap.size, 0, none⟩ 23 p.bs := FAt.mk' (off := 1) (by kernel_rfl) uSts rfl (by rw [add_pl, cell_blk (hm4.blk hb13 id)]; rfl)
      refine f1.vk' fun _ => ?_
      refine CK_st Tryz.func28 rfl rfl (All_ok hn p.body w4 _ (h.mod hm04).b hf.2 hmays) ?_
      rintro _ w5 ⟨rfl, hm5⟩
      rw [build_ok (bBd1 1)]
      have hbi := body_in hn hmays hf
      have hai : ((St.bdF n zBd p.body).and (Bd.mk 1 0 0)).In 1048578 := by
        obtain ⟨⟨x1, x2⟩, ⟨x3, x4⟩, x5, x6⟩ := hbi
        unfold Bd.and
        refine ⟨⟨?_, ?_⟩, ⟨?_, ?_⟩, ?_, ?_⟩ <;> dsimp only <;> omega
      refine CK_st Tryz.func29 rfl rfl (And_ok (b := Bd.mk 1 0 0) hai (by decide)) ?_
      rintro _ w6 ⟨rfl, hm6⟩
      refine lcl_k (cs := ((St.bdF n zBd p.body).and (Bd.mk 1 0 0)).cells.toArray) zBnd _ iBnd rfl (bd_one _) fun w7 hb7 hm7 hz7 => ?_
      have hm47 := (hm5.trans hm6).trans hm7
      have hm07 := hm04.trans hm47
      have hb27 := hm47.blk (hm4.blk hb23 id) id
      refine (bdF hb7).1.vk' fun _ => ?_
      refine BKgtr (a := (St.bdF n zBd p.body).s + 1) (b := 1048576) rfl rfl ?_
      refine caseC (fun hq => ?_) (fun hq => ?_)
      · rw [build_ok bBd0]
        exact resOf hb27 hm07 (by omega) (by rw [ho, if_neg (by simp), if_pos (of_decide_eq_true hq)]) rfl
      · refine ldB (cs := ((St.bdF n zBd p.body).and (Bd.mk 1 0 0)).cells.toArray) Tryz.underlying42 rfl iBnd hb7 ?_
        exact resOf hb27 hm07 (by omega) (by rw [ho, if_neg (by simp), if_neg (of_decide_eq_false hq)]) rfl
theorem OfR_ok {w : World} {p : Pr} (h : p.Ok w) (hf : p.fits) (n : Int) : Rt Tryz.prog 21 #[.agg p.cells.toArray, .int .i64 n] w fun v w' => v = .tuple #[(ofP p n).1.v, .int .i64 (ofP p n).2] ∧ Mod none_ w w' := by
  refine dispatcherref09_Of_calls ?_
  unfold dispatcherref09_Of_F
  refine box_k (cs := p.cells.toArray) rfl fun w1 hb1 hm1 hz1 => ?_
  refine al_k zBnd rfl _ fun w2 hb2 hm2 hz2 => ?_
  have hm02 := hm1.trans hm2
  refine ldB (cs := p.cells.toArray) Tryz.underlying25 rfl iPr (hm2.blk hb1 id) ?_
  refine CK_st Tryz.func34 rfl rfl (Check4_ok (h.mod hm02) hf) ?_
  rintro _ w3 ⟨rfl, hm3⟩
  rw [fldWr]
  have hm03 := hm02.trans hm3
  have hb13 := (hm2.trans hm3).blk hb1 id
  have hb23 := hm3.blk hb2 id
  have hlt : w.heap.size < w1.heap.size := by omega
  clear hm1 hz1 hb1 hm2 hz2 hb2 hm3 hm02
  generalize w1.heap.size = b4 at *
  have hes : (checkP p).err ≠ 0 → ofP p n = (zBd, 2) := fun q => by unfold ofP; rw [if_pos (Or.inl q)]
  refine BKneI (a := (checkP p).err) (b := 0) rfl rfl (fun hz => ?_) (fun hz => ?_)
  rotate_left
  · simp only [CondK_bool, MG_u, NG_u, VG_u, UG_u, PG_u, BG_u, CG_u, IG_u, MG_b, NG_b, VG_b, UG_b, PG_b, BG_b, CG_b, IG_b, PK_bool, NK_ptr, not_ok, reduceCtorEq, if_true, if_false, Bool.true_eq_false, Bool.false_eq_true, Bool.not_true, Bool.not_false]
    rw [build_ok bBd0]
    exact resOf hb23 hm03 (by omega) (hes hz) rfl
  · have hmays := of_may hz
    simp only [CondK_bool, MG_u, NG_u, VG_u, UG_u, PG_u, BG_u, CG_u, IG_u, MG_b, NG_b, VG_b, UG_b, PG_b, BG_b, CG_b, IG_b, PK_bool, NK_ptr, not_ok, reduceCtorEq, if_true, if_false, Bool.true_eq_false, Bool.false_eq_true, Bool.not_true, Bool.not_false]
    refine BKlss (a := n) (b := 1) rfl rfl ?_
    by_cases h1 : n < 1
    · rw [decide_eq_true h1]
      simp only [CondK_bool, MG_u, NG_u, VG_u, UG_u, PG_u, BG_u, CG_u, IG_u, MG_b, NG_b, VG_b, UG_b, PG_b, BG_b, CG_b, IG_b, PK_bool, NK_ptr, not_ok, reduceCtorEq, if_true, if_false, Bool.true_eq_false, Bool.false_eq_true, Bool.not_true, Bool.not_false]
      rw [build_ok bBd0]
      exact resOf hb23 hm03 (by omega) (by unfold ofP; rw [if_pos (Or.inr (Or.inl h1))]) rfl
    rw [decide_eq_false h1]
    simp only [CondK_bool, MG_u, NG_u, VG_u, UG_u, PG_u, BG_u, CG_u, IG_u, MG_b, NG_b, VG_b, UG_b, PG_b, BG_b, CG_b, IG_b, PK_bool, NK_ptr, not_ok, reduceCtorEq, if_true, if_false, Bool.true_eq_false, Bool.false_eq_true, Bool.not_true, Bool.not_false]
    refine BKgtr (a := n) (b := 64) rfl rfl ?_
    by_cases h2 : 64 < n
    · rw [decide_eq_true h2]
      refine condT ?_
      rw [build_ok bBd0]
      exact resOf hb23 hm03 (by omega) (by unfold ofP; rw [if_pos (Or.inr (Or.inr h2))]) rfl
    rw [decide_eq_false h2]
    refine condF ?_
    have hn : 1 ≤ n ∧ n ≤ 64 := by omega
    have ho : ofP p n = if St.lpL p.body then (zBd, 90) else if 1048576 < (St.bdF n zBd p.body).s + 1 then (zBd, 90) else ((St.bdF n zBd p.body).and (Bd.mk 1 0 0), 0) := by
      unfold ofP
      rw [if_neg (by rintro (q | q | q); exact q hz; exact h1 q; exact h2 q)]
    refine ldB (cs := p.cells.toArray) Tryz.underlying25 rfl iPr hb13 ?_
    refine CK_st Tryz.func35 rfl rfl (CountedR_ok (h.mod hm03) hf) ?_
    rintro _ w4 ⟨rfl, hm4⟩
    rw [not_ok, Bool.not_not]
    have hm04 := hm03.trans hm4
    cases hl : St.lpL p.body with
    | true =>
      refine condT ?_
      rw [build_ok bBd0]
      exact resOf (hm4.blk hb23 id) hm04 (by omega) (by rw [ho, hl]; rfl) rfl
    | false =>
      refine condF ?_
      rw [hl] at ho
      have f1 : FAt Tryz.prog w4 25 1 ⟨w.heap.size, 0, none⟩ 23 p.bs := FAt.mk' (off := 1) (by kernel_rfl) uSts rfl (by rw [add_pl, cell_blk (hm4.blk hb13 id)]; rfl)
      refine f1.vk' fun _ => ?_
      refine CK_st Tryz.func36 rfl rfl (StmtsR_ok hn p.body w4 _ (h.mod hm04).b hf.2 hmays) ?_
      rintro _ w5 ⟨rfl, hm5⟩
      have hbi := body_in hn hmays hf
      refine lcl_k (cs := (St.bdF n zBd p.body).cells.toArray) zBnd _ iBnd rfl (bd_one _) fun w6 hb6 hm6 hz6 => ?_
      have hm46 := hm5.trans hm6
      have hm06 := hm04.trans hm46
      have hb26 := hm46.blk (hm4.blk hb23 id) id
      have l4 : b4 < w5.heap.size := by have := X.blk_lt hb23; have := hm4.size; have := hm5.size; omega
      generalize w5.heap.size = b6 at *
      refine (bdF hb6).1.vk' fun _ => ?_
      have := hbi.1
      refine BKadd (a := (St.bdF n zBd p.body).s) (b := 1) rfl rfl (by omega) (by omega) ?_
      refine foBd (j := 0) (by decide) rfl ?_
      refine bdSt hb6 (j := 0) (by decide) rfl fun w7 hb7 hm7 => ?_
      rw [bd_set0] at hb7
      have hb7' : w7.heap[b6]? = some (.cells ((St.bdF n zBd p.body).and (Bd.mk 1 0 0)).cells.toArray 42 (0, 0)) := by
        rw [show (St.bdF n zBd p.body).and (Bd.mk 1 0 0) = Bd.mk ((St.bdF n zBd p.body).s + 1) (St.bdF n zBd p.body).c (St.bdF n zBd p.body).d by simp [Bd.and]]
        exact hb7
      have hm07 : Mod none_ w w7 := hm06.then hm7 fun i hi q => absurd q (by omega)
      have hb27 := hm7.blk hb26 (by omega)
      refine (bdF hb7').1.vk' fun _ => ?_
      refine BKgtr (a := (St.bdF n zBd p.body).s + 1) (b := 1048576) rfl rfl ?_
      refine caseC (fun hq => ?_) (fun hq => ?_)
      · rw [build_ok bBd0]
        exact resOf hb27 hm07 (by omega) (by rw [ho, if_neg (by simp), if_pos (of_decide_eq_true hq)]) rfl
      · refine ldB (cs := ((St.bdF n zBd p.body).and (Bd.mk 1 0 0)).cells.toArray) Tryz.underlying42 rfl iBnd hb7' ?_
        exact resOf hb27 hm07 (by omega) (by rw [ho, if_neg (by simp), if_neg (of_decide_eq_false hq)]) rfl
end Go.Proofs.YtpkfbaagpjdifaaGreatDoor.Tr
set_option linter.unusedVariables false
set_option linter.unusedSimpArgs false
set_option maxRecDepth 4000
namespace Go.X
open Go Go.RowKit Go.Proofs.YtpkfbaagpjdifaaGreatDoor.Tr
theorem mulP_far2 {a b : Int} (ha : 1 ≤ a) (hb : 1048576 ≤ b) : mulP a b = 1048576 := by
  unfold mulP
  have : 1 * 1048576 ≤ a * min b 1048576 := Int.mul_le_mul ha (by omega) (by omega) (by omega)
  omega
theorem mulP_less {a b : Int} (hb : b < 1048576) : mulP a b = min (a * b) 1048576 := by
  unfold mulP
  rw [show min b 1048576 = b by omega]
theorem Qmax_i {P : Program} {C : World → Prop} {ts : Array TypeId} {ty : TypeId} {cs : Array Bool} {k k' : IntKind} {a b : Int} {K : Value → Prop} (hk : K (.int k (if b > a then b else a))) : QK P C (builtin .max ts ty cs [Value.int k a, Value.int k' b].toArray) K := by
  refine ⟨_, fun w _ => ?_, hk⟩
  have : (builtin .max ts ty cs [Value.int k a, Value.int k' b].toArray).run P w = .ok (.value (.int k (if b > a then b else a))) w := by simp [builtin, run_max_int2]
  rw [this]
  exact ⟨rfl, rfl⟩
/-- Where a power stops. -/
theorem pow_stop {a n : Int} {i : Nat} (ha : 1 ≤ a) (hi : i ≤ n.toNat) (h1 : a = 1 → i = 0) (hs : n ≤ i ∨ 1048576 ≤ prodP (List.replicate i a) ∨ a ≤ 1) : prodP (List.replicate i a) = prodP (timesP a n) := by
  unfold timesP
  by_cases q : a = 1
  · rw [if_pos q, h1 q]; rfl
  · rw [if_neg q]
    rcases hs with hs | hs | hs
    · rw [show n.toNat = i by omega]
    · have hin := prodP_in (xs := List.replicate i a) fun x hx => by rw [List.eq_of_mem_replicate hx]; exact ha
      rw [show List.replicate n.toNat a = List.replicate i a ++ List.replicate (n.toNat - i) a by rw [List.replicate_append_replicate]; congr 1; omega]
      have h2 : prodP (List.replicate i a) = 1048576 := by omega
      unfold prodP at h2 ⊢
      rw [List.foldl_append, h2, foldP_far _ fun x hx => by rw [List.eq_of_mem_replicate hx]; exact ha]
    · omega
end Go.X
namespace Go.Proofs.YtpkfbaagpjdifaaGreatDoor.Tr
open Go Go.X Go.RowKit Go.Proofs.YtpkfbaagpjdifaaGreatDoor.XI Go.Proofs.YtpkfbaagpjdifaaGreatDoor.XK
theorem mul_ok {w : World} {a b : Int} (ha : 1 ≤ a ∧ a ≤ 1048576) (hb : 1 ≤ b) : Rt Tryz.prog 37 #[.int .i64 a, .int .i64 b] w fun v w' => v = .int .i64 (mulP a b) ∧ w' = w := by
  refine dispatcherref30_mul_calls ?_
  unfold dispatcherref30_mul_F
  by_cases h1 : 1048576 ≤ a
  · simp only [↓VG_u, ↓UG_u, ↓MG_u, ↓NG_u, ↓PG_u, ↓BG_u, ↓CG_u, ↓IG_u, ↓VGtt, ↓VGtf, ↓VGft, ↓VGff, ↓UGtt, ↓UGtf, ↓UGft, ↓UGff, ↓MGtt, ↓MGtf, ↓MGft, ↓MGff, ↓NGtt, ↓NGtf, ↓NGft, ↓NGff, ↓PGtt, ↓PGtf, ↓PGft, ↓PGff, ↓BGtt, ↓BGtf, ↓BGft, ↓BGff, ↓CGtt, ↓CGtf, ↓CGft, ↓CGff, ↓IGtt, ↓IGtf, ↓IGft, ↓IGff, ↓PKt, ↓PKf, ↓CDt, ↓CDf, ↓NOTt, ↓NOTf, ↓NK_ptr, ↓GEt h1]
    rw [show a = 1048576 by omega, mulP_far hb]
    first | exact ⟨rfl, rfl⟩ | exact ⟨trivial, trivial⟩ | trivial
  · simp only [↓VG_u, ↓UG_u, ↓MG_u, ↓NG_u, ↓PG_u, ↓BG_u, ↓CG_u, ↓IG_u, ↓VGtt, ↓VGtf, ↓VGft, ↓VGff, ↓UGtt, ↓UGtf, ↓UGft, ↓UGff, ↓MGtt, ↓MGtf, ↓MGft, ↓MGff, ↓NGtt, ↓NGtf, ↓NGft, ↓NGff, ↓PGtt, ↓PGtf, ↓PGft, ↓PGff, ↓BGtt, ↓BGtf, ↓BGft, ↓BGff, ↓CGtt, ↓CGtf, ↓CGft, ↓CGff, ↓IGtt, ↓IGtf, ↓IGft, ↓IGff, ↓PKt, ↓PKf, ↓CDt, ↓CDf, ↓NOTt, ↓NOTf, ↓NK_ptr, ↓GEf (show a < 1048576 by omega)]
    by_cases h2 : 1048576 ≤ b
    · simp only [↓VG_u, ↓UG_u, ↓MG_u, ↓NG_u, ↓PG_u, ↓BG_u, ↓CG_u, ↓IG_u, ↓VGtt, ↓VGtf, ↓VGft, ↓VGff, ↓UGtt, ↓UGtf, ↓UGft, ↓UGff, ↓MGtt, ↓MGtf, ↓MGft, ↓MGff, ↓NGtt, ↓NGtf, ↓NGft, ↓NGff, ↓PGtt, ↓PGtf, ↓PGft, ↓PGff, ↓BGtt, ↓BGtf, ↓BGft, ↓BGff, ↓CGtt, ↓CGtf, ↓CGft, ↓CGff, ↓IGtt, ↓IGtf, ↓IGft, ↓IGff, ↓PKt, ↓PKf, ↓CDt, ↓CDf, ↓NOTt, ↓NOTf, ↓NK_ptr, ↓GEt h2]
      rw [mulP_far2 ha.1 h2]
      first | exact ⟨rfl, rfl⟩ | exact ⟨trivial, trivial⟩ | trivial
    · simp only [↓VG_u, ↓UG_u, ↓MG_u, ↓NG_u, ↓PG_u, ↓BG_u, ↓CG_u, ↓IG_u, ↓VGtt, ↓VGtf, ↓VGft, ↓VGff, ↓UGtt, ↓UGtf, ↓UGft, ↓UGff, ↓MGtt, ↓MGtf, ↓MGft, ↓MGff, ↓NGtt, ↓NGtf, ↓NGft, ↓NGff, ↓PGtt, ↓PGtf, ↓PGft, ↓PGff, ↓BGtt, ↓BGtf, ↓BGft, ↓BGff, ↓CGtt, ↓CGtf, ↓CGft, ↓CGff, ↓IGtt, ↓IGtf, ↓IGft, ↓IGff, ↓PKt, ↓PKf, ↓CDt, ↓CDf, ↓NOTt, ↓NOTf, ↓NK_ptr, ↓GEf (show b < 1048576 by omega)]
      have hbig := mul_big ha (m := b) (by omega)
      rw [BK_mul, wrap_i (by omega) (by omega), mulP_less (by omega)]
      by_cases h3 : 1048576 ≤ a * b
      · simp only [↓VG_u, ↓UG_u, ↓MG_u, ↓NG_u, ↓PG_u, ↓BG_u, ↓CG_u, ↓IG_u, ↓VGtt, ↓VGtf, ↓VGft, ↓VGff, ↓UGtt, ↓UGtf, ↓UGft, ↓UGff, ↓MGtt, ↓MGtf, ↓MGft, ↓MGff, ↓NGtt, ↓NGtf, ↓NGft, ↓NGff, ↓PGtt, ↓PGtf, ↓PGft, ↓PGff, ↓BGtt, ↓BGtf, ↓BGft, ↓BGff, ↓CGtt, ↓CGtf, ↓CGft, ↓CGff, ↓IGtt, ↓IGtf, ↓IGft, ↓IGff, ↓PKt, ↓PKf, ↓CDt, ↓CDf, ↓NOTt, ↓NOTf, ↓NK_ptr, ↓GEt h3]
        rw [show min (a * b) 1048576 = 1048576 by omega]
        first | exact ⟨rfl, rfl⟩ | exact ⟨trivial, trivial⟩ | trivial
      · simp only [↓VG_u, ↓UG_u, ↓MG_u, ↓NG_u, ↓PG_u, ↓BG_u, ↓CG_u, ↓IG_u, ↓VGtt, ↓VGtf, ↓VGft, ↓VGff, ↓UGtt, ↓UGtf, ↓UGft, ↓UGff, ↓MGtt, ↓MGtf, ↓MGft, ↓MGff, ↓NGtt, ↓NGtf, ↓NGft, ↓NGff, ↓PGtt, ↓PGtf, ↓PGft, ↓PGff, ↓BGtt, ↓BGtf, ↓BGft, ↓BGff, ↓CGtt, ↓CGtf, ↓CGft, ↓CGff, ↓IGtt, ↓IGtf, ↓IGft, ↓IGff, ↓PKt, ↓PKf, ↓CDt, ↓CDf, ↓NOTt, ↓NOTf, ↓NK_ptr, ↓GEf (show a * b < 1048576 by omega)]
        rw [BK_mul, wrap_i (by omega) (by omega), show min (a * b) 1048576 = a * b by omega]
        first | exact ⟨rfl, rfl⟩ | exact ⟨trivial, trivial⟩ | trivial
theorem Power_ok {w : World} {a n : Int} (ha : 1 ≤ a ∧ a ≤ 1048576) (hn : n ≤ 1000000) : Rt Tryz.prog 22 #[.int .i64 a, .int .i64 n] w fun v w' => v = .int .i64 (prodP (timesP a n)) ∧ w' = w := by
  refine dispatcherref30_power_calls ?_
  unfold dispatcherref30_power_F
  refine W_loopG dispatcherref30_power_L0_ok (fun m ρ w' => ∃ i, i + m = n.toNat ∧ (a = 1 → i = 0) ∧ ρ 0 = .int .i64 a ∧ ρ 1 = .int .i64 n ∧ ρ 5 = .int .i64 (prodP (List.replicate i a)) ∧ ρ 6 = .int .i64 (i : Nat) ∧ w' = w) n.toNat ⟨0, by omega, fun _ => rfl, rfl, rfl, rfl, rfl, rfl⟩ ?_
  rintro m ρ w' ⟨i, hi, h1, q0, q1, q5, q6, rfl⟩
  have hin := prodP_in (xs := List.replicate i a) fun x hx => by rw [List.eq_of_mem_replicate hx]; exact ha.1
  rw [dispatcherref30_power_L0_eq]
  unfold dispatcherref30_power_L0_F
  rw [q0, q1, q5, q6]
  have stop : ∀ ρ' : Sl, ρ' 5 = .int .i64 (prodP (List.replicate i a)) → (n ≤ i ∨ 1048576 ≤ prodP (List.replicate i a) ∨ a ≤ 1) → sx fn_ Tryz.prog 24 dispatcherref30_power_R1 (retK Tryz.prog [ResultVar.tmp 4] fun v w'' => v = .int .i64 (prodP (timesP a n)) ∧ w'' = w') ρ' w' := by
    intro ρ' r5 hs
    rw [dispatcherref30_power_R1_eq]
    unfold dispatcherref30_power_R1_F
    rw [r5]
    exact ⟨by rw [← pow_stop ha.1 (by omega) h1 hs]; rfl, rfl⟩
  by_cases c1 : (i : Int) < n
  · simp only [↓VG_u, ↓UG_u, ↓MG_u, ↓NG_u, ↓PG_u, ↓BG_u, ↓CG_u, ↓IG_u, ↓VGtt, ↓VGtf, ↓VGft, ↓VGff, ↓UGtt, ↓UGtf, ↓UGft, ↓UGff, ↓MGtt, ↓MGtf, ↓MGft, ↓MGff, ↓NGtt, ↓NGtf, ↓NGft, ↓NGff, ↓PGtt, ↓PGtf, ↓PGft, ↓PGff, ↓BGtt, ↓BGtf, ↓BGft, ↓BGff, ↓CGtt, ↓CGtf, ↓CGft, ↓CGff, ↓IGtt, ↓IGtf, ↓IGft, ↓IGff, ↓PKt, ↓PKf, ↓CDt, ↓CDf, ↓NOTt, ↓NOTf, ↓NK_ptr, ↓LTt c1]
    by_cases c2 : prodP (List.replicate i a) < 1048576
    · simp only [↓VG_u, ↓UG_u, ↓MG_u, ↓NG_u, ↓PG_u, ↓BG_u, ↓CG_u, ↓IG_u, ↓VGtt, ↓VGtf, ↓VGft, ↓VGff, ↓UGtt, ↓UGtf, ↓UGft, ↓UGff, ↓MGtt, ↓MGtf, ↓MGft, ↓MGff, ↓NGtt, ↓NGtf, ↓NGft, ↓NGff, ↓PGtt, ↓PGtf, ↓PGft, ↓PGff, ↓BGtt, ↓BGtf, ↓BGft, ↓BGff, ↓CGtt, ↓CGtf, ↓CGft, ↓CGff, ↓IGtt, ↓IGtf, ↓IGft, ↓IGff, ↓PKt, ↓PKf, ↓CDt, ↓CDf, ↓NOTt, ↓NOTf, ↓NK_ptr, ↓LTt c2]
      by_cases c3 : 1 < a
      · simp only [↓VG_u, ↓UG_u, ↓MG_u, ↓NG_u, ↓PG_u, ↓BG_u, ↓CG_u, ↓IG_u, ↓VGtt, ↓VGtf, ↓VGft, ↓VGff, ↓UGtt, ↓UGtf, ↓UGft, ↓UGff, ↓MGtt, ↓MGtf, ↓MGft, ↓MGff, ↓NGtt, ↓NGtf, ↓NGft, ↓NGff, ↓PGtt, ↓PGtf, ↓PGft, ↓PGff, ↓BGtt, ↓BGtf, ↓BGft, ↓BGff, ↓CGtt, ↓CGtf, ↓CGft, ↓CGff, ↓IGtt, ↓IGtf, ↓IGft, ↓IGff, ↓PKt, ↓PKf, ↓CDt, ↓CDf, ↓NOTt, ↓NOTf, ↓NK_ptr, ↓GTt c3]
        refine CK_st Tryz.func37 rfl rfl (mul_ok hin ha.1) ?_
        rintro _ _ ⟨rfl, rfl⟩
        refine BKadd (a := i) (b := 1) rfl rfl (by omega) (by omega) ⟨m - 1, by omega, i + 1, by omega, fun q => by omega, ?_, ?_, ?_, rfl, rfl⟩
        · exact q0
        · exact q1
        · rw [List.replicate_succ', prodP_snoc]; rfl
      · simp only [↓VG_u, ↓UG_u, ↓MG_u, ↓NG_u, ↓PG_u, ↓BG_u, ↓CG_u, ↓IG_u, ↓VGtt, ↓VGtf, ↓VGft, ↓VGff, ↓UGtt, ↓UGtf, ↓UGft, ↓UGff, ↓MGtt, ↓MGtf, ↓MGft, ↓MGff, ↓NGtt, ↓NGtf, ↓NGft, ↓NGff, ↓PGtt, ↓PGtf, ↓PGft, ↓PGff, ↓BGtt, ↓BGtf, ↓BGft, ↓BGff, ↓CGtt, ↓CGtf, ↓CGft, ↓CGff, ↓IGtt, ↓IGtf, ↓IGft, ↓IGff, ↓PKt, ↓PKf, ↓CDt, ↓CDf, ↓NOTt, ↓NOTf, ↓NK_ptr, ↓GTf (show a ≤ 1 by omega)]
        rw [sq_x, bk_x, sq_n]
        refine stop _ ?_ (.inr (.inr (by omega)))
        exact q5
    · simp only [↓VG_u, ↓UG_u, ↓MG_u, ↓NG_u, ↓PG_u, ↓BG_u, ↓CG_u, ↓IG_u, ↓VGtt, ↓VGtf, ↓VGft, ↓VGff, ↓UGtt, ↓UGtf, ↓UGft, ↓UGff, ↓MGtt, ↓MGtf, ↓MGft, ↓MGff, ↓NGtt, ↓NGtf, ↓NGft, ↓NGff, ↓PGtt, ↓PGtf, ↓PGft, ↓PGff, ↓BGtt, ↓BGtf, ↓BGft, ↓BGff, ↓CGtt, ↓CGtf, ↓CGft, ↓CGff, ↓IGtt, ↓IGtf, ↓IGft, ↓IGff, ↓PKt, ↓PKf, ↓CDt, ↓CDf, ↓NOTt, ↓NOTf, ↓NK_ptr, ↓LTf (show 1048576 ≤ prodP (List.replicate i a) by omega)]
      rw [sq_x, bk_x, sq_n]
      refine stop _ ?_ (.inr (.inl (by omega)))
      exact q5
  · simp only [↓VG_u, ↓UG_u, ↓MG_u, ↓NG_u, ↓PG_u, ↓BG_u, ↓CG_u, ↓IG_u, ↓VGtt, ↓VGtf, ↓VGft, ↓VGff, ↓UGtt, ↓UGtf, ↓UGft, ↓UGff, ↓MGtt, ↓MGtf, ↓MGft, ↓MGff, ↓NGtt, ↓NGtf, ↓NGft, ↓NGff, ↓PGtt, ↓PGtf, ↓PGft, ↓PGff, ↓BGtt, ↓BGtf, ↓BGft, ↓BGff, ↓CGtt, ↓CGtf, ↓CGft, ↓CGff, ↓IGtt, ↓IGtf, ↓IGft, ↓IGff, ↓PKt, ↓PKf, ↓CDt, ↓CDf, ↓NOTt, ↓NOTf, ↓NK_ptr, ↓LTf (show n ≤ (i : Int) by omega)]
    rw [sq_x, bk_x, sq_n]
    refine stop _ ?_ (.inl (by omega))
    exact q5
def StmtW (r : Int) (e : St) : Prop := ∀ w : World, e.Ok w → e.sz ≤ 1099511627776 → e.may = true → Rt Tryz.prog 38 #[.agg e.cells.toArray, .int .i64 r] w fun v w' => v = .int .i64 (e.ways r) ∧ Mod none_ w w'
def StmtsW (r : Int) (l : List St) : Prop := ∀ (w : World) (s : Value), StsOk w s l → St.szL l ≤ 1099511627776 → (∀ a ∈ l, a.may = true) → Rt Tryz.prog 23 #[s, .int .i64 r] w fun v w' => v = .int .i64 (St.waysL r l) ∧ Mod none_ w w'
theorem stmtsW {r : Int} (hr : 1 ≤ r ∧ r ≤ 64) {l : List St} (ih : ∀ a ∈ l, StmtW r a) : StmtsW r l := by
  intro w s hok hsz hmay
  have hlen := St.len_sz l
  obtain ⟨A, c, rfl, _⟩ := reads_cap hok.1
  refine dispatcherref30_Stmts_calls ?_
  unfold dispatcherref30_Stmts_F
  refine W_loopG dispatcherref30_Stmts_L0_ok (fun m ρ w' => ∃ n, n + m = l.length ∧ ρ 0 = .slice A l.length c ∧ ρ 1 = .int .i64 r ∧ ρ 5 = .int .i64 (St.waysL r (l.take n)) ∧ ρ 6 = .int .i64 (n : Nat) ∧ Mod none_ w w') l.length ⟨0, by omega, rfl, rfl, rfl, rfl, Mod.refl _ _⟩ ?_
  rintro m ρ w2 ⟨n, hn, q0, q1, q5, q6, hm⟩
  rw [dispatcherref30_Stmts_L0_eq]
  unfold dispatcherref30_Stmts_L0_F
  rw [q0, q1, q5, q6, len_sl uSts]
  by_cases hlt : n < l.length
  · simp only [↓VG_u, ↓UG_u, ↓MG_u, ↓NG_u, ↓PG_u, ↓BG_u, ↓CG_u, ↓IG_u, ↓VGtt, ↓VGtf, ↓VGft, ↓VGff, ↓UGtt, ↓UGtf, ↓UGft, ↓UGff, ↓MGtt, ↓MGtf, ↓MGft, ↓MGff, ↓NGtt, ↓NGtf, ↓NGft, ↓NGff, ↓PGtt, ↓PGtf, ↓PGft, ↓PGff, ↓BGtt, ↓BGtf, ↓BGft, ↓BGff, ↓CGtt, ↓CGtf, ↓CGft, ↓CGff, ↓IGtt, ↓IGtf, ↓IGft, ↓IGff, ↓PKt, ↓PKf, ↓CDt, ↓CDf, ↓NOTt, ↓NOTf, ↓NK_ptr, ↓LTt (show (n : Int) < (l.length : Int) by omega)]
    have hx : l[n]? = some l[n] := List.getElem?_eq_getElem hlt
    have hmem := List.getElem_mem hlt
    have hok2 := hok.mod hm
    have hsn := St.szL_at hx
    refine ixSt hok2 hx fun x16 => ?_
    refine CK_st Tryz.func38 rfl rfl (ih _ hmem w2 (hok2.at hx) (by omega) (hmay _ hmem)) ?_
    rintro _ w3 ⟨rfl, hm3⟩
    refine CK_st Tryz.func37 rfl rfl (mul_ok (St.waysL_in hr.1 _) (St.ways_in hr.1 _)) ?_
    rintro _ _ ⟨rfl, rfl⟩
    refine BKadd (a := n) (b := 1) rfl rfl (by omega) (by omega) ⟨m - 1, by omega, n + 1, by omega, ?_, ?_, ?_, rfl, hm.trans hm3⟩
    · exact q0
    · exact q1
    · show Value.int .i64 (mulP (St.waysL r (l.take n)) (l[n].ways r)) = _
      unfold St.waysL
      rw [List.take_add_one, hx, Option.toList_some, List.map_append, List.map_singleton, prodP_snoc]
  · simp only [↓VG_u, ↓UG_u, ↓MG_u, ↓NG_u, ↓PG_u, ↓BG_u, ↓CG_u, ↓IG_u, ↓VGtt, ↓VGtf, ↓VGft, ↓VGff, ↓UGtt, ↓UGtf, ↓UGft, ↓UGff, ↓MGtt, ↓MGtf, ↓MGft, ↓MGff, ↓NGtt, ↓NGtf, ↓NGft, ↓NGff, ↓PGtt, ↓PGtf, ↓PGft, ↓PGff, ↓BGtt, ↓BGtf, ↓BGft, ↓BGff, ↓CGtt, ↓CGtf, ↓CGft, ↓CGff, ↓IGtt, ↓IGtf, ↓IGft, ↓IGff, ↓PKt, ↓PKf, ↓CDt, ↓CDf, ↓NOTt, ↓NOTf, ↓NK_ptr, ↓LTf (show (l.length : Int) ≤ (n : Int) by omega)]
    rw [sq_x, bk_x, sq_n, dispatcherref30_Stmts_R1_eq]
    unfold dispatcherref30_Stmts_R1_F
    rw [List.take_of_length_le (by omega)] at q5
    exact ⟨q5, hm⟩
theorem stmtW {r : Int} (hr : 1 ≤ r ∧ r ≤ 64) : ∀ e : St, StmtW r e := by
  intro e
  induction e using St.ind with
  | h e ih1 ih2 =>
  intro w hok hsz hmay
  have hse := St.sz_eq e
  obtain ⟨m1, m2, m3⟩ := may_parts hmay
  have ht := may_turns hmay
  have hweq := St.ways_eq r e
  have hB := St.waysL_in hr.1 e.body
  refine dispatcherref30_stmt_calls ?_
  unfold dispatcherref30_stmt_F
  refine box_k (cs := e.cells.toArray) rfl fun w1 hb1 hm1 hz1 => ?_
  have hok1 := hok.mod hm1
  obtain ⟨A, c, hes, _⟩ := reads_cap hok.exprs.1
  have F : ∀ w', Mod none_ w1 w' → FO Tryz.prog w' 62 0 0 ⟨w.heap.size, 0, none⟩ 5 (.int .u8 e.op) ∧ FO Tryz.prog w' 62 1 1 ⟨w.heap.size, 0, none⟩ 5 (.int .u8 e.kind) ∧ FO Tryz.prog w' 62 4 4 ⟨w.heap.size, 0, none⟩ 3 (.int .i64 e.turns) ∧
      FO Tryz.prog w' 62 5 5 ⟨w.heap.size, 0, none⟩ 60 (.slice A e.exprs.length c) ∧ FO Tryz.prog w' 62 6 6 ⟨w.heap.size, 0, none⟩ 23 e.bs ∧ FO Tryz.prog w' 62 7 7 ⟨w.heap.size, 0, none⟩ 23 e.ls := fun w' hw =>
    ⟨FO.blk (hw.blk hb1 id) (by kernel_rfl) uU8 rfl rfl, FO.blk (hw.blk hb1 id) (by kernel_rfl) uU8 rfl rfl, FO.blk (hw.blk hb1 id) (by kernel_rfl) uI rfl rfl, FO.blk (hw.blk hb1 id) (by kernel_rfl) uExs rfl (by rw [← hes]; rfl), FO.blk (hw.blk hb1 id) (by kernel_rfl) uSts rfl rfl, FO.blk (hw.blk hb1 id) (by kernel_rfl) uSts rfl rfl⟩
  obtain ⟨f0, f1, f4, f5, f6, f7⟩ := F w1 (Mod.refl _ _)
  have cells : ∀ w', Mod none_ w1 w' → w'.heap[w.heap.size]? = some (.cells e.cells.toArray 62 (0, 0)) := fun w' hw => hw.blk hb1 id
  simp only [↓f0.e]
  unfold waysB at hweq
  by_cases k3 : e.op = 3
  · simp only [↓VG_u, ↓UG_u, ↓MG_u, ↓NG_u, ↓PG_u, ↓BG_u, ↓CG_u, ↓IG_u, ↓VGtt, ↓VGtf, ↓VGft, ↓VGff, ↓UGtt, ↓UGtf, ↓UGft, ↓UGff, ↓MGtt, ↓MGtf, ↓MGft, ↓MGff, ↓NGtt, ↓NGtf, ↓NGft, ↓NGff, ↓PGtt, ↓PGtf, ↓PGft, ↓PGff, ↓BGtt, ↓BGtf, ↓BGft, ↓BGff, ↓CGtt, ↓CGtf, ↓CGft, ↓CGff, ↓IGtt, ↓IGtf, ↓IGft, ↓IGff, ↓PKt, ↓PKf, ↓CDt, ↓CDf, ↓NOTt, ↓NOTf, ↓NK_ptr, ↓EQt k3]
    rw [if_pos k3] at hweq
    refine dispatcherref30_stmt_R0_quiet (D := []) (fun w' => Mod none_ w1 w') ((Mod.refl _ w1).drawn _) ?_
    unfold dispatcherref30_stmt_R0_Q
    refine Qfo (off := 6) (a := ⟨w.heap.size, 0, none⟩) (by kernel_rfl) (Qld uSts rfl (v := e.bs) (fun w' hw => by rw [add_pl, cell_blk (cells w' hw)]; rfl) ?_)
    refine QC_rt (R := fun w' v w'' => v = .int .i64 (St.waysL r e.body) ∧ Mod none_ w' w'') Tryz.func23 rfl rfl (v := .int .i64 (St.waysL r e.body)) (fun w' hw => stmtsW hr ih1 w' _ (hok1.mod hw).body (by omega) m2) (fun w' u w'' hw hu => ⟨hu.1, hw.trans hu.2⟩) ?_
    refine Qfo (off := 7) (a := ⟨w.heap.size, 0, none⟩) (by kernel_rfl) (Qld uSts rfl (v := e.ls) (fun w' hw => by rw [add_pl, cell_blk (cells w' hw)]; rfl) ?_)
    refine QC_rt (R := fun w' v w'' => v = .int .i64 (St.waysL r e.els) ∧ Mod none_ w' w'') Tryz.func23 rfl rfl (v := .int .i64 (St.waysL r e.els)) (fun w' hw => stmtsW hr ih2 w' _ (hok1.mod hw).els (by omega) m3) (fun w' u w'' hw hu => ⟨hu.1, hw.trans hu.2⟩) ?_
    refine Qmax_i ?_
    intro w2 hm2
    rw [sq_n, dispatcherref30_stmt_R1_eq]
    unfold dispatcherref30_stmt_R1_F
    exact ⟨by rw [hweq]; rfl, hm1.trans hm2⟩
  · simp only [↓VG_u, ↓UG_u, ↓MG_u, ↓NG_u, ↓PG_u, ↓BG_u, ↓CG_u, ↓IG_u, ↓VGtt, ↓VGtf, ↓VGft, ↓VGff, ↓UGtt, ↓UGtf, ↓UGft, ↓UGff, ↓MGtt, ↓MGtf, ↓MGft, ↓MGff, ↓NGtt, ↓NGtf, ↓NGft, ↓NGff, ↓PGtt, ↓PGtf, ↓PGft, ↓PGff, ↓BGtt, ↓BGtf, ↓BGft, ↓BGff, ↓CGtt, ↓CGtf, ↓CGft, ↓CGff, ↓IGtt, ↓IGtf, ↓IGft, ↓IGff, ↓PKt, ↓PKf, ↓CDt, ↓CDf, ↓NOTt, ↓NOTf, ↓NK_ptr, ↓EQf k3]
    rw [if_neg k3] at hweq
    by_cases k4 : e.op = 4
    · simp only [↓VG_u, ↓UG_u, ↓MG_u, ↓NG_u, ↓PG_u, ↓BG_u, ↓CG_u, ↓IG_u, ↓VGtt, ↓VGtf, ↓VGft, ↓VGff, ↓UGtt, ↓UGtf, ↓UGft, ↓UGff, ↓MGtt, ↓MGtf, ↓MGft, ↓MGff, ↓NGtt, ↓NGtf, ↓NGft, ↓NGff, ↓PGtt, ↓PGtf, ↓PGft, ↓PGff, ↓BGtt, ↓BGtf, ↓BGft, ↓BGff, ↓CGtt, ↓CGtf, ↓CGft, ↓CGff, ↓IGtt, ↓IGtf, ↓IGft, ↓IGff, ↓PKt, ↓PKf, ↓CDt, ↓CDf, ↓NOTt, ↓NOTf, ↓NK_ptr, ↓EQt k4, ↓f6.e]
      rw [if_pos k4] at hweq
      refine CK_st Tryz.func23 rfl rfl (stmtsW hr ih1 w1 _ hok1.body (by omega) m2) ?_
      rintro _ w2 ⟨rfl, hm2⟩
      have hm02 := hm1.trans hm2
      by_cases h1 : 1 < St.waysL r e.body
      · simp only [↓VG_u, ↓UG_u, ↓MG_u, ↓NG_u, ↓PG_u, ↓BG_u, ↓CG_u, ↓IG_u, ↓VGtt, ↓VGtf, ↓VGft, ↓VGff, ↓UGtt, ↓UGtf, ↓UGft, ↓UGff, ↓MGtt, ↓MGtf, ↓MGft, ↓MGff, ↓NGtt, ↓NGtf, ↓NGft, ↓NGff, ↓PGtt, ↓PGtf, ↓PGft, ↓PGff, ↓BGtt, ↓BGtf, ↓BGft, ↓BGff, ↓CGtt, ↓CGtf, ↓CGft, ↓CGff, ↓IGtt, ↓IGtf, ↓IGft, ↓IGff, ↓PKt, ↓PKf, ↓CDt, ↓CDf, ↓NOTt, ↓NOTf, ↓NK_ptr, ↓GTt h1]
        rw [if_pos h1] at hweq
        first | exact ⟨by rw [hweq], hm02⟩ | exact ⟨trivial, hm02⟩
      · simp only [↓VG_u, ↓UG_u, ↓MG_u, ↓NG_u, ↓PG_u, ↓BG_u, ↓CG_u, ↓IG_u, ↓VGtt, ↓VGtf, ↓VGft, ↓VGff, ↓UGtt, ↓UGtf, ↓UGft, ↓UGff, ↓MGtt, ↓MGtf, ↓MGft, ↓MGff, ↓NGtt, ↓NGtf, ↓NGft, ↓NGff, ↓PGtt, ↓PGtf, ↓PGft, ↓PGff, ↓BGtt, ↓BGtf, ↓BGft, ↓BGff, ↓CGtt, ↓CGtf, ↓CGft, ↓CGff, ↓IGtt, ↓IGtf, ↓IGft, ↓IGff, ↓PKt, ↓PKf, ↓CDt, ↓CDf, ↓NOTt, ↓NOTf, ↓NK_ptr, ↓GTf (show St.waysL r e.body ≤ 1 by omega)]
        rw [if_neg h1] at hweq
        first | exact ⟨by rw [hweq], hm02⟩ | exact ⟨trivial, hm02⟩
    · simp only [↓VG_u, ↓UG_u, ↓MG_u, ↓NG_u, ↓PG_u, ↓BG_u, ↓CG_u, ↓IG_u, ↓VGtt, ↓VGtf, ↓VGft, ↓VGff, ↓UGtt, ↓UGtf, ↓UGft, ↓UGff, ↓MGtt, ↓MGtf, ↓MGft, ↓MGff, ↓NGtt, ↓NGtf, ↓NGft, ↓NGff, ↓PGtt, ↓PGtf, ↓PGft, ↓PGff, ↓BGtt, ↓BGtf, ↓BGft, ↓BGff, ↓CGtt, ↓CGtf, ↓CGft, ↓CGff, ↓IGtt, ↓IGtf, ↓IGft, ↓IGff, ↓PKt, ↓PKf, ↓CDt, ↓CDf, ↓NOTt, ↓NOTf, ↓NK_ptr, ↓EQf k4]
      rw [if_neg k4] at hweq
      by_cases k5 : e.op = 5
      · simp only [↓VG_u, ↓UG_u, ↓MG_u, ↓NG_u, ↓PG_u, ↓BG_u, ↓CG_u, ↓IG_u, ↓VGtt, ↓VGtf, ↓VGft, ↓VGff, ↓UGtt, ↓UGtf, ↓UGft, ↓UGff, ↓MGtt, ↓MGtf, ↓MGft, ↓MGff, ↓NGtt, ↓NGtf, ↓NGft, ↓NGff, ↓PGtt, ↓PGtf, ↓PGft, ↓PGff, ↓BGtt, ↓BGtf, ↓BGft, ↓BGff, ↓CGtt, ↓CGtf, ↓CGft, ↓CGff, ↓IGtt, ↓IGtf, ↓IGft, ↓IGff, ↓PKt, ↓PKf, ↓CDt, ↓CDf, ↓NOTt, ↓NOTf, ↓NK_ptr, ↓EQt k5, ↓f4.e]
        rw [if_pos k5] at hweq
        by_cases h0 : e.turns = 0
        · simp only [↓VG_u, ↓UG_u, ↓MG_u, ↓NG_u, ↓PG_u, ↓BG_u, ↓CG_u, ↓IG_u, ↓VGtt, ↓VGtf, ↓VGft, ↓VGff, ↓UGtt, ↓UGtf, ↓UGft, ↓UGff, ↓MGtt, ↓MGtf, ↓MGft, ↓MGff, ↓NGtt, ↓NGtf, ↓NGft, ↓NGff, ↓PGtt, ↓PGtf, ↓PGft, ↓PGff, ↓BGtt, ↓BGtf, ↓BGft, ↓BGff, ↓CGtt, ↓CGtf, ↓CGft, ↓CGff, ↓IGtt, ↓IGtf, ↓IGft, ↓IGff, ↓PKt, ↓PKf, ↓CDt, ↓CDf, ↓NOTt, ↓NOTf, ↓NK_ptr, ↓EQt h0, ↓f6.e]
          rw [if_pos h0] at hweq
          refine CK_st Tryz.func23 rfl rfl (stmtsW hr ih1 w1 _ hok1.body (by omega) m2) ?_
          rintro _ w2 ⟨rfl, hm2⟩
          refine CK_st Tryz.func22 rfl rfl (Power_ok hB (by omega)) ?_
          rintro _ _ ⟨rfl, rfl⟩
          exact ⟨by rw [hweq], hm1.trans hm2⟩
        · simp only [↓VG_u, ↓UG_u, ↓MG_u, ↓NG_u, ↓PG_u, ↓BG_u, ↓CG_u, ↓IG_u, ↓VGtt, ↓VGtf, ↓VGft, ↓VGff, ↓UGtt, ↓UGtf, ↓UGft, ↓UGff, ↓MGtt, ↓MGtf, ↓MGft, ↓MGff, ↓NGtt, ↓NGtf, ↓NGft, ↓NGff, ↓PGtt, ↓PGtf, ↓PGft, ↓PGff, ↓BGtt, ↓BGtf, ↓BGft, ↓BGff, ↓CGtt, ↓CGtf, ↓CGft, ↓CGff, ↓IGtt, ↓IGtf, ↓IGft, ↓IGff, ↓PKt, ↓PKf, ↓CDt, ↓CDf, ↓NOTt, ↓NOTf, ↓NK_ptr, ↓EQf h0]
          rw [if_neg h0] at hweq
          refine dispatcherref30_stmt_R3_quiet (D := []) (fun w' => Mod none_ w1 w') ((Mod.refl _ w1).drawn _) ?_
          unfold dispatcherref30_stmt_R3_Q
          refine Qfo (off := 6) (a := ⟨w.heap.size, 0, none⟩) (by kernel_rfl) (Qld uSts rfl (v := e.bs) (fun w' hw => by rw [add_pl, cell_blk (cells w' hw)]; rfl) ?_)
          refine QC_rt (R := fun w' v w'' => v = .int .i64 (St.waysL r e.body) ∧ Mod none_ w' w'') Tryz.func23 rfl rfl (v := .int .i64 (St.waysL r e.body)) (fun w' hw => stmtsW hr ih1 w' _ (hok1.mod hw).body (by omega) m2) (fun w' u w'' hw hu => ⟨hu.1, hw.trans hu.2⟩) ?_
          refine Qfo (off := 4) (a := ⟨w.heap.size, 0, none⟩) (by kernel_rfl) (Qld uI rfl (v := .int .i64 e.turns) (fun w' hw => by rw [add_pl, cell_blk (cells w' hw)]; rfl) ?_)
          refine QC_rt (R := fun w' v w'' => v = .int .i64 (prodP (timesP (St.waysL r e.body) e.turns)) ∧ w'' = w') Tryz.func22 rfl rfl (v := .int .i64 (prodP (timesP (St.waysL r e.body) e.turns))) (fun w' hw => Power_ok hB (by omega)) (fun w' u w'' hw hu => ⟨hu.1, hu.2 ▸ hw⟩) ?_
          intro w2 hm2
          rw [sq_n, dispatcherref30_stmt_R4_eq]
          unfold dispatcherref30_stmt_R4_F
          exact ⟨by rw [hweq]; rfl, hm1.trans hm2⟩
      · simp only [↓VG_u, ↓UG_u, ↓MG_u, ↓NG_u, ↓PG_u, ↓BG_u, ↓CG_u, ↓IG_u, ↓VGtt, ↓VGtf, ↓VGft, ↓VGff, ↓UGtt, ↓UGtf, ↓UGft, ↓UGff, ↓MGtt, ↓MGtf, ↓MGft, ↓MGff, ↓NGtt, ↓NGtf, ↓NGft, ↓NGff, ↓PGtt, ↓PGtf, ↓PGft, ↓PGff, ↓BGtt, ↓BGtf, ↓BGft, ↓BGff, ↓CGtt, ↓CGtf, ↓CGft, ↓CGff, ↓IGtt, ↓IGtf, ↓IGft, ↓IGff, ↓PKt, ↓PKf, ↓CDt, ↓CDf, ↓NOTt, ↓NOTf, ↓NK_ptr, ↓EQf k5]
        rw [if_neg k5] at hweq
        refine ldS (cs := e.cells.toArray) rfl Tryz.underlying62 rfl iSt hb1 ?_
        refine CK_st Tryz.func56 rfl rfl (DecidesR_ok hok1) ?_
        rintro _ w2 ⟨rfl, hm2⟩
        have hm02 := hm1.trans hm2
        have hne := Ex.len_sz e.exprs
        obtain ⟨f0, f1, f4, f5, f6, f7⟩ := F w2 hm2
        cases hd : e.dec with
        | false =>
          rw [hd] at hweq
          try simp only [↓VG_u, ↓UG_u, ↓MG_u, ↓NG_u, ↓PG_u, ↓BG_u, ↓CG_u, ↓IG_u, ↓VGtt, ↓VGtf, ↓VGft, ↓VGff, ↓UGtt, ↓UGtf, ↓UGft, ↓UGff, ↓MGtt, ↓MGtf, ↓MGft, ↓MGff, ↓NGtt, ↓NGtf, ↓NGft, ↓NGff, ↓PGtt, ↓PGtf, ↓PGft, ↓PGff, ↓BGtt, ↓BGtf, ↓BGft, ↓BGff, ↓CGtt, ↓CGtf, ↓CGft, ↓CGff, ↓IGtt, ↓IGtf, ↓IGft, ↓IGff, ↓PKt, ↓PKf, ↓CDt, ↓CDf, ↓NOTt, ↓NOTf, ↓NK_ptr]
          exact ⟨by rw [hweq]; rfl, hm02⟩
        | true =>
          rw [hd] at hweq
          unfold outB at hweq
          rw [if_pos rfl] at hweq
          simp only [↓VG_u, ↓UG_u, ↓MG_u, ↓NG_u, ↓PG_u, ↓BG_u, ↓CG_u, ↓IG_u, ↓VGtt, ↓VGtf, ↓VGft, ↓VGff, ↓UGtt, ↓UGtf, ↓UGft, ↓UGff, ↓MGtt, ↓MGtf, ↓MGft, ↓MGff, ↓NGtt, ↓NGtf, ↓NGft, ↓NGff, ↓PGtt, ↓PGtf, ↓PGft, ↓PGff, ↓BGtt, ↓BGtf, ↓BGft, ↓BGff, ↓CGtt, ↓CGtf, ↓CGft, ↓CGff, ↓IGtt, ↓IGtf, ↓IGft, ↓IGff, ↓PKt, ↓PKf, ↓CDt, ↓CDf, ↓NOTt, ↓NOTf, ↓NK_ptr, ↓f1.e]
          by_cases k11 : e.kind = 11
          · simp only [↓VG_u, ↓UG_u, ↓MG_u, ↓NG_u, ↓PG_u, ↓BG_u, ↓CG_u, ↓IG_u, ↓VGtt, ↓VGtf, ↓VGft, ↓VGff, ↓UGtt, ↓UGtf, ↓UGft, ↓UGff, ↓MGtt, ↓MGtf, ↓MGft, ↓MGff, ↓NGtt, ↓NGtf, ↓NGft, ↓NGff, ↓PGtt, ↓PGtf, ↓PGft, ↓PGff, ↓BGtt, ↓BGtf, ↓BGft, ↓BGff, ↓CGtt, ↓CGtf, ↓CGft, ↓CGff, ↓IGtt, ↓IGtf, ↓IGft, ↓IGff, ↓PKt, ↓PKf, ↓CDt, ↓CDf, ↓NOTt, ↓NOTf, ↓NK_ptr, ↓EQt k11]
            rw [if_neg (by omega), if_pos k11] at hweq
            first | exact ⟨by rw [hweq], hm02⟩ | exact ⟨trivial, hm02⟩
          · simp only [↓VG_u, ↓UG_u, ↓MG_u, ↓NG_u, ↓PG_u, ↓BG_u, ↓CG_u, ↓IG_u, ↓VGtt, ↓VGtf, ↓VGft, ↓VGff, ↓UGtt, ↓UGtf, ↓UGft, ↓UGff, ↓MGtt, ↓MGtf, ↓MGft, ↓MGff, ↓NGtt, ↓NGtf, ↓NGft, ↓NGff, ↓PGtt, ↓PGtf, ↓PGft, ↓PGff, ↓BGtt, ↓BGtf, ↓BGft, ↓BGff, ↓CGtt, ↓CGtf, ↓CGft, ↓CGff, ↓IGtt, ↓IGtf, ↓IGft, ↓IGff, ↓PKt, ↓PKf, ↓CDt, ↓CDf, ↓NOTt, ↓NOTf, ↓NK_ptr, ↓EQf k11]
            rw [if_neg k11] at hweq
            by_cases k14 : e.kind = 14
            · simp only [↓VG_u, ↓UG_u, ↓MG_u, ↓NG_u, ↓PG_u, ↓BG_u, ↓CG_u, ↓IG_u, ↓VGtt, ↓VGtf, ↓VGft, ↓VGff, ↓UGtt, ↓UGtf, ↓UGft, ↓UGff, ↓MGtt, ↓MGtf, ↓MGft, ↓MGff, ↓NGtt, ↓NGtf, ↓NGft, ↓NGff, ↓PGtt, ↓PGtf, ↓PGft, ↓PGff, ↓BGtt, ↓BGtf, ↓BGft, ↓BGff, ↓CGtt, ↓CGtf, ↓CGft, ↓CGff, ↓IGtt, ↓IGtf, ↓IGft, ↓IGff, ↓PKt, ↓PKf, ↓CDt, ↓CDf, ↓NOTt, ↓NOTf, ↓NK_ptr, ↓EQt k14]
              rw [if_pos k14] at hweq
              exact BKadd (a := r) (b := 2) rfl rfl (by omega) (by omega) ⟨by rw [hweq], hm02⟩
            · simp only [↓VG_u, ↓UG_u, ↓MG_u, ↓NG_u, ↓PG_u, ↓BG_u, ↓CG_u, ↓IG_u, ↓VGtt, ↓VGtf, ↓VGft, ↓VGff, ↓UGtt, ↓UGtf, ↓UGft, ↓UGff, ↓MGtt, ↓MGtf, ↓MGft, ↓MGff, ↓NGtt, ↓NGtf, ↓NGft, ↓NGff, ↓PGtt, ↓PGtf, ↓PGft, ↓PGff, ↓BGtt, ↓BGtf, ↓BGft, ↓BGff, ↓CGtt, ↓CGtf, ↓CGft, ↓CGff, ↓IGtt, ↓IGtf, ↓IGft, ↓IGff, ↓PKt, ↓PKf, ↓CDt, ↓CDf, ↓NOTt, ↓NOTf, ↓NK_ptr, ↓EQf k14]
              rw [if_neg k14] at hweq
              by_cases k10 : e.kind = 10
              · simp only [↓VG_u, ↓UG_u, ↓MG_u, ↓NG_u, ↓PG_u, ↓BG_u, ↓CG_u, ↓IG_u, ↓VGtt, ↓VGtf, ↓VGft, ↓VGff, ↓UGtt, ↓UGtf, ↓UGft, ↓UGff, ↓MGtt, ↓MGtf, ↓MGft, ↓MGff, ↓NGtt, ↓NGtf, ↓NGft, ↓NGff, ↓PGtt, ↓PGtf, ↓PGft, ↓PGff, ↓BGtt, ↓BGtf, ↓BGft, ↓BGff, ↓CGtt, ↓CGtf, ↓CGft, ↓CGff, ↓IGtt, ↓IGtf, ↓IGft, ↓IGff, ↓PKt, ↓PKf, ↓CDt, ↓CDf, ↓NOTt, ↓NOTf, ↓NK_ptr, ↓EQt k10, ↓f5.e]
                rw [if_pos k10] at hweq
                rw [len_sl uExs]
                exact BKadd (a := e.exprs.length) (b := 1) rfl rfl (by omega) (by omega) ⟨by rw [hweq], hm02⟩
              · simp only [↓VG_u, ↓UG_u, ↓MG_u, ↓NG_u, ↓PG_u, ↓BG_u, ↓CG_u, ↓IG_u, ↓VGtt, ↓VGtf, ↓VGft, ↓VGff, ↓UGtt, ↓UGtf, ↓UGft, ↓UGff, ↓MGtt, ↓MGtf, ↓MGft, ↓MGff, ↓NGtt, ↓NGtf, ↓NGft, ↓NGff, ↓PGtt, ↓PGtf, ↓PGft, ↓PGff, ↓BGtt, ↓BGtf, ↓BGft, ↓BGff, ↓CGtt, ↓CGtf, ↓CGft, ↓CGff, ↓IGtt, ↓IGtf, ↓IGft, ↓IGff, ↓PKt, ↓PKf, ↓CDt, ↓CDf, ↓NOTt, ↓NOTf, ↓NK_ptr, ↓EQf k10]
                rw [if_neg k10] at hweq
                by_cases k12 : e.kind = 12
                · simp only [↓VG_u, ↓UG_u, ↓MG_u, ↓NG_u, ↓PG_u, ↓BG_u, ↓CG_u, ↓IG_u, ↓VGtt, ↓VGtf, ↓VGft, ↓VGff, ↓UGtt, ↓UGtf, ↓UGft, ↓UGff, ↓MGtt, ↓MGtf, ↓MGft, ↓MGff, ↓NGtt, ↓NGtf, ↓NGft, ↓NGff, ↓PGtt, ↓PGtf, ↓PGft, ↓PGff, ↓BGtt, ↓BGtf, ↓BGft, ↓BGff, ↓CGtt, ↓CGtf, ↓CGft, ↓CGff, ↓IGtt, ↓IGtf, ↓IGft, ↓IGff, ↓PKt, ↓PKf, ↓CDt, ↓CDf, ↓NOTt, ↓NOTf, ↓NK_ptr, ↓EQt k12, ↓f5.e]
                  rw [if_pos k12] at hweq
                  rw [len_sl uExs]
                  exact BKadd (a := e.exprs.length) (b := 2) rfl rfl (by omega) (by omega) ⟨by rw [hweq], hm02⟩
                · simp only [↓VG_u, ↓UG_u, ↓MG_u, ↓NG_u, ↓PG_u, ↓BG_u, ↓CG_u, ↓IG_u, ↓VGtt, ↓VGtf, ↓VGft, ↓VGff, ↓UGtt, ↓UGtf, ↓UGft, ↓UGff, ↓MGtt, ↓MGtf, ↓MGft, ↓MGff, ↓NGtt, ↓NGtf, ↓NGft, ↓NGff, ↓PGtt, ↓PGtf, ↓PGft, ↓PGff, ↓BGtt, ↓BGtf, ↓BGft, ↓BGff, ↓CGtt, ↓CGtf, ↓CGft, ↓CGff, ↓IGtt, ↓IGtf, ↓IGft, ↓IGff, ↓PKt, ↓PKf, ↓CDt, ↓CDf, ↓NOTt, ↓NOTf, ↓NK_ptr, ↓EQf k12]
                  rw [if_neg k12] at hweq
                  exact BKadd (a := r) (b := 1) rfl rfl (by omega) (by omega) ⟨by rw [hweq], hm02⟩
theorem StmtsW_ok {r : Int} (hr : 1 ≤ r ∧ r ≤ 64) (l : List St) : StmtsW r l := stmtsW hr fun a _ => stmtW hr a
def runsP (p : Pr) (n : Int) : Int × Int := if (ofP p n).2 ≠ 0 then (0, (ofP p n).2) else if 65536 < prodP (timesP (St.waysL n p.body) n) then (0, 90) else (prodP (timesP (St.waysL n p.body) n), 0)
def stepsP (p : Pr) (n : Int) : Int × Int := if (ofP p n).2 ≠ 0 then (0, (ofP p n).2) else if 1048576 < mx (ofP p n).1.s (IntKind.i64.wrap (n * IntKind.i64.wrap (IntKind.i64.wrap (2 * (ofP p n).1.c) + 1))) then (0, 90) else (mx (ofP p n).1.s (IntKind.i64.wrap (n * IntKind.i64.wrap (IntKind.i64.wrap (2 * (ofP p n).1.c) + 1))), 0)
theorem of_zero {p : Pr} {n : Int} (h : (ofP p n).2 = 0) : (1 ≤ n ∧ n ≤ 64) ∧ ∀ a ∈ p.body, a.may = true := by
  unfold ofP at h
  split at h
  · simp at h
  · rename_i q
    refine ⟨by omega, of_may (by omega)⟩
theorem Runs_ok {w : World} (hg : Gl w) {p : Pr} (h : p.Ok w) (hf : p.fits) (n : Int) : Rt Tryz.prog 7 #[.agg p.cells.toArray, .int .i64 n] w fun v w' => v = .tuple #[.int .i64 (runsP p n).1, .int .i64 (runsP p n).2] ∧ Mod none_ w w' := by
  refine limits_Runs_calls ?_
  unfold limits_Runs_F
  refine box_k (cs := p.cells.toArray) rfl fun w1 hb1 hm1 hz1 => ?_
  refine ldB (cs := p.cells.toArray) Tryz.underlying25 rfl iPr hb1 ?_
  refine CK_st Tryz.func16 rfl rfl (Of_ok (hg.mod hm1) (h.mod hm1) hf n) ?_
  rintro _ w2 ⟨rfl, hm2⟩
  rw [extract_ok (v := (ofP p n).1.v) rfl, extract_ok (v := .int .i64 (ofP p n).2) rfl]
  refine lcl_k (cs := (ofP p n).1.cells.toArray) zBnd _ iBnd rfl (bd_one _) fun w3 hb3 hm3 hz3 => ?_
  have hm03 := (hm1.trans hm2).trans hm3
  have hb13 := (hm2.trans hm3).blk hb1 id
  have hr : runsP p n = if (ofP p n).2 ≠ 0 then (0, (ofP p n).2) else if 65536 < prodP (timesP (St.waysL n p.body) n) then (0, 90) else (prodP (timesP (St.waysL n p.body) n), 0) := rfl
  by_cases h0 : (ofP p n).2 = 0
  · simp only [↓VG_u, ↓UG_u, ↓MG_u, ↓NG_u, ↓PG_u, ↓BG_u, ↓CG_u, ↓IG_u, ↓VGtt, ↓VGtf, ↓VGft, ↓VGff, ↓UGtt, ↓UGtf, ↓UGft, ↓UGff, ↓MGtt, ↓MGtf, ↓MGft, ↓MGff, ↓NGtt, ↓NGtf, ↓NGft, ↓NGff, ↓PGtt, ↓PGtf, ↓PGft, ↓PGff, ↓BGtt, ↓BGtf, ↓BGft, ↓BGff, ↓CGtt, ↓CGtf, ↓CGft, ↓CGff, ↓IGtt, ↓IGtf, ↓IGft, ↓IGff, ↓PKt, ↓PKf, ↓CDt, ↓CDf, ↓NOTt, ↓NOTf, ↓NK_ptr, ↓NEf h0]
    rw [if_neg (by omega)] at hr
    obtain ⟨hn, hmay⟩ := of_zero h0
    have f1 : FO Tryz.prog w3 25 1 1 ⟨w.heap.size, 0, none⟩ 23 p.bs := FO.blk hb13 (by kernel_rfl) uSts rfl rfl
    simp only [↓f1.e]
    refine Each_k hn.1 (h.mod hm03).b hf.2 hmay (fun a _ => ways_ok hn a) fun y w4 hm4 => ?_
    refine Times_k (St.waysL_in hn.1 _).1 (by omega) fun z w5 hm5 => ?_
    have hm05 := (hm03.trans hm4).trans hm5
    by_cases hq : 65536 < prodP (timesP (St.waysL n p.body) n)
    · simp only [↓VG_u, ↓UG_u, ↓MG_u, ↓NG_u, ↓PG_u, ↓BG_u, ↓CG_u, ↓IG_u, ↓VGtt, ↓VGtf, ↓VGft, ↓VGff, ↓UGtt, ↓UGtf, ↓UGft, ↓UGff, ↓MGtt, ↓MGtf, ↓MGft, ↓MGff, ↓NGtt, ↓NGtf, ↓NGft, ↓NGff, ↓PGtt, ↓PGtf, ↓PGft, ↓PGff, ↓BGtt, ↓BGtf, ↓BGft, ↓BGff, ↓CGtt, ↓CGtf, ↓CGft, ↓CGff, ↓IGtt, ↓IGtf, ↓IGft, ↓IGff, ↓PKt, ↓PKf, ↓CDt, ↓CDf, ↓NOTt, ↓NOTf, ↓NK_ptr, ↓GTt hq]
      rw [if_pos hq] at hr
      rw [limits_Runs_R0_eq]
      unfold limits_Runs_R0_F
      refine condT ?_
      exact ⟨by rw [hr]; rfl, hm05⟩
    · simp only [↓VG_u, ↓UG_u, ↓MG_u, ↓NG_u, ↓PG_u, ↓BG_u, ↓CG_u, ↓IG_u, ↓VGtt, ↓VGtf, ↓VGft, ↓VGff, ↓UGtt, ↓UGtf, ↓UGft, ↓UGff, ↓MGtt, ↓MGtf, ↓MGft, ↓MGff, ↓NGtt, ↓NGtf, ↓NGft, ↓NGff, ↓PGtt, ↓PGtf, ↓PGft, ↓PGff, ↓BGtt, ↓BGtf, ↓BGft, ↓BGff, ↓CGtt, ↓CGtf, ↓CGft, ↓CGff, ↓IGtt, ↓IGtf, ↓IGft, ↓IGff, ↓PKt, ↓PKf, ↓CDt, ↓CDf, ↓NOTt, ↓NOTf, ↓NK_ptr, ↓GTf (show prodP (timesP (St.waysL n p.body) n) ≤ 65536 by omega)]
      rw [if_neg hq] at hr
      rw [limits_Runs_R0_eq]
      unfold limits_Runs_R0_F
      refine condF ?_
      rw [sq_n, limits_Runs_R1_eq]
      unfold limits_Runs_R1_F
      exact ⟨by rw [hr]; rfl, hm05⟩
  · simp only [↓VG_u, ↓UG_u, ↓MG_u, ↓NG_u, ↓PG_u, ↓BG_u, ↓CG_u, ↓IG_u, ↓VGtt, ↓VGtf, ↓VGft, ↓VGff, ↓UGtt, ↓UGtf, ↓UGft, ↓UGff, ↓MGtt, ↓MGtf, ↓MGft, ↓MGff, ↓NGtt, ↓NGtf, ↓NGft, ↓NGff, ↓PGtt, ↓PGtf, ↓PGft, ↓PGff, ↓BGtt, ↓BGtf, ↓BGft, ↓BGff, ↓CGtt, ↓CGtf, ↓CGft, ↓CGff, ↓IGtt, ↓IGtf, ↓IGft, ↓IGff, ↓PKt, ↓PKf, ↓CDt, ↓CDf, ↓NOTt, ↓NOTf, ↓NK_ptr, ↓NEt h0]
    rw [if_pos h0] at hr
    exact ⟨by rw [hr], hm03⟩
theorem RunsR_ok {w : World} {p : Pr} (h : p.Ok w) (hf : p.fits) (n : Int) : Rt Tryz.prog 8 #[.agg p.cells.toArray, .int .i64 n] w fun v w' => v = .tuple #[.int .i64 (runsP p n).1, .int .i64 (runsP p n).2] ∧ Mod none_ w w' := by
  refine dispatcherref30_Runs_calls ?_
  unfold dispatcherref30_Runs_F
  refine box_k (cs := p.cells.toArray) rfl fun w1 hb1 hm1 hz1 => ?_
  refine ldB (cs := p.cells.toArray) Tryz.underlying25 rfl iPr hb1 ?_
  refine CK_st Tryz.func21 rfl rfl (OfR_ok (h.mod hm1) hf n) ?_
  rintro _ w2 ⟨rfl, hm2⟩
  rw [extract_ok (v := (ofP p n).1.v) rfl, extract_ok (v := .int .i64 (ofP p n).2) rfl]
  refine lcl_k (cs := (ofP p n).1.cells.toArray) zBnd _ iBnd rfl (bd_one _) fun w3 hb3 hm3 hz3 => ?_
  have hm03 := (hm1.trans hm2).trans hm3
  have hb13 := (hm2.trans hm3).blk hb1 id
  have hr : runsP p n = if (ofP p n).2 ≠ 0 then (0, (ofP p n).2) else if 65536 < prodP (timesP (St.waysL n p.body) n) then (0, 90) else (prodP (timesP (St.waysL n p.body) n), 0) := rfl
  by_cases h0 : (ofP p n).2 = 0
  · simp only [↓VG_u, ↓UG_u, ↓MG_u, ↓NG_u, ↓PG_u, ↓BG_u, ↓CG_u, ↓IG_u, ↓VGtt, ↓VGtf, ↓VGft, ↓VGff, ↓UGtt, ↓UGtf, ↓UGft, ↓UGff, ↓MGtt, ↓MGtf, ↓MGft, ↓MGff, ↓NGtt, ↓NGtf, ↓NGft, ↓NGff, ↓PGtt, ↓PGtf, ↓PGft, ↓PGff, ↓BGtt, ↓BGtf, ↓BGft, ↓BGff, ↓CGtt, ↓CGtf, ↓CGft, ↓CGff, ↓IGtt, ↓IGtf, ↓IGft, ↓IGff, ↓PKt, ↓PKf, ↓CDt, ↓CDf, ↓NOTt, ↓NOTf, ↓NK_ptr, ↓NEf h0]
    rw [if_neg (by omega)] at hr
    obtain ⟨hn, hmay⟩ := of_zero h0
    have f1 : FO Tryz.prog w3 25 1 1 ⟨w.heap.size, 0, none⟩ 23 p.bs := FO.blk hb13 (by kernel_rfl) uSts rfl rfl
    simp only [↓f1.e]
    refine CK_st Tryz.func23 rfl rfl (StmtsW_ok hn p.body w3 _ (h.mod hm03).b hf.2 hmay) ?_
    rintro _ w4 ⟨rfl, hm4⟩
    refine CK_st Tryz.func22 rfl rfl (Power_ok (St.waysL_in hn.1 _) (by omega)) ?_
    rintro _ _ ⟨rfl, rfl⟩
    have hm04 := hm03.trans hm4
    by_cases hq : 65536 < prodP (timesP (St.waysL n p.body) n)
    · simp only [↓VG_u, ↓UG_u, ↓MG_u, ↓NG_u, ↓PG_u, ↓BG_u, ↓CG_u, ↓IG_u, ↓VGtt, ↓VGtf, ↓VGft, ↓VGff, ↓UGtt, ↓UGtf, ↓UGft, ↓UGff, ↓MGtt, ↓MGtf, ↓MGft, ↓MGff, ↓NGtt, ↓NGtf, ↓NGft, ↓NGff, ↓PGtt, ↓PGtf, ↓PGft, ↓PGff, ↓BGtt, ↓BGtf, ↓BGft, ↓BGff, ↓CGtt, ↓CGtf, ↓CGft, ↓CGff, ↓IGtt, ↓IGtf, ↓IGft, ↓IGff, ↓PKt, ↓PKf, ↓CDt, ↓CDf, ↓NOTt, ↓NOTf, ↓NK_ptr, ↓GTt hq]
      rw [if_pos hq] at hr
      exact ⟨by rw [hr], hm04⟩
    · simp only [↓VG_u, ↓UG_u, ↓MG_u, ↓NG_u, ↓PG_u, ↓BG_u, ↓CG_u, ↓IG_u, ↓VGtt, ↓VGtf, ↓VGft, ↓VGff, ↓UGtt, ↓UGtf, ↓UGft, ↓UGff, ↓MGtt, ↓MGtf, ↓MGft, ↓MGff, ↓NGtt, ↓NGtf, ↓NGft, ↓NGff, ↓PGtt, ↓PGtf, ↓PGft, ↓PGff, ↓BGtt, ↓BGtf, ↓BGft, ↓BGff, ↓CGtt, ↓CGtf, ↓CGft, ↓CGff, ↓IGtt, ↓IGtf, ↓IGft, ↓IGff, ↓PKt, ↓PKf, ↓CDt, ↓CDf, ↓NOTt, ↓NOTf, ↓NK_ptr, ↓GTf (show prodP (timesP (St.waysL n p.body) n) ≤ 65536 by omega)]
      rw [if_neg hq] at hr
      exact ⟨by rw [hr], hm04⟩
  · simp only [↓VG_u, ↓UG_u, ↓MG_u, ↓NG_u, ↓PG_u, ↓BG_u, ↓CG_u, ↓IG_u, ↓VGtt, ↓VGtf, ↓VGft, ↓VGff, ↓UGtt, ↓UGtf, ↓UGft, ↓UGff, ↓MGtt, ↓MGtf, ↓MGft, ↓MGff, ↓NGtt, ↓NGtf, ↓NGft, ↓NGff, ↓PGtt, ↓PGtf, ↓PGft, ↓PGff, ↓BGtt, ↓BGtf, ↓BGft, ↓BGff, ↓CGtt, ↓CGtf, ↓CGft, ↓CGff, ↓IGtt, ↓IGtf, ↓IGft, ↓IGff, ↓PKt, ↓PKf, ↓CDt, ↓CDf, ↓NOTt, ↓NOTf, ↓NK_ptr, ↓NEt h0]
    rw [if_pos h0] at hr
    exact ⟨by rw [hr], hm03⟩
theorem bd_fo {w : World} {b : Nat} {e : Bd} {ty : TypeId} {fr : Nat × Nat} (hb : w.heap[b]? = some (.cells e.cells.toArray ty fr)) : FO Tryz.prog w 42 0 0 ⟨b, 0, none⟩ 3 (.int .i64 e.s) ∧ FO Tryz.prog w 42 1 1 ⟨b, 0, none⟩ 3 (.int .i64 e.c) ∧ FO Tryz.prog w 42 2 2 ⟨b, 0, none⟩ 3 (.int .i64 e.d) :=
  ⟨FO.blk hb (by kernel_rfl) uI rfl rfl, FO.blk hb (by kernel_rfl) uI rfl rfl, FO.blk hb (by kernel_rfl) uI rfl rfl⟩
theorem Steps_ok {w : World} (hg : Gl w) {p : Pr} (h : p.Ok w) (hf : p.fits) (n : Int) : Rt Tryz.prog 9 #[.agg p.cells.toArray, .int .i64 n] w fun v w' => v = .tuple #[.int .i64 (stepsP p n).1, .int .i64 (stepsP p n).2] ∧ Mod none_ w w' := by
  refine limits_Steps_calls ?_
  unfold limits_Steps_F
  refine box_k (cs := p.cells.toArray) rfl fun w1 hb1 hm1 hz1 => ?_
  refine ldB (cs := p.cells.toArray) Tryz.underlying25 rfl iPr hb1 ?_
  refine CK_st Tryz.func16 rfl rfl (Of_ok (hg.mod hm1) (h.mod hm1) hf n) ?_
  rintro _ w2 ⟨rfl, hm2⟩
  rw [extract_ok (v := (ofP p n).1.v) rfl, extract_ok (v := .int .i64 (ofP p n).2) rfl]
  refine lcl_k (cs := (ofP p n).1.cells.toArray) zBnd _ iBnd rfl (bd_one _) fun w3 hb3 hm3 hz3 => ?_
  have hm03 := (hm1.trans hm2).trans hm3
  obtain ⟨f0, f1, f2⟩ := bd_fo hb3
  by_cases h0 : (ofP p n).2 = 0
  · simp only [↓VG_u, ↓UG_u, ↓MG_u, ↓NG_u, ↓PG_u, ↓BG_u, ↓CG_u, ↓IG_u, ↓VGtt, ↓VGtf, ↓VGft, ↓VGff, ↓UGtt, ↓UGtf, ↓UGft, ↓UGff, ↓MGtt, ↓MGtf, ↓MGft, ↓MGff, ↓NGtt, ↓NGtf, ↓NGft, ↓NGff, ↓PGtt, ↓PGtf, ↓PGft, ↓PGff, ↓BGtt, ↓BGtf, ↓BGft, ↓BGff, ↓CGtt, ↓CGtf, ↓CGft, ↓CGff, ↓IGtt, ↓IGtf, ↓IGft, ↓IGff, ↓PKt, ↓PKf, ↓CDt, ↓CDf, ↓NOTt, ↓NOTf, ↓NK_ptr, ↓NEf h0, ↓f0.e, ↓f1.e]
    rw [BK_mul, BK_add, BK_mul, max_i]
    have hmx : (if IntKind.i64.wrap (n * IntKind.i64.wrap (IntKind.i64.wrap (2 * (ofP p n).1.c) + 1)) > (ofP p n).1.s then IntKind.i64.wrap (n * IntKind.i64.wrap (IntKind.i64.wrap (2 * (ofP p n).1.c) + 1)) else (ofP p n).1.s) = mx (ofP p n).1.s (IntKind.i64.wrap (n * IntKind.i64.wrap (IntKind.i64.wrap (2 * (ofP p n).1.c) + 1))) := rfl
    rw [hmx]
    have hr : stepsP p n = if 1048576 < mx (ofP p n).1.s (IntKind.i64.wrap (n * IntKind.i64.wrap (IntKind.i64.wrap (2 * (ofP p n).1.c) + 1))) then (0, 90) else (mx (ofP p n).1.s (IntKind.i64.wrap (n * IntKind.i64.wrap (IntKind.i64.wrap (2 * (ofP p n).1.c) + 1))), 0) := by
      unfold stepsP; rw [if_neg (by omega)]
    generalize mx (ofP p n).1.s (IntKind.i64.wrap (n * IntKind.i64.wrap (IntKind.i64.wrap (2 * (ofP p n).1.c) + 1))) = q at hr ⊢
    by_cases hq : 1048576 < q
    · simp only [↓VG_u, ↓UG_u, ↓MG_u, ↓NG_u, ↓PG_u, ↓BG_u, ↓CG_u, ↓IG_u, ↓VGtt, ↓VGtf, ↓VGft, ↓VGff, ↓UGtt, ↓UGtf, ↓UGft, ↓UGff, ↓MGtt, ↓MGtf, ↓MGft, ↓MGff, ↓NGtt, ↓NGtf, ↓NGft, ↓NGff, ↓PGtt, ↓PGtf, ↓PGft, ↓PGff, ↓BGtt, ↓BGtf, ↓BGft, ↓BGff, ↓CGtt, ↓CGtf, ↓CGft, ↓CGff, ↓IGtt, ↓IGtf, ↓IGft, ↓IGff, ↓PKt, ↓PKf, ↓CDt, ↓CDf, ↓NOTt, ↓NOTf, ↓NK_ptr, ↓GTt hq]
      rw [if_pos hq] at hr
      rw [limits_Steps_R0_eq]
      unfold limits_Steps_R0_F
      refine condT ?_
      exact ⟨by rw [hr]; rfl, hm03⟩
    · simp only [↓VG_u, ↓UG_u, ↓MG_u, ↓NG_u, ↓PG_u, ↓BG_u, ↓CG_u, ↓IG_u, ↓VGtt, ↓VGtf, ↓VGft, ↓VGff, ↓UGtt, ↓UGtf, ↓UGft, ↓UGff, ↓MGtt, ↓MGtf, ↓MGft, ↓MGff, ↓NGtt, ↓NGtf, ↓NGft, ↓NGff, ↓PGtt, ↓PGtf, ↓PGft, ↓PGff, ↓BGtt, ↓BGtf, ↓BGft, ↓BGff, ↓CGtt, ↓CGtf, ↓CGft, ↓CGff, ↓IGtt, ↓IGtf, ↓IGft, ↓IGff, ↓PKt, ↓PKf, ↓CDt, ↓CDf, ↓NOTt, ↓NOTf, ↓NK_ptr, ↓GTf (show q ≤ 1048576 by omega)]
      rw [if_neg hq] at hr
      rw [limits_Steps_R0_eq]
      unfold limits_Steps_R0_F
      refine condF ?_
      rw [sq_n, limits_Steps_R1_eq]
      unfold limits_Steps_R1_F
      exact ⟨by rw [hr]; rfl, hm03⟩
  · simp only [↓VG_u, ↓UG_u, ↓MG_u, ↓NG_u, ↓PG_u, ↓BG_u, ↓CG_u, ↓IG_u, ↓VGtt, ↓VGtf, ↓VGft, ↓VGff, ↓UGtt, ↓UGtf, ↓UGft, ↓UGff, ↓MGtt, ↓MGtf, ↓MGft, ↓MGff, ↓NGtt, ↓NGtf, ↓NGft, ↓NGff, ↓PGtt, ↓PGtf, ↓PGft, ↓PGff, ↓BGtt, ↓BGtf, ↓BGft, ↓BGff, ↓CGtt, ↓CGtf, ↓CGft, ↓CGff, ↓IGtt, ↓IGtf, ↓IGft, ↓IGff, ↓PKt, ↓PKf, ↓CDt, ↓CDf, ↓NOTt, ↓NOTf, ↓NK_ptr, ↓NEt h0]
    exact ⟨by unfold stepsP; rw [if_pos h0], hm03⟩
theorem StepsR_ok {w : World} {p : Pr} (h : p.Ok w) (hf : p.fits) (n : Int) : Rt Tryz.prog 10 #[.agg p.cells.toArray, .int .i64 n] w fun v w' => v = .tuple #[.int .i64 (stepsP p n).1, .int .i64 (stepsP p n).2] ∧ Mod none_ w w' := by
  refine dispatcherref30_Steps_calls ?_
  unfold dispatcherref30_Steps_F
  refine box_k (cs := p.cells.toArray) rfl fun w1 hb1 hm1 hz1 => ?_
  refine ldB (cs := p.cells.toArray) Tryz.underlying25 rfl iPr hb1 ?_
  refine CK_st Tryz.func21 rfl rfl (OfR_ok (h.mod hm1) hf n) ?_
  rintro _ w2 ⟨rfl, hm2⟩
  rw [extract_ok (v := (ofP p n).1.v) rfl, extract_ok (v := .int .i64 (ofP p n).2) rfl]
  refine lcl_k (cs := (ofP p n).1.cells.toArray) zBnd _ iBnd rfl (bd_one _) fun w3 hb3 hm3 hz3 => ?_
  have hm03 := (hm1.trans hm2).trans hm3
  obtain ⟨f0, f1, f2⟩ := bd_fo hb3
  by_cases h0 : (ofP p n).2 = 0
  · simp only [↓VG_u, ↓UG_u, ↓MG_u, ↓NG_u, ↓PG_u, ↓BG_u, ↓CG_u, ↓IG_u, ↓VGtt, ↓VGtf, ↓VGft, ↓VGff, ↓UGtt, ↓UGtf, ↓UGft, ↓UGff, ↓MGtt, ↓MGtf, ↓MGft, ↓MGff, ↓NGtt, ↓NGtf, ↓NGft, ↓NGff, ↓PGtt, ↓PGtf, ↓PGft, ↓PGff, ↓BGtt, ↓BGtf, ↓BGft, ↓BGff, ↓CGtt, ↓CGtf, ↓CGft, ↓CGff, ↓IGtt, ↓IGtf, ↓IGft, ↓IGff, ↓PKt, ↓PKf, ↓CDt, ↓CDf, ↓NOTt, ↓NOTf, ↓NK_ptr, ↓NEf h0, ↓f0.e, ↓f1.e]
    rw [BK_mul, BK_add, BK_mul, max_i]
    have hmx : (if IntKind.i64.wrap (n * IntKind.i64.wrap (IntKind.i64.wrap (2 * (ofP p n).1.c) + 1)) > (ofP p n).1.s then IntKind.i64.wrap (n * IntKind.i64.wrap (IntKind.i64.wrap (2 * (ofP p n).1.c) + 1)) else (ofP p n).1.s) = mx (ofP p n).1.s (IntKind.i64.wrap (n * IntKind.i64.wrap (IntKind.i64.wrap (2 * (ofP p n).1.c) + 1))) := rfl
    rw [hmx]
    have hr : stepsP p n = if 1048576 < mx (ofP p n).1.s (IntKind.i64.wrap (n * IntKind.i64.wrap (IntKind.i64.wrap (2 * (ofP p n).1.c) + 1))) then (0, 90) else (mx (ofP p n).1.s (IntKind.i64.wrap (n * IntKind.i64.wrap (IntKind.i64.wrap (2 * (ofP p n).1.c) + 1))), 0) := by
      unfold stepsP; rw [if_neg (by omega)]
    generalize mx (ofP p n).1.s (IntKind.i64.wrap (n * IntKind.i64.wrap (IntKind.i64.wrap (2 * (ofP p n).1.c) + 1))) = q at hr ⊢
    by_cases hq : 1048576 < q
    · simp only [↓VG_u, ↓UG_u, ↓MG_u, ↓NG_u, ↓PG_u, ↓BG_u, ↓CG_u, ↓IG_u, ↓VGtt, ↓VGtf, ↓VGft, ↓VGff, ↓UGtt, ↓UGtf, ↓UGft, ↓UGff, ↓MGtt, ↓MGtf, ↓MGft, ↓MGff, ↓NGtt, ↓NGtf, ↓NGft, ↓NGff, ↓PGtt, ↓PGtf, ↓PGft, ↓PGff, ↓BGtt, ↓BGtf, ↓BGft, ↓BGff, ↓CGtt, ↓CGtf, ↓CGft, ↓CGff, ↓IGtt, ↓IGtf, ↓IGft, ↓IGff, ↓PKt, ↓PKf, ↓CDt, ↓CDf, ↓NOTt, ↓NOTf, ↓NK_ptr, ↓GTt hq]
      rw [if_pos hq] at hr
      rw [dispatcherref30_Steps_R0_eq]
      unfold dispatcherref30_Steps_R0_F
      refine condT ?_
      exact ⟨by rw [hr]; rfl, hm03⟩
    · simp only [↓VG_u, ↓UG_u, ↓MG_u, ↓NG_u, ↓PG_u, ↓BG_u, ↓CG_u, ↓IG_u, ↓VGtt, ↓VGtf, ↓VGft, ↓VGff, ↓UGtt, ↓UGtf, ↓UGft, ↓UGff, ↓MGtt, ↓MGtf, ↓MGft, ↓MGff, ↓NGtt, ↓NGtf, ↓NGft, ↓NGff, ↓PGtt, ↓PGtf, ↓PGft, ↓PGff, ↓BGtt, ↓BGtf, ↓BGft, ↓BGff, ↓CGtt, ↓CGtf, ↓CGft, ↓CGff, ↓IGtt, ↓IGtf, ↓IGft, ↓IGff, ↓PKt, ↓PKf, ↓CDt, ↓CDf, ↓NOTt, ↓NOTf, ↓NK_ptr, ↓GTf (show q ≤ 1048576 by omega)]
      rw [if_neg hq] at hr
      rw [dispatcherref30_Steps_R0_eq]
      unfold dispatcherref30_Steps_R0_F
      refine condF ?_
      rw [sq_n, dispatcherref30_Steps_R1_eq]
      unfold dispatcherref30_Steps_R1_F
      exact ⟨by rw [hr]; rfl, hm03⟩
  · simp only [↓VG_u, ↓UG_u, ↓MG_u, ↓NG_u, ↓PG_u, ↓BG_u, ↓CG_u, ↓IG_u, ↓VGtt, ↓VGtf, ↓VGft, ↓VGff, ↓UGtt, ↓UGtf, ↓UGft, ↓UGff, ↓MGtt, ↓MGtf, ↓MGft, ↓MGff, ↓NGtt, ↓NGtf, ↓NGft, ↓NGff, ↓PGtt, ↓PGtf, ↓PGft, ↓PGff, ↓BGtt, ↓BGtf, ↓BGft, ↓BGff, ↓CGtt, ↓CGtf, ↓CGft, ↓CGff, ↓IGtt, ↓IGtf, ↓IGft, ↓IGff, ↓PKt, ↓PKf, ↓CDt, ↓CDf, ↓NOTt, ↓NOTf, ↓NK_ptr, ↓NEt h0]
    exact ⟨by unfold stepsP; rw [if_pos h0], hm03⟩
end Go.Proofs.YtpkfbaagpjdifaaGreatDoor.Tr
set_option linter.unusedVariables false
set_option maxRecDepth 10000
namespace Go.Proofs.YtpkfbaagpjdifaaGreatDoor.Tr
open Go Go.X Go.RowKit
def argsN : List Int := [5, 5, 5, 5, 5, 3, 3, 1, -1, -1, 1, -1, 3, 3, 1, 3, 3, 2, 3, 1, 3, 1]
theorem gl_of {W : World} (h : laidMetH Tryz.prog [("dispatcher/scan.words", Rows.laid_dispatcher_scan_words), ("dispatcher/tree.args", Rows.laid_dispatcher_tree_args), ("dispatcher/tree.plain", Rows.laid_dispatcher_tree_plain)] W) : Gl W := by
  rw [MakeChecks.laidMetH_plain _ _ _ (by kernel_rfl)] at h
  obtain ⟨ps, ⟨g, t, cs, fuel, p, q, hg, ht, hv, hd, ⟨g2, t2, cs2, fuel2, p2, q2, hg2, ht2, hv2, hd2, ⟨g3, t3, cs3, fuel3, p3, q3, hg3, ht3, hv3, hd3, _, _⟩, _⟩, _⟩, _⟩ := h
  obtain rfl := Option.some.inj ((show Tryz.prog.globalNamed "dispatcher/scan.words" = some 0 by kernel_rfl).symm.trans hg)
  obtain rfl := Option.some.inj ((show (Tryz.prog.globals[0]?).map (·.type) = some 142 by kernel_rfl).symm.trans ht)
  obtain rfl := Option.some.inj ((show Tryz.prog.globalNamed "dispatcher/tree.args" = some 1 by kernel_rfl).symm.trans hg2)
  obtain rfl := Option.some.inj ((show (Tryz.prog.globals[1]?).map (·.type) = some 149 by kernel_rfl).symm.trans ht2)
  obtain rfl := Option.some.inj ((show Tryz.prog.globalNamed "dispatcher/tree.plain" = some 2 by kernel_rfl).symm.trans hg3)
  obtain rfl := Option.some.inj ((show (Tryz.prog.globals[2]?).map (·.type) = some 151 by kernel_rfl).symm.trans ht3)
  refine ⟨?_, ?_, ?_⟩
  · exact laid_arr (xs := wordsL) (val := txt) (dat := fun b => .lit (.string b)) (n := 43) hg hv (show Tryz.prog.underlying 142 = some (.array 43 9) by kernel_rfl) (by kernel_rfl) (by decide) hd (fun m l x b h hx => laid_str uS m l x b h hx)
  · exact laid_arr (xs := argsN) (val := fun n => .int .i64 n) (dat := fun n => .lit (.int .i64 n)) (n := 22) hg2 hv2 (show Tryz.prog.underlying 149 = some (.array 22 3) by kernel_rfl) (by kernel_rfl) (by decide) hd2 (fun m l x b h hx => laid_int uI m l x b h hx)
  · exact laid_arr (xs := plainL) (val := txt) (dat := fun b => .lit (.string b)) (n := 10) hg3 hv3 (show Tryz.prog.underlying 151 = some (.array 10 9) by kernel_rfl) (by kernel_rfl) (by decide) hd3 (fun m l x b h hx => laid_str uS m l x b h hx)
end Go.Proofs.YtpkfbaagpjdifaaGreatDoor.Tr
set_option linter.unusedVariables false
set_option maxRecDepth 4000
namespace Go.Proofs.YtpkfbaagpjdifaaGreatDoor.Tr
open Go Go.X Go.RowKit
def shDe : ShM De := ⟨⟨4, fun w e cs => cs = e.cells ∧ e.fine⟩, fun _ => 1⟩
def shPr : ShM Pr := ⟨⟨2, fun w e cs => cs = e.cells ∧ e.Ok w⟩, fun p => p.decls.length + St.szL p.body⟩
theorem opensDe (n : Nat) : OpensM U Tryz.prog n shDe 48 :=
  opensM_as (opensM_struct Tryz.underlying48 (by kernel_rfl) (fun m hm => fieldsM_cons rfl (by kernel_rfl) (opensM_string uS) (fieldsM_cons rfl (by kernel_rfl) (opensM_int uI) (fieldsM_cons rfl (by kernel_rfl) (opensM_int uI) (fieldsM_one rfl (by kernel_rfl) (opensM_int uI))))))
    (fun x => (⟨x.1, x.2.1, x.2.2.1, x.2.2.2⟩ : De))
    (fun w v cs h => by
      obtain ⟨c0, d0, rfl, _, ⟨rfl, h0⟩, c1, d1, rfl, _, ⟨rfl, h1⟩, c2, d2, rfl, _, ⟨rfl, h2⟩, rfl, h3⟩ := h
      exact ⟨rfl, h0, h1, h2, h3⟩)
    (fun v => by
      show 1 ≤ _
      exact Nat.le_add_left 1 _)
theorem des_of {w : World} {x : Value × List De} {cs : List Value} (h : (Sh.slice shDe.toSh).K w x cs) : DesOk w x.1 x.2 :=
  ⟨reads_sh h De.cells De.cells_len (fun a d hk => hk.1), fun a ha => by obtain ⟨d, hd⟩ := mem_sh h a ha; exact hd.2⟩
theorem ones_sum (l : List De) : (l.map fun _ => 1).sum = l.length := by
  induction l with
  | nil => rfl
  | cons a r ih => simp only [List.map_cons, List.sum_cons, List.length_cons, ih]; omega
theorem opensPr (n : Nat) : OpensM U Tryz.prog n shPr 25 :=
  opensM_as (opensM_struct Tryz.underlying25 (by kernel_rfl) (fun m hm => fieldsM_cons rfl (by kernel_rfl) (opensM_slice uDes cDe (fun k hk => opensDe k)) (fieldsM_one rfl (by kernel_rfl) (opensM_slice uSts cSt (fun k hk => opensSt k)))))
    (fun x => (⟨x.1.1, x.1.2, x.2.1, x.2.2⟩ : Pr))
    (fun w v cs h => by
      obtain ⟨c0, d0, rfl, _, h0, h1⟩ := h
      have h0' := des_of h0
      have h1' := sts_of h1
      obtain ⟨rfl, _⟩ := h0
      obtain ⟨rfl, _⟩ := h1
      exact ⟨rfl, h0', h1'⟩)
    (fun v => by
      show v.1.2.length + St.szL v.2.2 ≤ (((v.1.2.map fun _ => 1).sum + 1) + ((v.2.2.map St.sz).sum + 1)) + 1
      rw [St.szL_eq, ones_sum]
      omega)
end Go.Proofs.YtpkfbaagpjdifaaGreatDoor.Tr
set_option linter.unusedVariables false
set_option linter.unusedSimpArgs false
set_option maxRecDepth 4000
namespace Go.Proofs.YtpkfbaagpjdifaaGreatDoor.Tr
open Go Go.X Go.RowKit Go.Proofs.YtpkfbaagpjdifaaGreatDoor.XI Go.Proofs.YtpkfbaagpjdifaaGreatDoor.XK
/-- A configuration. -/
structure Cf where
  ranks : Int
  eager : Int
  loose : Bool
  polls : Int
  runs : Int
  steps : Int
  deriving DecidableEq
def Cf.cells (c : Cf) : List Value := [.int .i64 c.ranks, .int .i64 c.eager, .bool c.loose, .int .i64 c.polls, .int .i64 c.runs, .int .i64 c.steps]
def Cf.v (c : Cf) : Value := .agg c.cells.toArray
def zCf : Cf := ⟨0, 0, false, 0, 0, 0⟩
theorem zCfg : (Tryz.prog.info? 34).bind (·.zero) = some (.agg zCf.cells.toArray) := by kernel_rfl
theorem iCfg : (Tryz.prog.info? 34).map (·.size) = some 6 := by kernel_rfl
theorem bCfg : Tryz.prog.built 34 [] = some zCf.cells.toArray := by kernel_rfl
theorem cf_one (c : Cf) : (c.cells.toArray.all (·.oneCell')) = true := by simp [Cf.cells, Value.oneCell']
theorem uBl : Tryz.prog.underlying 4 = some .bool := by kernel_rfl
theorem isB (w : World) : (isAgg 4).run Tryz.prog w = .ok false w := by unfold isAgg; rw [Sem.run_bind, run_underlying Tryz.underlying4 w]; rfl
theorem gCf : Tryz.prog.eqGuardType Tryz.prog.depth 34 = false := by kernel_rfl
theorem eqCf (a b : Cf) (w : World) : (Op.equalIn 10000 34 a.v b.v).run Tryz.prog w = .ok (decide (a = b)) w := by
  show (Op.equalIn (9999 + 1) 34 (.agg a.cells.toArray) (.agg b.cells.toArray)).run Tryz.prog w = _
  rw [run_equalIn_struct w 9999 34 _ _ (by simp [Program.fieldsOf, Tryz.underlying34]) (by kernel_rfl)]
  obtain ⟨a1, a2, a3, a4, a5, a6⟩ := a; obtain ⟨b1, b2, b3, b4, b5, b6⟩ := b
  simp [Program.fieldsOf, Tryz.underlying34, Op.eqFields, part, isI, isB, Sem.run_bind, Cf.cells, run_equalIn_int w 9998 3 .i64 .i64 _ _ Tryz.underlying3, run_equalIn_bool w 9998 4 _ _ Tryz.underlying4]
  by_cases h1 : a1 = b1 <;> by_cases h2 : a2 = b2 <;> by_cases h3 : a3 = b3 <;> by_cases h4 : a4 = b4 <;> by_cases h5 : a5 = b5 <;> by_cases h6 : a6 = b6 <;> simp [h1, h2, h3, h4, h5, h6]
theorem rCfE (a b : Cf) (w : World) : (binOp .eql 34 a.v b.v).run Tryz.prog w = .ok (.bool (decide (a = b))) w := by
  show (binOp .eql 34 (.agg a.cells.toArray) (.agg b.cells.toArray)).run Tryz.prog w = _
  rw [run_eql_struct]
  have := eqCf a b w
  rw [Cf.v, Cf.v] at this
  rw [this]; rfl
def shCf : ShM Cf := ⟨⟨6, fun w e cs => cs = e.cells⟩, fun _ => 0⟩
theorem opensCf (n : Nat) : OpensM U Tryz.prog n shCf 34 :=
  opensM_as (opensM_struct Tryz.underlying34 (by kernel_rfl) (fun m hm => fieldsM_cons rfl (by kernel_rfl) (opensM_int uI) (fieldsM_cons rfl (by kernel_rfl) (opensM_int uI) (fieldsM_cons rfl (by kernel_rfl) (opensM_bool uBl) (fieldsM_cons rfl (by kernel_rfl) (opensM_int uI) (fieldsM_cons rfl (by kernel_rfl) (opensM_int uI) (fieldsM_one rfl (by kernel_rfl) (opensM_int uI))))))))
    (fun x => (⟨x.1, x.2.1, x.2.2.1, x.2.2.2.1, x.2.2.2.2.1, x.2.2.2.2.2⟩ : Cf))
    (fun w v cs h => by
      obtain ⟨c0, d0, rfl, _, ⟨rfl, h0⟩, c1, d1, rfl, _, ⟨rfl, h1⟩, c2, d2, rfl, _, h2, c3, d3, rfl, _, ⟨rfl, h3⟩, c4, d4, rfl, _, ⟨rfl, h4⟩, rfl, h5⟩ := h
      have h2 : c2 = [.bool v.2.2.1] := h2
      subst h2
      rfl)
    (fun v => Nat.zero_le _)
theorem cf_fo {w : World} {b : Nat} {e : Cf} {ty : TypeId} {fr : Nat × Nat} (hb : w.heap[b]? = some (.cells e.cells.toArray ty fr)) : FO Tryz.prog w 34 0 0 ⟨b, 0, none⟩ 3 (.int .i64 e.ranks) ∧ FO Tryz.prog w 34 4 4 ⟨b, 0, none⟩ 3 (.int .i64 e.runs) ∧ FO Tryz.prog w 34 5 5 ⟨b, 0, none⟩ 3 (.int .i64 e.steps) :=
  ⟨FO.blk hb (by kernel_rfl) uI rfl rfl, FO.blk hb (by kernel_rfl) uI rfl rfl, FO.blk hb (by kernel_rfl) uI rfl rfl⟩
/-- Budgets that are enough. -/
def enoughP (p : Pr) (c : Cf) : Cf × Int := if (runsP p c.ranks).2 ≠ 0 then (zCf, (runsP p c.ranks).2) else if (stepsP p c.ranks).2 ≠ 0 then (zCf, (stepsP p c.ranks).2) else (⟨c.ranks, c.eager, c.loose, c.polls, (runsP p c.ranks).1, (stepsP p c.ranks).1⟩, 0)
theorem Enough_ok {w : World} (hg : Gl w) {p : Pr} (h : p.Ok w) (hf : p.fits) (c : Cf) : Rt Tryz.prog 11 #[.agg p.cells.toArray, .agg c.cells.toArray] w fun v w' => v = .tuple #[(enoughP p c).1.v, .int .i64 (enoughP p c).2] ∧ Mod none_ w w' := by
  refine limits_Enough_calls ?_
  unfold limits_Enough_F
  refine box_k (cs := p.cells.toArray) rfl fun w1 hb1 hm1 hz1 => ?_
  refine box_k (cs := c.cells.toArray) rfl fun w2 hb2 hm2 hz2 => ?_
  refine al_k (cs := zCf.cells.toArray) zCfg rfl _ fun w3 hb3 hm3 hz3 => ?_
  have hb12 := (hm2.trans hm3).blk hb1 id
  have hb22 := hm3.blk hb2 id
  have hm03 := (hm1.trans hm2).trans hm3
  generalize hx2 : w.heap.size = b2 at *
  generalize hx3 : w1.heap.size = b3 at *
  generalize hx4 : w2.heap.size = b4 at *
  refine ldB (cs := p.cells.toArray) Tryz.underlying25 rfl iPr hb12 ?_
  obtain ⟨f0, f4, f5⟩ := cf_fo hb22
  simp only [↓f0.e]
  refine CK_st Tryz.func7 rfl rfl (Runs_ok (hg.mod hm03) (h.mod hm03) hf c.ranks) ?_
  rintro _ w4 ⟨rfl, hm4⟩
  have hm04 := hm03.trans hm4
  have hb14 := hm4.blk hb12 id
  have hb24 := hm4.blk hb22 id
  have hb34 := hm4.blk hb3 id
  rw [extract_ok (v := .int .i64 (runsP p c.ranks).1) rfl, extract_ok (v := .int .i64 (runsP p c.ranks).2) rfl]
  have hen : enoughP p c = if (runsP p c.ranks).2 ≠ 0 then (zCf, (runsP p c.ranks).2) else if (stepsP p c.ranks).2 ≠ 0 then (zCf, (stepsP p c.ranks).2) else (⟨c.ranks, c.eager, c.loose, c.polls, (runsP p c.ranks).1, (stepsP p c.ranks).1⟩, 0) := rfl
  by_cases h0 : (runsP p c.ranks).2 = 0
  · simp only [↓VG_u, ↓UG_u, ↓MG_u, ↓NG_u, ↓PG_u, ↓BG_u, ↓CG_u, ↓IG_u, ↓VGtt, ↓VGtf, ↓VGft, ↓VGff, ↓UGtt, ↓UGtf, ↓UGft, ↓UGff, ↓MGtt, ↓MGtf, ↓MGft, ↓MGff, ↓NGtt, ↓NGtf, ↓NGft, ↓NGff, ↓PGtt, ↓PGtf, ↓PGft, ↓PGff, ↓BGtt, ↓BGtf, ↓BGft, ↓BGff, ↓CGtt, ↓CGtf, ↓CGft, ↓CGff, ↓IGtt, ↓IGtf, ↓IGft, ↓IGff, ↓PKt, ↓PKf, ↓CDt, ↓CDf, ↓NOTt, ↓NOTf, ↓NK_ptr, ↓NEf h0]
    rw [if_neg (by omega)] at hen
    refine ldB (cs := p.cells.toArray) Tryz.underlying25 rfl iPr hb14 ?_
    obtain ⟨f0, f4, f5⟩ := cf_fo hb24
    simp only [↓f0.e]
    refine CK_st Tryz.func9 rfl rfl (Steps_ok (hg.mod hm04) (h.mod hm04) hf c.ranks) ?_
    rintro _ w5 ⟨rfl, hm5⟩
    have hm05 := hm04.trans hm5
    have hb25 := hm5.blk hb24 id
    have hb35 := hm5.blk hb34 id
    rw [extract_ok (v := .int .i64 (stepsP p c.ranks).1) rfl, extract_ok (v := .int .i64 (stepsP p c.ranks).2) rfl]
    have fin : ∀ ρ : Sl, ρ 3 = pt b3 → ρ 4 = pt b4 → ρ 6 = .int .i64 (runsP p c.ranks).1 → ρ 7 = .int .i64 (stepsP p c.ranks).2 → ρ 8 = .int .i64 (stepsP p c.ranks).1 → sx fn_ Tryz.prog 36 limits_Enough_R0 (retK Tryz.prog [ResultVar.cell 4 34, ResultVar.tmp 5] fun v w' => v = .tuple #[(enoughP p c).1.v, .int .i64 (enoughP p c).2] ∧ Mod none_ w w') ρ w5 := by
      intro ρ r3 r4 r6 r7 r8
      rw [limits_Enough_R0_eq]
      unfold limits_Enough_R0_F
      rw [r3, r4, r6, r7, r8]
      by_cases h1 : (stepsP p c.ranks).2 = 0
      · simp only [↓VG_u, ↓UG_u, ↓MG_u, ↓NG_u, ↓PG_u, ↓BG_u, ↓CG_u, ↓IG_u, ↓VGtt, ↓VGtf, ↓VGft, ↓VGff, ↓UGtt, ↓UGtf, ↓UGft, ↓UGff, ↓MGtt, ↓MGtf, ↓MGft, ↓MGff, ↓NGtt, ↓NGtf, ↓NGft, ↓NGff, ↓PGtt, ↓PGtf, ↓PGft, ↓PGff, ↓BGtt, ↓BGtf, ↓BGft, ↓BGff, ↓CGtt, ↓CGtf, ↓CGft, ↓CGff, ↓IGtt, ↓IGtf, ↓IGft, ↓IGff, ↓PKt, ↓PKf, ↓CDt, ↓CDf, ↓NOTt, ↓NOTf, ↓NK_ptr, ↓NEf h1]
        rw [if_neg (by omega)] at hen
        rw [fo (off := 4) (by kernel_rfl), add_pl]
        refine stC (b := b3) (o := 0 + 4) rfl cI rfl hb25 (by simp [Cf.cells]) fun w6 hb6 hm6 hz6 => ?_
        rw [fo (off := 5) (by kernel_rfl), add_pl]
        refine stC (b := b3) (o := 0 + 5) rfl cI rfl hb6 (by simp [Cf.cells]) fun w7 hb7 hm7 hz7 => ?_
        obtain ⟨c', hc'⟩ : ∃ c' : Cf, c' = ⟨c.ranks, c.eager, c.loose, c.polls, (runsP p c.ranks).1, (stepsP p c.ranks).1⟩ := ⟨_, rfl⟩
        have hcs : (c.cells.toArray.setIfInBounds (0 + 4) (.int .i64 (runsP p c.ranks).1)).setIfInBounds (0 + 5) (.int .i64 (stepsP p c.ranks).1) = c'.cells.toArray := by rw [hc']; rfl
        rw [hcs] at hb7
        refine ldS (cs := c'.cells.toArray) rfl Tryz.underlying34 rfl iCfg hb7 ?_
        have hb47 := hm7.blk (hm6.blk hb35 (by omega)) (by omega)
        refine stS (b := b4) (old := zCf.cells.toArray) (cs := c'.cells.toArray) rfl rfl iCfg rfl (cf_one _) hb47 fun w8 hb8 hm8 hz8 => ?_
        show ∃ v, (do loadVar 34 (← asAddr (ρ 4)) : Sem Value).run Tryz.prog w8 = .ok v w8 ∧ _
        rw [r4]
        refine ⟨_, res_ld (run_ldB (cs := c'.cells.toArray) Tryz.underlying34 rfl iCfg hb8), by rw [hen, ← hc']; rfl, ((hm05.then hm6 fun i hi q => by omega).then hm7 fun i hi q => by omega).then hm8 fun i hi q => by omega⟩
      · simp only [↓VG_u, ↓UG_u, ↓MG_u, ↓NG_u, ↓PG_u, ↓BG_u, ↓CG_u, ↓IG_u, ↓VGtt, ↓VGtf, ↓VGft, ↓VGff, ↓UGtt, ↓UGtf, ↓UGft, ↓UGff, ↓MGtt, ↓MGtf, ↓MGft, ↓MGff, ↓NGtt, ↓NGtf, ↓NGft, ↓NGff, ↓PGtt, ↓PGtf, ↓PGft, ↓PGff, ↓BGtt, ↓BGtf, ↓BGft, ↓BGff, ↓CGtt, ↓CGtf, ↓CGft, ↓CGff, ↓IGtt, ↓IGtf, ↓IGft, ↓IGff, ↓PKt, ↓PKf, ↓CDt, ↓CDf, ↓NOTt, ↓NOTf, ↓NK_ptr, ↓NEt h1]
        rw [if_pos h1] at hen
        rw [build_ok bCfg]
        refine stS (b := b4) (old := zCf.cells.toArray) (cs := zCf.cells.toArray) rfl rfl iCfg rfl (cf_one _) hb35 fun w6 hb6 hm6 hz6 => ?_
        show ∃ v, (do loadVar 34 (← asAddr (ρ 4)) : Sem Value).run Tryz.prog w6 = .ok v w6 ∧ _
        rw [r4]
        refine ⟨_, res_ld (run_ldB (cs := zCf.cells.toArray) Tryz.underlying34 rfl iCfg hb6), by rw [hen]; rfl, hm05.then hm6 fun i hi q => by omega⟩
    exact fin _ rfl rfl rfl rfl rfl
  · simp only [↓VG_u, ↓UG_u, ↓MG_u, ↓NG_u, ↓PG_u, ↓BG_u, ↓CG_u, ↓IG_u, ↓VGtt, ↓VGtf, ↓VGft, ↓VGff, ↓UGtt, ↓UGtf, ↓UGft, ↓UGff, ↓MGtt, ↓MGtf, ↓MGft, ↓MGff, ↓NGtt, ↓NGtf, ↓NGft, ↓NGff, ↓PGtt, ↓PGtf, ↓PGft, ↓PGff, ↓BGtt, ↓BGtf, ↓BGft, ↓BGff, ↓CGtt, ↓CGtf, ↓CGft, ↓CGff, ↓IGtt, ↓IGtf, ↓IGft, ↓IGff, ↓PKt, ↓PKf, ↓CDt, ↓CDf, ↓NOTt, ↓NOTf, ↓NK_ptr, ↓NEt h0]
    rw [if_pos h0] at hen
    rw [build_ok bCfg]
    refine stS (b := b4) (old := zCf.cells.toArray) (cs := zCf.cells.toArray) rfl rfl iCfg rfl (cf_one _) hb34 fun w6 hb6 hm6 hz6 => ?_
    refine ⟨_, res_ld (run_ldB (cs := zCf.cells.toArray) Tryz.underlying34 rfl iCfg hb6), by rw [hen]; rfl, hm04.then hm6 fun i hi q => by omega⟩
theorem EnoughR_ok {w : World} {p : Pr} (h : p.Ok w) (hf : p.fits) (c : Cf) : Rt Tryz.prog 12 #[.agg p.cells.toArray, .agg c.cells.toArray] w fun v w' => v = .tuple #[(enoughP p c).1.v, .int .i64 (enoughP p c).2] ∧ Mod none_ w w' := by
  refine dispatcherref30_Enough_calls ?_
  unfold dispatcherref30_Enough_F
  refine box_k (cs := p.cells.toArray) rfl fun w1 hb1 hm1 hz1 => ?_
  refine box_k (cs := c.cells.toArray) rfl fun w2 hb2 hm2 hz2 => ?_
  refine al_k (cs := zCf.cells.toArray) zCfg rfl _ fun w3 hb3 hm3 hz3 => ?_
  have hb12 := (hm2.trans hm3).blk hb1 id
  have hb22 := hm3.blk hb2 id
  have hm03 := (hm1.trans hm2).trans hm3
  generalize hx2 : w.heap.size = b2 at *
  generalize hx3 : w1.heap.size = b3 at *
  generalize hx4 : w2.heap.size = b4 at *
  refine ldB (cs := p.cells.toArray) Tryz.underlying25 rfl iPr hb12 ?_
  obtain ⟨f0, f4, f5⟩ := cf_fo hb22
  simp only [↓f0.e]
  refine CK_st Tryz.func8 rfl rfl (RunsR_ok (h.mod hm03) hf c.ranks) ?_
  rintro _ w4 ⟨rfl, hm4⟩
  have hm04 := hm03.trans hm4
  have hb14 := hm4.blk hb12 id
  have hb24 := hm4.blk hb22 id
  have hb34 := hm4.blk hb3 id
  rw [extract_ok (v := .int .i64 (runsP p c.ranks).1) rfl, extract_ok (v := .int .i64 (runsP p c.ranks).2) rfl]
  have hen : enoughP p c = if (runsP p c.ranks).2 ≠ 0 then (zCf, (runsP p c.ranks).2) else if (stepsP p c.ranks).2 ≠ 0 then (zCf, (stepsP p c.ranks).2) else (⟨c.ranks, c.eager, c.loose, c.polls, (runsP p c.ranks).1, (stepsP p c.ranks).1⟩, 0) := rfl
  refine ldB (cs := p.cells.toArray) Tryz.underlying25 rfl iPr hb14 ?_
  obtain ⟨f0, f4, f5⟩ := cf_fo hb24
  simp only [↓f0.e]
  refine CK_st Tryz.func10 rfl rfl (StepsR_ok (h.mod hm04) hf c.ranks) ?_
  rintro _ w5 ⟨rfl, hm5⟩
  have hm05 := hm04.trans hm5
  have hb25 := hm5.blk hb24 id
  have hb35 := hm5.blk hb34 id
  rw [extract_ok (v := .int .i64 (stepsP p c.ranks).1) rfl, extract_ok (v := .int .i64 (stepsP p c.ranks).2) rfl]
  have fin : ∀ (ρ : Sl) (er : Int), er = (if (runsP p c.ranks).2 ≠ 0 then (runsP p c.ranks).2 else (stepsP p c.ranks).2) → ρ 3 = pt b3 → ρ 4 = pt b4 → ρ 6 = .int .i64 (runsP p c.ranks).1 → ρ 7 = .int .i64 er → ρ 8 = .int .i64 (stepsP p c.ranks).1 → sx fn_ Tryz.prog 36 dispatcherref30_Enough_R1 (retK Tryz.prog [ResultVar.cell 4 34, ResultVar.tmp 5] fun v w' => v = .tuple #[(enoughP p c).1.v, .int .i64 (enoughP p c).2] ∧ Mod none_ w w') ρ w5 := by
    intro ρ er her r3 r4 r6 r7 r8
    rw [dispatcherref30_Enough_R1_eq]
    unfold dispatcherref30_Enough_R1_F
    rw [r3, r4, r6, r7, r8]
    by_cases h1 : er = 0
    · simp only [↓VG_u, ↓UG_u, ↓MG_u, ↓NG_u, ↓PG_u, ↓BG_u, ↓CG_u, ↓IG_u, ↓VGtt, ↓VGtf, ↓VGft, ↓VGff, ↓UGtt, ↓UGtf, ↓UGft, ↓UGff, ↓MGtt, ↓MGtf, ↓MGft, ↓MGff, ↓NGtt, ↓NGtf, ↓NGft, ↓NGff, ↓PGtt, ↓PGtf, ↓PGft, ↓PGff, ↓BGtt, ↓BGtf, ↓BGft, ↓BGff, ↓CGtt, ↓CGtf, ↓CGft, ↓CGff, ↓IGtt, ↓IGtf, ↓IGft, ↓IGff, ↓PKt, ↓PKf, ↓CDt, ↓CDf, ↓NOTt, ↓NOTf, ↓NK_ptr, ↓NEf h1]
      have hrz : (runsP p c.ranks).2 = 0 := by
        by_cases q : (runsP p c.ranks).2 = 0
        · exact q
        · rw [if_pos q] at her; omega
      have hsz : (stepsP p c.ranks).2 = 0 := by rw [if_neg (by omega)] at her; omega
      rw [if_neg (by omega), if_neg (by omega)] at hen
      rw [fo (off := 4) (by kernel_rfl), add_pl]
      refine stC (b := b3) (o := 0 + 4) rfl cI rfl hb25 (by simp [Cf.cells]) fun w6 hb6 hm6 hz6 => ?_
      rw [fo (off := 5) (by kernel_rfl), add_pl]
      refine stC (b := b3) (o := 0 + 5) rfl cI rfl hb6 (by simp [Cf.cells]) fun w7 hb7 hm7 hz7 => ?_
      obtain ⟨c', hc'⟩ : ∃ c' : Cf, c' = ⟨c.ranks, c.eager, c.loose, c.polls, (runsP p c.ranks).1, (stepsP p c.ranks).1⟩ := ⟨_, rfl⟩
      have hcs : (c.cells.toArray.setIfInBounds (0 + 4) (.int .i64 (runsP p c.ranks).1)).setIfInBounds (0 + 5) (.int .i64 (stepsP p c.ranks).1) = c'.cells.toArray := by rw [hc']; rfl
      rw [hcs] at hb7
      refine ldS (cs := c'.cells.toArray) rfl Tryz.underlying34 rfl iCfg hb7 ?_
      have hb47 := hm7.blk (hm6.blk hb35 (by omega)) (by omega)
      refine stS (b := b4) (old := zCf.cells.toArray) (cs := c'.cells.toArray) rfl rfl iCfg rfl (cf_one _) hb47 fun w8 hb8 hm8 hz8 => ?_
      show ∃ v, (do loadVar 34 (← asAddr (ρ 4)) : Sem Value).run Tryz.prog w8 = .ok v w8 ∧ _
      rw [r4]
      refine ⟨_, res_ld (run_ldB (cs := c'.cells.toArray) Tryz.underlying34 rfl iCfg hb8), by rw [hen, ← hc']; rfl, ((hm05.then hm6 fun i hi q => by omega).then hm7 fun i hi q => by omega).then hm8 fun i hi q => by omega⟩
    · simp only [↓VG_u, ↓UG_u, ↓MG_u, ↓NG_u, ↓PG_u, ↓BG_u, ↓CG_u, ↓IG_u, ↓VGtt, ↓VGtf, ↓VGft, ↓VGff, ↓UGtt, ↓UGtf, ↓UGft, ↓UGff, ↓MGtt, ↓MGtf, ↓MGft, ↓MGff, ↓NGtt, ↓NGtf, ↓NGft, ↓NGff, ↓PGtt, ↓PGtf, ↓PGft, ↓PGff, ↓BGtt, ↓BGtf, ↓BGft, ↓BGff, ↓CGtt, ↓CGtf, ↓CGft, ↓CGff, ↓IGtt, ↓IGtf, ↓IGft, ↓IGff, ↓PKt, ↓PKf, ↓CDt, ↓CDf, ↓NOTt, ↓NOTf, ↓NK_ptr, ↓NEt h1]
      have hen2 : enoughP p c = (zCf, er) := by
        by_cases q : (runsP p c.ranks).2 = 0
        · have e1 : er = (stepsP p c.ranks).2 := by rw [her, if_neg (by omega)]
          rw [hen, e1, if_neg (by omega : ¬ (runsP p c.ranks).2 ≠ 0), if_pos (by omega : (stepsP p c.ranks).2 ≠ 0)]
        · have e1 : er = (runsP p c.ranks).2 := by rw [her, if_pos q]
          rw [hen, e1, if_pos q]
      rw [build_ok bCfg]
      refine stS (b := b4) (old := zCf.cells.toArray) (cs := zCf.cells.toArray) rfl rfl iCfg rfl (cf_one _) hb35 fun w6 hb6 hm6 hz6 => ?_
      show ∃ v, (do loadVar 34 (← asAddr (ρ 4)) : Sem Value).run Tryz.prog w6 = .ok v w6 ∧ _
      rw [r4]
      refine ⟨_, res_ld (run_ldB (cs := zCf.cells.toArray) Tryz.underlying34 rfl iCfg hb6), by rw [hen2]; rfl, hm05.then hm6 fun i hi q => by omega⟩
  by_cases h0 : (runsP p c.ranks).2 = 0
  · simp only [↓VG_u, ↓UG_u, ↓MG_u, ↓NG_u, ↓PG_u, ↓BG_u, ↓CG_u, ↓IG_u, ↓VGtt, ↓VGtf, ↓VGft, ↓VGff, ↓UGtt, ↓UGtf, ↓UGft, ↓UGff, ↓MGtt, ↓MGtf, ↓MGft, ↓MGff, ↓NGtt, ↓NGtf, ↓NGft, ↓NGff, ↓PGtt, ↓PGtf, ↓PGft, ↓PGff, ↓BGtt, ↓BGtf, ↓BGft, ↓BGff, ↓CGtt, ↓CGtf, ↓CGft, ↓CGff, ↓IGtt, ↓IGtf, ↓IGft, ↓IGff, ↓PKt, ↓PKf, ↓CDt, ↓CDf, ↓NOTt, ↓NOTf, ↓NK_ptr, ↓EQt h0]
    rw [dispatcherref30_Enough_R0_eq]
    unfold dispatcherref30_Enough_R0_F
    refine condT ?_
    rw [sq_n]
    exact fin _ (stepsP p c.ranks).2 (by rw [if_neg (by omega)]) rfl rfl rfl rfl rfl
  · simp only [↓VG_u, ↓UG_u, ↓MG_u, ↓NG_u, ↓PG_u, ↓BG_u, ↓CG_u, ↓IG_u, ↓VGtt, ↓VGtf, ↓VGft, ↓VGff, ↓UGtt, ↓UGtf, ↓UGft, ↓UGff, ↓MGtt, ↓MGtf, ↓MGft, ↓MGff, ↓NGtt, ↓NGtf, ↓NGft, ↓NGff, ↓PGtt, ↓PGtf, ↓PGft, ↓PGff, ↓BGtt, ↓BGtf, ↓BGft, ↓BGff, ↓CGtt, ↓CGtf, ↓CGft, ↓CGff, ↓IGtt, ↓IGtf, ↓IGft, ↓IGff, ↓PKt, ↓PKf, ↓CDt, ↓CDf, ↓NOTt, ↓NOTf, ↓NK_ptr, ↓EQf h0]
    rw [dispatcherref30_Enough_R0_eq]
    unfold dispatcherref30_Enough_R0_F
    refine condF ?_
    rw [sq_n]
    exact fin _ (runsP p c.ranks).2 (by rw [if_pos h0]) rfl rfl rfl rfl rfl
def fitsB (p : Pr) (c : Cf) : Bool := decide ((enoughP p c).2 = 0 ∧ (enoughP p c).1.runs ≤ c.runs ∧ (enoughP p c).1.steps ≤ c.steps ∧ c.runs ≤ 65536 ∧ c.steps ≤ 1048576)
theorem Fits_ok {w : World} (hg : Gl w) {p : Pr} (h : p.Ok w) (hf : p.fits) (c : Cf) : Rt Tryz.prog 13 #[.agg p.cells.toArray, .agg c.cells.toArray] w fun v w' => v = .bool (fitsB p c) ∧ Mod none_ w w' := by
  refine limits_Fits_calls ?_
  unfold limits_Fits_F
  refine box_k (cs := p.cells.toArray) rfl fun w1 hb1 hm1 hz1 => ?_
  refine box_k (cs := c.cells.toArray) rfl fun w2 hb2 hm2 hz2 => ?_
  have hb12 := hm2.blk hb1 id
  have hm02 := hm1.trans hm2
  refine ldB (cs := p.cells.toArray) Tryz.underlying25 rfl iPr hb12 ?_
  refine ldB (cs := c.cells.toArray) Tryz.underlying34 rfl iCfg hb2 ?_
  refine CK_st Tryz.func11 rfl rfl (Enough_ok (hg.mod hm02) (h.mod hm02) hf c) ?_
  rintro _ w3 ⟨rfl, hm3⟩
  rw [extract_ok (v := (enoughP p c).1.v) rfl, extract_ok (v := .int .i64 (enoughP p c).2) rfl]
  refine lcl_k (cs := (enoughP p c).1.cells.toArray) zCfg _ iCfg rfl (cf_one _) fun w4 hb4 hm4 hz4 => ?_
  have hm04 := (hm02.trans hm3).trans hm4
  obtain ⟨f0, f4, f5⟩ := cf_fo ((hm3.trans hm4).blk hb2 id)
  obtain ⟨g0, g4, g5⟩ := cf_fo hb4
  have no : ∀ {P : Prop} [Decidable P], ¬P → decide P = false := fun h => decide_eq_false h
  have bad : fitsB p c = false → (Value.bool false = .bool (fitsB p c) ∧ Mod none_ w w4) := fun q => ⟨by rw [q], hm04⟩
  by_cases h0 : (enoughP p c).2 = 0
  · simp only [↓VG_u, ↓UG_u, ↓MG_u, ↓NG_u, ↓PG_u, ↓BG_u, ↓CG_u, ↓IG_u, ↓VGtt, ↓VGtf, ↓VGft, ↓VGff, ↓UGtt, ↓UGtf, ↓UGft, ↓UGff, ↓MGtt, ↓MGtf, ↓MGft, ↓MGff, ↓NGtt, ↓NGtf, ↓NGft, ↓NGff, ↓PGtt, ↓PGtf, ↓PGft, ↓PGff, ↓BGtt, ↓BGtf, ↓BGft, ↓BGff, ↓CGtt, ↓CGtf, ↓CGft, ↓CGff, ↓IGtt, ↓IGtf, ↓IGft, ↓IGff, ↓PKt, ↓PKf, ↓CDt, ↓CDf, ↓NOTt, ↓NOTf, ↓NK_ptr, ↓EQt h0, ↓f4.e, ↓g4.e]
    by_cases h1 : (enoughP p c).1.runs ≤ c.runs
    · simp only [↓VG_u, ↓UG_u, ↓MG_u, ↓NG_u, ↓PG_u, ↓BG_u, ↓CG_u, ↓IG_u, ↓VGtt, ↓VGtf, ↓VGft, ↓VGff, ↓UGtt, ↓UGtf, ↓UGft, ↓UGff, ↓MGtt, ↓MGtf, ↓MGft, ↓MGff, ↓NGtt, ↓NGtf, ↓NGft, ↓NGff, ↓PGtt, ↓PGtf, ↓PGft, ↓PGff, ↓BGtt, ↓BGtf, ↓BGft, ↓BGff, ↓CGtt, ↓CGtf, ↓CGft, ↓CGff, ↓IGtt, ↓IGtf, ↓IGft, ↓IGff, ↓PKt, ↓PKf, ↓CDt, ↓CDf, ↓NOTt, ↓NOTf, ↓NK_ptr, ↓GEt h1, ↓f5.e, ↓g5.e]
      by_cases h2 : (enoughP p c).1.steps ≤ c.steps
      · simp only [↓VG_u, ↓UG_u, ↓MG_u, ↓NG_u, ↓PG_u, ↓BG_u, ↓CG_u, ↓IG_u, ↓VGtt, ↓VGtf, ↓VGft, ↓VGff, ↓UGtt, ↓UGtf, ↓UGft, ↓UGff, ↓MGtt, ↓MGtf, ↓MGft, ↓MGff, ↓NGtt, ↓NGtf, ↓NGft, ↓NGff, ↓PGtt, ↓PGtf, ↓PGft, ↓PGff, ↓BGtt, ↓BGtf, ↓BGft, ↓BGff, ↓CGtt, ↓CGtf, ↓CGft, ↓CGff, ↓IGtt, ↓IGtf, ↓IGft, ↓IGff, ↓PKt, ↓PKf, ↓CDt, ↓CDf, ↓NOTt, ↓NOTf, ↓NK_ptr, ↓GEt h2, ↓f4.e]
        by_cases h3 : c.runs ≤ 65536
        · simp only [↓VG_u, ↓UG_u, ↓MG_u, ↓NG_u, ↓PG_u, ↓BG_u, ↓CG_u, ↓IG_u, ↓VGtt, ↓VGtf, ↓VGft, ↓VGff, ↓UGtt, ↓UGtf, ↓UGft, ↓UGff, ↓MGtt, ↓MGtf, ↓MGft, ↓MGff, ↓NGtt, ↓NGtf, ↓NGft, ↓NGff, ↓PGtt, ↓PGtf, ↓PGft, ↓PGff, ↓BGtt, ↓BGtf, ↓BGft, ↓BGff, ↓CGtt, ↓CGtf, ↓CGft, ↓CGff, ↓IGtt, ↓IGtf, ↓IGft, ↓IGff, ↓PKt, ↓PKf, ↓CDt, ↓CDf, ↓NOTt, ↓NOTf, ↓NK_ptr, ↓LEt h3, ↓f5.e]
          by_cases h4 : c.steps ≤ 1048576
          · simp only [↓VG_u, ↓UG_u, ↓MG_u, ↓NG_u, ↓PG_u, ↓BG_u, ↓CG_u, ↓IG_u, ↓VGtt, ↓VGtf, ↓VGft, ↓VGff, ↓UGtt, ↓UGtf, ↓UGft, ↓UGff, ↓MGtt, ↓MGtf, ↓MGft, ↓MGff, ↓NGtt, ↓NGtf, ↓NGft, ↓NGff, ↓PGtt, ↓PGtf, ↓PGft, ↓PGff, ↓BGtt, ↓BGtf, ↓BGft, ↓BGff, ↓CGtt, ↓CGtf, ↓CGft, ↓CGff, ↓IGtt, ↓IGtf, ↓IGft, ↓IGff, ↓PKt, ↓PKf, ↓CDt, ↓CDf, ↓NOTt, ↓NOTf, ↓NK_ptr, ↓LEt h4]
            exact ⟨by unfold fitsB; rw [decide_eq_true ⟨h0, h1, h2, h3, h4⟩], hm04⟩
          · simp only [↓VG_u, ↓UG_u, ↓MG_u, ↓NG_u, ↓PG_u, ↓BG_u, ↓CG_u, ↓IG_u, ↓VGtt, ↓VGtf, ↓VGft, ↓VGff, ↓UGtt, ↓UGtf, ↓UGft, ↓UGff, ↓MGtt, ↓MGtf, ↓MGft, ↓MGff, ↓NGtt, ↓NGtf, ↓NGft, ↓NGff, ↓PGtt, ↓PGtf, ↓PGft, ↓PGff, ↓BGtt, ↓BGtf, ↓BGft, ↓BGff, ↓CGtt, ↓CGtf, ↓CGft, ↓CGff, ↓IGtt, ↓IGtf, ↓IGft, ↓IGff, ↓PKt, ↓PKf, ↓CDt, ↓CDf, ↓NOTt, ↓NOTf, ↓NK_ptr, ↓LEf (show 1048576 < c.steps by omega)]
            exact bad (by unfold fitsB; exact no fun q => h4 q.2.2.2.2)
        · simp only [↓VG_u, ↓UG_u, ↓MG_u, ↓NG_u, ↓PG_u, ↓BG_u, ↓CG_u, ↓IG_u, ↓VGtt, ↓VGtf, ↓VGft, ↓VGff, ↓UGtt, ↓UGtf, ↓UGft, ↓UGff, ↓MGtt, ↓MGtf, ↓MGft, ↓MGff, ↓NGtt, ↓NGtf, ↓NGft, ↓NGff, ↓PGtt, ↓PGtf, ↓PGft, ↓PGff, ↓BGtt, ↓BGtf, ↓BGft, ↓BGff, ↓CGtt, ↓CGtf, ↓CGft, ↓CGff, ↓IGtt, ↓IGtf, ↓IGft, ↓IGff, ↓PKt, ↓PKf, ↓CDt, ↓CDf, ↓NOTt, ↓NOTf, ↓NK_ptr, ↓LEf (show 65536 < c.runs by omega)]
          exact bad (by unfold fitsB; exact no fun q => h3 q.2.2.2.1)
      · simp only [↓VG_u, ↓UG_u, ↓MG_u, ↓NG_u, ↓PG_u, ↓BG_u, ↓CG_u, ↓IG_u, ↓VGtt, ↓VGtf, ↓VGft, ↓VGff, ↓UGtt, ↓UGtf, ↓UGft, ↓UGff, ↓MGtt, ↓MGtf, ↓MGft, ↓MGff, ↓NGtt, ↓NGtf, ↓NGft, ↓NGff, ↓PGtt, ↓PGtf, ↓PGft, ↓PGff, ↓BGtt, ↓BGtf, ↓BGft, ↓BGff, ↓CGtt, ↓CGtf, ↓CGft, ↓CGff, ↓IGtt, ↓IGtf, ↓IGft, ↓IGff, ↓PKt, ↓PKf, ↓CDt, ↓CDf, ↓NOTt, ↓NOTf, ↓NK_ptr, ↓GEf (show c.steps < (enoughP p c).1.steps by omega)]
        exact bad (by unfold fitsB; exact no fun q => h2 q.2.2.1)
    · simp only [↓VG_u, ↓UG_u, ↓MG_u, ↓NG_u, ↓PG_u, ↓BG_u, ↓CG_u, ↓IG_u, ↓VGtt, ↓VGtf, ↓VGft, ↓VGff, ↓UGtt, ↓UGtf, ↓UGft, ↓UGff, ↓MGtt, ↓MGtf, ↓MGft, ↓MGff, ↓NGtt, ↓NGtf, ↓NGft, ↓NGff, ↓PGtt, ↓PGtf, ↓PGft, ↓PGff, ↓BGtt, ↓BGtf, ↓BGft, ↓BGff, ↓CGtt, ↓CGtf, ↓CGft, ↓CGff, ↓IGtt, ↓IGtf, ↓IGft, ↓IGff, ↓PKt, ↓PKf, ↓CDt, ↓CDf, ↓NOTt, ↓NOTf, ↓NK_ptr, ↓GEf (show c.runs < (enoughP p c).1.runs by omega)]
      exact bad (by unfold fitsB; exact no fun q => h1 q.2.1)
  · simp only [↓VG_u, ↓UG_u, ↓MG_u, ↓NG_u, ↓PG_u, ↓BG_u, ↓CG_u, ↓IG_u, ↓VGtt, ↓VGtf, ↓VGft, ↓VGff, ↓UGtt, ↓UGtf, ↓UGft, ↓UGff, ↓MGtt, ↓MGtf, ↓MGft, ↓MGff, ↓NGtt, ↓NGtf, ↓NGft, ↓NGff, ↓PGtt, ↓PGtf, ↓PGft, ↓PGff, ↓BGtt, ↓BGtf, ↓BGft, ↓BGff, ↓CGtt, ↓CGtf, ↓CGft, ↓CGff, ↓IGtt, ↓IGtf, ↓IGft, ↓IGff, ↓PKt, ↓PKf, ↓CDt, ↓CDf, ↓NOTt, ↓NOTf, ↓NK_ptr, ↓EQf h0]
    exact bad (by unfold fitsB; exact no fun q => h0 q.1)
theorem FitsR_ok {w : World} {p : Pr} (h : p.Ok w) (hf : p.fits) (c : Cf) : Rt Tryz.prog 14 #[.agg p.cells.toArray, .agg c.cells.toArray] w fun v w' => v = .bool (fitsB p c) ∧ Mod none_ w w' := by
  refine dispatcherref30_Fits_calls ?_
  unfold dispatcherref30_Fits_F
  refine box_k (cs := p.cells.toArray) rfl fun w1 hb1 hm1 hz1 => ?_
  refine box_k (cs := c.cells.toArray) rfl fun w2 hb2 hm2 hz2 => ?_
  have hb12 := hm2.blk hb1 id
  have hm02 := hm1.trans hm2
  refine ldB (cs := p.cells.toArray) Tryz.underlying25 rfl iPr hb12 ?_
  refine ldB (cs := c.cells.toArray) Tryz.underlying34 rfl iCfg hb2 ?_
  refine CK_st Tryz.func12 rfl rfl (EnoughR_ok (h.mod hm02) hf c) ?_
  rintro _ w3 ⟨rfl, hm3⟩
  rw [extract_ok (v := (enoughP p c).1.v) rfl, extract_ok (v := .int .i64 (enoughP p c).2) rfl]
  refine lcl_k (cs := (enoughP p c).1.cells.toArray) zCfg _ iCfg rfl (cf_one _) fun w4 hb4 hm4 hz4 => ?_
  have hm04 := (hm02.trans hm3).trans hm4
  obtain ⟨f0, f4, f5⟩ := cf_fo ((hm3.trans hm4).blk hb2 id)
  obtain ⟨g0, g4, g5⟩ := cf_fo hb4
  have no : ∀ {P : Prop} [Decidable P], ¬P → decide P = false := fun h => decide_eq_false h
  have bad : fitsB p c = false → (Value.bool false = .bool (fitsB p c) ∧ Mod none_ w w4) := fun q => ⟨by rw [q], hm04⟩
  by_cases h0 : (enoughP p c).2 = 0
  · simp only [↓VG_u, ↓UG_u, ↓MG_u, ↓NG_u, ↓PG_u, ↓BG_u, ↓CG_u, ↓IG_u, ↓VGtt, ↓VGtf, ↓VGft, ↓VGff, ↓UGtt, ↓UGtf, ↓UGft, ↓UGff, ↓MGtt, ↓MGtf, ↓MGft, ↓MGff, ↓NGtt, ↓NGtf, ↓NGft, ↓NGff, ↓PGtt, ↓PGtf, ↓PGft, ↓PGff, ↓BGtt, ↓BGtf, ↓BGft, ↓BGff, ↓CGtt, ↓CGtf, ↓CGft, ↓CGff, ↓IGtt, ↓IGtf, ↓IGft, ↓IGff, ↓PKt, ↓PKf, ↓CDt, ↓CDf, ↓NOTt, ↓NOTf, ↓NK_ptr, ↓EQt h0, ↓f4.e, ↓g4.e]
    by_cases h1 : (enoughP p c).1.runs ≤ c.runs
    · simp only [↓VG_u, ↓UG_u, ↓MG_u, ↓NG_u, ↓PG_u, ↓BG_u, ↓CG_u, ↓IG_u, ↓VGtt, ↓VGtf, ↓VGft, ↓VGff, ↓UGtt, ↓UGtf, ↓UGft, ↓UGff, ↓MGtt, ↓MGtf, ↓MGft, ↓MGff, ↓NGtt, ↓NGtf, ↓NGft, ↓NGff, ↓PGtt, ↓PGtf, ↓PGft, ↓PGff, ↓BGtt, ↓BGtf, ↓BGft, ↓BGff, ↓CGtt, ↓CGtf, ↓CGft, ↓CGff, ↓IGtt, ↓IGtf, ↓IGft, ↓IGff, ↓PKt, ↓PKf, ↓CDt, ↓CDf, ↓NOTt, ↓NOTf, ↓NK_ptr, ↓GEt h1, ↓f4.e]
      by_cases h3 : c.runs ≤ 65536
      · simp only [↓VG_u, ↓UG_u, ↓MG_u, ↓NG_u, ↓PG_u, ↓BG_u, ↓CG_u, ↓IG_u, ↓VGtt, ↓VGtf, ↓VGft, ↓VGff, ↓UGtt, ↓UGtf, ↓UGft, ↓UGff, ↓MGtt, ↓MGtf, ↓MGft, ↓MGff, ↓NGtt, ↓NGtf, ↓NGft, ↓NGff, ↓PGtt, ↓PGtf, ↓PGft, ↓PGff, ↓BGtt, ↓BGtf, ↓BGft, ↓BGff, ↓CGtt, ↓CGtf, ↓CGft, ↓CGff, ↓IGtt, ↓IGtf, ↓IGft, ↓IGff, ↓PKt, ↓PKf, ↓CDt, ↓CDf, ↓NOTt, ↓NOTf, ↓NK_ptr, ↓LEt h3, ↓f5.e, ↓g5.e]
        by_cases h2 : (enoughP p c).1.steps ≤ c.steps
        · simp only [↓VG_u, ↓UG_u, ↓MG_u, ↓NG_u, ↓PG_u, ↓BG_u, ↓CG_u, ↓IG_u, ↓VGtt, ↓VGtf, ↓VGft, ↓VGff, ↓UGtt, ↓UGtf, ↓UGft, ↓UGff, ↓MGtt, ↓MGtf, ↓MGft, ↓MGff, ↓NGtt, ↓NGtf, ↓NGft, ↓NGff, ↓PGtt, ↓PGtf, ↓PGft, ↓PGff, ↓BGtt, ↓BGtf, ↓BGft, ↓BGff, ↓CGtt, ↓CGtf, ↓CGft, ↓CGff, ↓IGtt, ↓IGtf, ↓IGft, ↓IGff, ↓PKt, ↓PKf, ↓CDt, ↓CDf, ↓NOTt, ↓NOTf, ↓NK_ptr, ↓GEt h2, ↓f5.e]
          by_cases h4 : c.steps ≤ 1048576
          · simp only [↓VG_u, ↓UG_u, ↓MG_u, ↓NG_u, ↓PG_u, ↓BG_u, ↓CG_u, ↓IG_u, ↓VGtt, ↓VGtf, ↓VGft, ↓VGff, ↓UGtt, ↓UGtf, ↓UGft, ↓UGff, ↓MGtt, ↓MGtf, ↓MGft, ↓MGff, ↓NGtt, ↓NGtf, ↓NGft, ↓NGff, ↓PGtt, ↓PGtf, ↓PGft, ↓PGff, ↓BGtt, ↓BGtf, ↓BGft, ↓BGff, ↓CGtt, ↓CGtf, ↓CGft, ↓CGff, ↓IGtt, ↓IGtf, ↓IGft, ↓IGff, ↓PKt, ↓PKf, ↓CDt, ↓CDf, ↓NOTt, ↓NOTf, ↓NK_ptr, ↓LEt h4]
            exact ⟨by unfold fitsB; rw [decide_eq_true ⟨h0, h1, h2, h3, h4⟩], hm04⟩
          · simp only [↓VG_u, ↓UG_u, ↓MG_u, ↓NG_u, ↓PG_u, ↓BG_u, ↓CG_u, ↓IG_u, ↓VGtt, ↓VGtf, ↓VGft, ↓VGff, ↓UGtt, ↓UGtf, ↓UGft, ↓UGff, ↓MGtt, ↓MGtf, ↓MGft, ↓MGff, ↓NGtt, ↓NGtf, ↓NGft, ↓NGff, ↓PGtt, ↓PGtf, ↓PGft, ↓PGff, ↓BGtt, ↓BGtf, ↓BGft, ↓BGff, ↓CGtt, ↓CGtf, ↓CGft, ↓CGff, ↓IGtt, ↓IGtf, ↓IGft, ↓IGff, ↓PKt, ↓PKf, ↓CDt, ↓CDf, ↓NOTt, ↓NOTf, ↓NK_ptr, ↓LEf (show 1048576 < c.steps by omega)]
            exact bad (by unfold fitsB; exact no fun q => h4 q.2.2.2.2)
        · simp only [↓VG_u, ↓UG_u, ↓MG_u, ↓NG_u, ↓PG_u, ↓BG_u, ↓CG_u, ↓IG_u, ↓VGtt, ↓VGtf, ↓VGft, ↓VGff, ↓UGtt, ↓UGtf, ↓UGft, ↓UGff, ↓MGtt, ↓MGtf, ↓MGft, ↓MGff, ↓NGtt, ↓NGtf, ↓NGft, ↓NGff, ↓PGtt, ↓PGtf, ↓PGft, ↓PGff, ↓BGtt, ↓BGtf, ↓BGft, ↓BGff, ↓CGtt, ↓CGtf, ↓CGft, ↓CGff, ↓IGtt, ↓IGtf, ↓IGft, ↓IGff, ↓PKt, ↓PKf, ↓CDt, ↓CDf, ↓NOTt, ↓NOTf, ↓NK_ptr, ↓GEf (show c.steps < (enoughP p c).1.steps by omega)]
          exact bad (by unfold fitsB; exact no fun q => h2 q.2.2.1)
      · simp only [↓VG_u, ↓UG_u, ↓MG_u, ↓NG_u, ↓PG_u, ↓BG_u, ↓CG_u, ↓IG_u, ↓VGtt, ↓VGtf, ↓VGft, ↓VGff, ↓UGtt, ↓UGtf, ↓UGft, ↓UGff, ↓MGtt, ↓MGtf, ↓MGft, ↓MGff, ↓NGtt, ↓NGtf, ↓NGft, ↓NGff, ↓PGtt, ↓PGtf, ↓PGft, ↓PGff, ↓BGtt, ↓BGtf, ↓BGft, ↓BGff, ↓CGtt, ↓CGtf, ↓CGft, ↓CGff, ↓IGtt, ↓IGtf, ↓IGft, ↓IGff, ↓PKt, ↓PKf, ↓CDt, ↓CDf, ↓NOTt, ↓NOTf, ↓NK_ptr, ↓LEf (show 65536 < c.runs by omega)]
        exact bad (by unfold fitsB; exact no fun q => h3 q.2.2.2.1)
    · simp only [↓VG_u, ↓UG_u, ↓MG_u, ↓NG_u, ↓PG_u, ↓BG_u, ↓CG_u, ↓IG_u, ↓VGtt, ↓VGtf, ↓VGft, ↓VGff, ↓UGtt, ↓UGtf, ↓UGft, ↓UGff, ↓MGtt, ↓MGtf, ↓MGft, ↓MGff, ↓NGtt, ↓NGtf, ↓NGft, ↓NGff, ↓PGtt, ↓PGtf, ↓PGft, ↓PGff, ↓BGtt, ↓BGtf, ↓BGft, ↓BGff, ↓CGtt, ↓CGtf, ↓CGft, ↓CGff, ↓IGtt, ↓IGtf, ↓IGft, ↓IGff, ↓PKt, ↓PKf, ↓CDt, ↓CDf, ↓NOTt, ↓NOTf, ↓NK_ptr, ↓GEf (show c.runs < (enoughP p c).1.runs by omega)]
      exact bad (by unfold fitsB; exact no fun q => h1 q.2.1)
  · simp only [↓VG_u, ↓UG_u, ↓MG_u, ↓NG_u, ↓PG_u, ↓BG_u, ↓CG_u, ↓IG_u, ↓VGtt, ↓VGtf, ↓VGft, ↓VGff, ↓UGtt, ↓UGtf, ↓UGft, ↓UGff, ↓MGtt, ↓MGtf, ↓MGft, ↓MGff, ↓NGtt, ↓NGtf, ↓NGft, ↓NGff, ↓PGtt, ↓PGtf, ↓PGft, ↓PGff, ↓BGtt, ↓BGtf, ↓BGft, ↓BGff, ↓CGtt, ↓CGtf, ↓CGft, ↓CGff, ↓IGtt, ↓IGtf, ↓IGft, ↓IGff, ↓PKt, ↓PKf, ↓CDt, ↓CDf, ↓NOTt, ↓NOTf, ↓NK_ptr, ↓EQf h0]
    exact bad (by unfold fitsB; exact no fun q => h0 q.1)
theorem LimitsEnough_ok {w : World} (hg : Gl w) {p : Pr} (h : p.Ok w) (hf : p.fits) (c : Cf) : Rt Tryz.prog 4 #[.agg p.cells.toArray, .agg c.cells.toArray] w fun v w' => v = .bool true ∧ Mod none_ w w' := by
  refine dispatcherlaw30_LimitsEnough_calls ?_
  unfold dispatcherlaw30_LimitsEnough_F
  refine box_k (cs := p.cells.toArray) rfl fun w1 hb1 hm1 hz1 => ?_
  refine box_k (cs := c.cells.toArray) rfl fun w2 hb2 hm2 hz2 => ?_
  have hb12 := hm2.blk hb1 id
  have hm02 := hm1.trans hm2
  generalize hx2 : w.heap.size = b2 at *
  generalize hx3 : w1.heap.size = b3 at *
  refine ldB (cs := p.cells.toArray) Tryz.underlying25 rfl iPr hb12 ?_
  refine CK_st Tryz.func6 rfl rfl (Great_ok (h.mod hm02) hf) ?_
  rintro _ w3 ⟨rfl, hm3⟩
  have hm03 := hm02.trans hm3
  have hb13 := hm3.blk hb12 id
  have hb23 := hm3.blk hb2 id
  cases hgr : p.great with
  | true => exact condT ⟨rfl, hm03⟩
  | false =>
  refine condF ?_
  refine ldB (cs := p.cells.toArray) Tryz.underlying25 rfl iPr hb13 ?_
  refine ldB (cs := c.cells.toArray) Tryz.underlying34 rfl iCfg hb23 ?_
  refine CK_st Tryz.func11 rfl rfl (Enough_ok (hg.mod hm03) (h.mod hm03) hf c) ?_
  rintro _ w4 ⟨rfl, hm4⟩
  rw [extract_ok (v := (enoughP p c).1.v) rfl, extract_ok (v := .int .i64 (enoughP p c).2) rfl]
  refine lcl_k (cs := (enoughP p c).1.cells.toArray) zCfg _ iCfg rfl (cf_one _) fun w5 hb5 hm5 hz5 => ?_
  have hm35 := hm4.trans hm5
  have hm05 := hm03.trans hm35
  have hb15 := hm35.blk hb13 id
  have hb25 := hm35.blk hb23 id
  generalize hx5 : w4.heap.size = b5 at *
  refine ldB (cs := p.cells.toArray) Tryz.underlying25 rfl iPr hb15 ?_
  refine ldB (cs := c.cells.toArray) Tryz.underlying34 rfl iCfg hb25 ?_
  refine CK_st Tryz.func12 rfl rfl (EnoughR_ok (h.mod hm05) hf c) ?_
  rintro _ w6 ⟨rfl, hm6⟩
  rw [extract_ok (v := (enoughP p c).1.v) rfl, extract_ok (v := .int .i64 (enoughP p c).2) rfl]
  refine lcl_k (cs := (enoughP p c).1.cells.toArray) zCfg _ iCfg rfl (cf_one _) fun w7 hb7 hm7 hz7 => ?_
  have hm57 := hm6.trans hm7
  have hm07 := hm05.trans hm57
  have hb17 := hm57.blk hb15 id
  have hb27 := hm57.blk hb25 id
  have hb57 := hm57.blk hb5 id
  generalize hx7 : w6.heap.size = b7 at *
  have h7 := h.mod hm07
  refine dispatcherlaw30_LimitsEnough_R0_quiet (D := []) (fun w' => Mod none_ w7 w') ((Mod.refl _ w7).drawn _) ?_
  unfold dispatcherlaw30_LimitsEnough_R0_Q
  have ldp : ∀ w', Mod none_ w7 w' → (Instr.loadAt 25 (pt b2)).run Tryz.prog w' = .ok (.agg p.cells.toArray) w' := fun w' hw => run_ldB (cs := p.cells.toArray) Tryz.underlying25 rfl iPr (hw.blk hb17 id)
  have ldc : ∀ w', Mod none_ w7 w' → (Instr.loadAt 34 (pt b3)).run Tryz.prog w' = .ok (.agg c.cells.toArray) w' := fun w' hw => run_ldB (cs := c.cells.toArray) Tryz.underlying34 rfl iCfg (hw.blk hb27 id)
  refine QV_of (v := (enoughP p c).1.v) (fun w' hw => run_ldB (cs := (enoughP p c).1.cells.toArray) Tryz.underlying34 rfl iCfg (hw.blk hb57 id)) ?_
  refine QV_of (v := (enoughP p c).1.v) (fun w' hw => run_ldB (cs := (enoughP p c).1.cells.toArray) Tryz.underlying34 rfl iCfg (hw.blk hb7 id)) ?_
  refine QB_of (v := .bool (decide ((enoughP p c).1 = (enoughP p c).1))) (fun w => run_eqGuard_agg w .eql _ _ _ _ _ gCf) (fun w => rCfE _ _ w) ?_
  rw [decide_eq_true rfl, QG_b, if_pos rfl]
  refine QM ?_
  rw [QG_b, if_pos rfl]
  refine QM ?_
  rw [QG_b, if_pos rfl]
  refine Qeql (a := (enoughP p c).2) (b := (enoughP p c).2) ?_
  rw [beq_self_eq_true]
  refine QP_of ?_
  rw [if_pos rfl, QG_b, if_pos rfl]
  refine QV_of ldp ?_
  rw [QG_b, if_pos rfl]
  refine QV_of ldc ?_
  rw [QG_b, if_pos rfl]
  refine QC_rt (R := fun w' v w'' => v = .bool (fitsB p c) ∧ Mod none_ w' w'') Tryz.func13 rfl rfl (v := .bool (fitsB p c)) (fun w' hw => Fits_ok ((hg.mod hm07).mod hw) (h7.mod hw) hf c) (fun w' u w'' hw hu => ⟨hu.1, hw.trans hu.2⟩) ?_
  rw [QG_b, if_pos rfl]
  refine QV_of ldp ?_
  rw [QG_b, if_pos rfl]
  refine QV_of ldc ?_
  rw [QG_b, if_pos rfl]
  refine QC_rt (R := fun w' v w'' => v = .bool (fitsB p c) ∧ Mod none_ w' w'') Tryz.func14 rfl rfl (v := .bool (fitsB p c)) (fun w' hw => FitsR_ok (h7.mod hw) hf c) (fun w' u w'' hw hu => ⟨hu.1, hw.trans hu.2⟩) ?_
  rw [QG_b, if_pos rfl]
  refine QB_of (v := .bool (fitsB p c == fitsB p c)) (fun w => rfl) (fun w => run_eql_bool w _ _ _ uBl) ?_
  rw [beq_self_eq_true]
  refine QP_of ?_
  intro w8 hm8
  rw [sq_n, dispatcherlaw30_LimitsEnough_R1_eq]
  unfold dispatcherlaw30_LimitsEnough_R1_F
  exact ⟨rfl, hm07.trans hm8⟩
end Go.Proofs.YtpkfbaagpjdifaaGreatDoor.Tr
