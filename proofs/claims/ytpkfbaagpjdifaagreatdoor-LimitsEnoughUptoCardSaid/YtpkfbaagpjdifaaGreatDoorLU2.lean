/- Several texts of this repo, one behind the other, without what is not used here. -/
import Derived.Test.YtpkfbaagpjdifaaGreatDoorProg
import Derived.Test.YtpkfbaagpjdifaaGreatDoorRows
import Derived.Laws.RangeAny
import Derived.Test.YtpkfbaagpjdifaaGreatDoorLU1
set_option linter.unusedVariables false
set_option maxRecDepth 100000
namespace Go.Proofs.YtpkfbaagpjdifaaGreatDoor.XF
open Go Go.X
/-- dispatcher/dispatcherlaw02.Great -/
noncomputable def dispatcherlaw02_Great_b : Code := (Tryz.f6.body).getD .skip
noncomputable def dispatcherlaw02_Great_L0 : Code := cAt [1, 1, 0, 1, 0, 0] dispatcherlaw02_Great_b
noncomputable def dispatcherlaw02_Great_R1 : Code := cAt [1, 1, 1] dispatcherlaw02_Great_b
noncomputable def dispatcherlaw02_Great_L0_F (z : At) (K : Exit → Sl → World → Prop) (ρ : Sl) (w : World) : Prop :=
  VK Tryz.prog (Instr.fieldAt 25 (ρ 1) 0) w fun x15 w => VK Tryz.prog (Instr.loadAt 22 x15) w fun x16 w => IK Tryz.prog Builtin.len #[22] 3 [false] [x16] w fun x17 w => BK Tryz.prog BinOp.lss 3 (Operand.tmp 14) (Operand.tmp 17) (ρ 3) x17 w fun x18 w => CondK x18 (VK Tryz.prog (Instr.fieldAt 25 (ρ 1) 0) w fun x21 w => VK Tryz.prog (Instr.loadAt 22 x21) w fun x22 w => VK Tryz.prog (Instr.indexAt 22 x22 (ρ 3)) w fun x24 w => VK Tryz.prog (Instr.fieldAt 48 x24 0) w fun x25 w => VK Tryz.prog (Instr.loadAt 9 x25) w fun x26 w => IK Tryz.prog Builtin.len #[9] 3 [false] [x26] w fun x27 w => BK Tryz.prog BinOp.gtr 3 (Operand.tmp 27) (Operand.const (Value.int IntKind.i64 30)) x27 (Value.int IntKind.i64 30) w fun x28 w => CondK x28 (K Exit.ret (up (up (up (up (up (up (up (up (up (up (up (up (up (up ρ 14 (ρ 3)) 15 x15) 16 x16) 17 x17) 18 x18) 21 x21) 22 x22) 23 (ρ 3)) 24 x24) 25 x25) 26 x26) 27 x27) 28 x28) 2 (Value.bool true)) w) (BK Tryz.prog BinOp.add 3 (Operand.tmp 19) (Operand.const (Value.int IntKind.i64 1)) (ρ 3) (Value.int IntKind.i64 1) w fun x20 w => K Exit.normal (up (up (up (up (up (up (up (up (up (up (up (up (up (up (up (up ρ 14 (ρ 3)) 15 x15) 16 x16) 17 x17) 18 x18) 21 x21) 22 x22) 23 (ρ 3)) 24 x24) 25 x25) 26 x26) 27 x27) 28 x28) 19 (ρ 3)) 20 x20) 3 x20) w)) (K (Exit.exit 0) (up (up (up (up (up ρ 14 (ρ 3)) 15 x15) 16 x16) 17 x17) 18 x18) w)
theorem dispatcherlaw02_Great_L0_eq (z : At) (K : Exit → Sl → World → Prop) (ρ : Sl) (w : World) : sx z Tryz.prog 29 dispatcherlaw02_Great_L0 K ρ w = dispatcherlaw02_Great_L0_F z K ρ w := by kernel_rfl
theorem dispatcherlaw02_Great_L0_ok : dstOk 29 dispatcherlaw02_Great_L0 = true := by kernel_rfl
noncomputable def dispatcherlaw02_Great_R1_F (z : At) (K : Exit → Sl → World → Prop) (ρ : Sl) (w : World) : Prop :=
  K Exit.ret (up ρ 2 (Value.bool false)) w
theorem dispatcherlaw02_Great_R1_eq (z : At) (K : Exit → Sl → World → Prop) (ρ : Sl) (w : World) : sx z Tryz.prog 29 dispatcherlaw02_Great_R1 K ρ w = dispatcherlaw02_Great_R1_F z K ρ w := by kernel_rfl
noncomputable def dispatcherlaw02_Great_F (a0 : Value) (w : World) (R : Value → World → Prop) : Prop :=
  VK Tryz.prog (Instr.box 25 a0) w fun x1 w => VK Tryz.prog (Instr.fieldAt 25 x1 0) w fun x4 w => VK Tryz.prog (Instr.loadAt 22 x4) w fun x5 w => IK Tryz.prog Builtin.len #[22] 3 [false] [x5] w fun x6 w => BK Tryz.prog BinOp.gtr 3 (Operand.tmp 6) (Operand.const (Value.int IntKind.i64 100)) x6 (Value.int IntKind.i64 100) w fun x7 w => VG Tryz.prog x7 false (Instr.fieldAt 25 x1 1) w fun x9 w => VG Tryz.prog x7 false (Instr.loadAt 23 x9) w fun x10 w => CG Tryz.prog x7 false (Value.func (Fn.func 17) #[] #[]) [x10] w fun x11 w => BG Tryz.prog x7 false BinOp.gtr 3 (Operand.tmp 11) (Operand.const (Value.int IntKind.i64 20000)) x11 (Value.int IntKind.i64 20000) w fun x12 w => PK Tryz.prog x7 (Value.bool true) x12 w fun x13 w => CondK x13 (R (Value.bool true) w) (W fn_ Tryz.prog 29 (Code.loop dispatcherlaw02_Great_L0) (blkK 0 (seqK (sx fn_ Tryz.prog 29 dispatcherlaw02_Great_R1 (retK Tryz.prog [ResultVar.tmp 2] R)) (retK Tryz.prog [ResultVar.tmp 2] R))) (up (up (up (up (up (up (up (up (up (up (up (up (up (rho0 [a0]) 1 x1) 2 (Value.bool false)) 4 x4) 5 x5) 6 x6) 7 x7) 8 x7) 9 x9) 10 x10) 11 x11) 12 x12) 13 x13) 3 (Value.int IntKind.i64 0)) w)
theorem dispatcherlaw02_Great_eq (a0 : Value) (w : World) (R : Value → World → Prop) : sx fn_ Tryz.prog 29 dispatcherlaw02_Great_b (retK Tryz.prog Tryz.f6.results.toList R) (rho0 [a0]) w = dispatcherlaw02_Great_F a0 w R := by kernel_rfl
theorem dispatcherlaw02_Great_calls {a0 : Value} {w : World} {R : Value → World → Prop} (h : dispatcherlaw02_Great_F a0 w R) : Calls Tryz.prog 6 #[a0] w fun e w' => ∃ v, e = .returned v ∧ R v w' :=
  Go.X.calls_of_sx (n := 29) (c := dispatcherlaw02_Great_b) Tryz.func6 (by kernel_rfl) (by kernel_rfl) (Nat.le_of_ble_eq_true rfl) (by kernel_rfl) (Eq.mpr (dispatcherlaw02_Great_eq a0 w R) h)
/-- dispatcher/dispatcherref01.Name -/
noncomputable def dispatcherref01_Name_b : Code := (Tryz.f80.body).getD .skip
noncomputable def dispatcherref01_Name_L0 : Code := cAt [1, 1, 0, 1, 0, 0] dispatcherref01_Name_b
noncomputable def dispatcherref01_Name_R1 : Code := cAt [1, 1, 1] dispatcherref01_Name_b
noncomputable def dispatcherref01_Name_L0_F (z : At) (K : Exit → Sl → World → Prop) (ρ : Sl) (w : World) : Prop :=
  IK Tryz.prog Builtin.len #[9] 3 [false] [(ρ 0)] w fun x24 w => BK Tryz.prog BinOp.lss 3 (Operand.tmp 22) (Operand.tmp 24) (ρ 3) x24 w fun x25 w => CondK x25 (VK Tryz.prog (Instr.index 9 (ρ 0) (ρ 3)) w fun x30 w => CK Tryz.prog (Value.func (Fn.func 85) #[] #[]) [x30] w fun x31 w => VK Tryz.prog (Op.unary UnOp.not x31) w fun x32 w => MG Tryz.prog x32 true (ρ 0) w fun x34 w => MG Tryz.prog x32 true (ρ 3) w fun x35 w => VG Tryz.prog x32 true (Instr.index 9 x34 x35) w fun x36 w => CG Tryz.prog x32 true (Value.func (Fn.func 86) #[] #[]) [x36] w fun x37 w => VG Tryz.prog x32 true (Op.unary UnOp.not x37) w fun x38 w => PK Tryz.prog x32 x38 (Value.bool false) w fun x39 w => CondK x39 (K Exit.ret (up (up (up (up (up (up (up (up (up (up (up (up (up (up (up (up (up ρ 22 (ρ 3)) 23 (ρ 0)) 24 x24) 25 x25) 28 (ρ 0)) 29 (ρ 3)) 30 x30) 31 x31) 32 x32) 33 x32) 34 x34) 35 x35) 36 x36) 37 x37) 38 x38) 39 x39) 2 (Value.bool false)) w) (BK Tryz.prog BinOp.add 3 (Operand.tmp 26) (Operand.const (Value.int IntKind.i64 1)) (ρ 3) (Value.int IntKind.i64 1) w fun x27 w => K Exit.normal (up (up (up (up (up (up (up (up (up (up (up (up (up (up (up (up (up (up (up ρ 22 (ρ 3)) 23 (ρ 0)) 24 x24) 25 x25) 28 (ρ 0)) 29 (ρ 3)) 30 x30) 31 x31) 32 x32) 33 x32) 34 x34) 35 x35) 36 x36) 37 x37) 38 x38) 39 x39) 26 (ρ 3)) 27 x27) 3 x27) w)) (K (Exit.exit 0) (up (up (up (up ρ 22 (ρ 3)) 23 (ρ 0)) 24 x24) 25 x25) w)
theorem dispatcherref01_Name_L0_eq (z : At) (K : Exit → Sl → World → Prop) (ρ : Sl) (w : World) : sx z Tryz.prog 40 dispatcherref01_Name_L0 K ρ w = dispatcherref01_Name_L0_F z K ρ w := by kernel_rfl
theorem dispatcherref01_Name_L0_ok : dstOk 40 dispatcherref01_Name_L0 = true := by kernel_rfl
noncomputable def dispatcherref01_Name_R1_F (z : At) (K : Exit → Sl → World → Prop) (ρ : Sl) (w : World) : Prop :=
  K Exit.ret (up ρ 2 (Value.bool true)) w
theorem dispatcherref01_Name_R1_eq (z : At) (K : Exit → Sl → World → Prop) (ρ : Sl) (w : World) : sx z Tryz.prog 40 dispatcherref01_Name_R1 K ρ w = dispatcherref01_Name_R1_F z K ρ w := by kernel_rfl
noncomputable def dispatcherref01_Name_F (a0 : Value) (w : World) (R : Value → World → Prop) : Prop :=
  IK Tryz.prog Builtin.len #[9] 3 [false] [a0] w fun x5 w => BK Tryz.prog BinOp.lss 3 (Operand.tmp 5) (Operand.const (Value.int IntKind.i64 1)) x5 (Value.int IntKind.i64 1) w fun x6 w => MG Tryz.prog x6 false a0 w fun x8 w => IG Tryz.prog x6 false Builtin.len #[9] 3 [false] [x8] w fun x9 w => BG Tryz.prog x6 false BinOp.gtr 3 (Operand.tmp 9) (Operand.const (Value.int IntKind.i64 12)) x9 (Value.int IntKind.i64 12) w fun x10 w => PK Tryz.prog x6 (Value.bool true) x10 w fun x11 w => MG Tryz.prog x11 false a0 w fun x13 w => VG Tryz.prog x11 false (Instr.index 9 x13 (Value.int IntKind.i64 0)) w fun x14 w => CG Tryz.prog x11 false (Value.func (Fn.func 85) #[] #[]) [x14] w fun x15 w => VG Tryz.prog x11 false (Op.unary UnOp.not x15) w fun x16 w => PK Tryz.prog x11 (Value.bool true) x16 w fun x17 w => MG Tryz.prog x17 false a0 w fun x19 w => CG Tryz.prog x17 false (Value.func (Fn.func 89) #[] #[]) [x19] w fun x20 w => PK Tryz.prog x17 (Value.bool true) x20 w fun x21 w => CondK x21 (R (Value.bool false) w) (W fn_ Tryz.prog 40 (Code.loop dispatcherref01_Name_L0) (blkK 0 (seqK (sx fn_ Tryz.prog 40 dispatcherref01_Name_R1 (retK Tryz.prog [ResultVar.tmp 2] R)) (retK Tryz.prog [ResultVar.tmp 2] R))) (up (up (up (up (up (up (up (up (up (up (up (up (up (up (up (up (up (up (up (up (rho0 [a0]) 2 (Value.bool false)) 4 a0) 5 x5) 6 x6) 7 x6) 8 x8) 9 x9) 10 x10) 11 x11) 12 x11) 13 x13) 14 x14) 15 x15) 16 x16) 17 x17) 18 x17) 19 x19) 20 x20) 21 x21) 3 (Value.int IntKind.i64 0)) w)
theorem dispatcherref01_Name_eq (a0 : Value) (w : World) (R : Value → World → Prop) : sx fn_ Tryz.prog 40 dispatcherref01_Name_b (retK Tryz.prog Tryz.f80.results.toList R) (rho0 [a0]) w = dispatcherref01_Name_F a0 w R := by kernel_rfl
theorem dispatcherref01_Name_calls {a0 : Value} {w : World} {R : Value → World → Prop} (h : dispatcherref01_Name_F a0 w R) : Calls Tryz.prog 80 #[a0] w fun e w' => ∃ v, e = .returned v ∧ R v w' :=
  Go.X.calls_of_sx (n := 40) (c := dispatcherref01_Name_b) Tryz.func80 (by kernel_rfl) (by kernel_rfl) (Nat.le_of_ble_eq_true rfl) (by kernel_rfl) (Eq.mpr (dispatcherref01_Name_eq a0 w R) h)
/-- dispatcher/tree.May -/
noncomputable def tree_May_b : Code := (Tryz.f41.body).getD .skip
noncomputable def tree_May_F (a0 : Value) (w : World) (R : Value → World → Prop) : Prop :=
  VK Tryz.prog (Instr.box 25 a0) w fun x1 w => VK Tryz.prog (Instr.loadAt 25 x1) w fun x4 w => CK Tryz.prog (Value.func (Fn.func 69) #[] #[]) [x4] w fun x5 w => BK Tryz.prog BinOp.leq 3 (Operand.tmp 5) (Operand.const (Value.int IntKind.i64 32)) x5 (Value.int IntKind.i64 32) w fun x6 w => VG Tryz.prog x6 true (Instr.fieldAt 25 x1 0) w fun x8 w => VG Tryz.prog x6 true (Instr.loadAt 22 x8) w fun x9 w => MG Tryz.prog x6 true (Value.func (Fn.func 67) #[] #[]) w fun x10 w => CG Tryz.prog x6 true (Value.func (Fn.func 70) #[] #[]) [x9, x10] w fun x11 w => VG Tryz.prog x6 true (Op.unary UnOp.not x11) w fun x12 w => PK Tryz.prog x6 x12 (Value.bool false) w fun x13 w => VG Tryz.prog x13 true (Instr.fieldAt 25 x1 1) w fun x15 w => VG Tryz.prog x13 true (Instr.loadAt 23 x15) w fun x16 w => CG Tryz.prog x13 true (Value.func (Fn.func 71) #[] #[]) [x16] w fun x17 w => PK Tryz.prog x13 x17 (Value.bool false) w fun x18 w => R x18 w
theorem tree_May_eq (a0 : Value) (w : World) (R : Value → World → Prop) : sx fn_ Tryz.prog 19 tree_May_b (retK Tryz.prog Tryz.f41.results.toList R) (rho0 [a0]) w = tree_May_F a0 w R := by kernel_rfl
theorem tree_May_calls {a0 : Value} {w : World} {R : Value → World → Prop} (h : tree_May_F a0 w R) : Calls Tryz.prog 41 #[a0] w fun e w' => ∃ v, e = .returned v ∧ R v w' :=
  Go.X.calls_of_sx (n := 19) (c := tree_May_b) Tryz.func41 (by kernel_rfl) (by kernel_rfl) (Nat.le_of_ble_eq_true rfl) (by kernel_rfl) (Eq.mpr (tree_May_eq a0 w R) h)
/-- dispatcher/dispatcherref02.Many -/
noncomputable def dispatcherref02_Many_b : Code := (Tryz.f17.body).getD .skip
noncomputable def dispatcherref02_Many_L0 : Code := cAt [1, 1, 0, 1, 0, 0] dispatcherref02_Many_b
noncomputable def dispatcherref02_Many_R1 : Code := cAt [1, 1, 1] dispatcherref02_Many_b
noncomputable def dispatcherref02_Many_R2 : Code := cAt [1, 1, 0, 1, 0, 0, 1, 0, 0] dispatcherref02_Many_b
noncomputable def dispatcherref02_Many_R3 : Code := cAt [1, 1, 0, 1, 0, 0, 1, 1] dispatcherref02_Many_b
noncomputable def dispatcherref02_Many_L0_F (z : At) (K : Exit → Sl → World → Prop) (ρ : Sl) (w : World) : Prop :=
  IK Tryz.prog Builtin.len #[23] 3 [false] [(ρ 0)] w fun x7 w => BK Tryz.prog BinOp.lss 3 (Operand.tmp 5) (Operand.tmp 7) (ρ 4) x7 w fun x8 w => CondK x8 (W z Tryz.prog 43 dispatcherref02_Many_R2 (blkK 1 (seqK (sx z Tryz.prog 43 dispatcherref02_Many_R3 K) K)) (up (up (up (up ρ 5 (ρ 4)) 6 (ρ 0)) 7 x7) 8 x8) w) (K (Exit.exit 0) (up (up (up (up ρ 5 (ρ 4)) 6 (ρ 0)) 7 x7) 8 x8) w)
theorem dispatcherref02_Many_L0_eq (z : At) (K : Exit → Sl → World → Prop) (ρ : Sl) (w : World) : sx z Tryz.prog 43 dispatcherref02_Many_L0 K ρ w = dispatcherref02_Many_L0_F z K ρ w := by kernel_rfl
theorem dispatcherref02_Many_L0_ok : dstOk 43 dispatcherref02_Many_L0 = true := by kernel_rfl
noncomputable def dispatcherref02_Many_R1_F (z : At) (K : Exit → Sl → World → Prop) (ρ : Sl) (w : World) : Prop :=
  K Exit.ret (up (up ρ 42 (ρ 3)) 2 (ρ 3)) w
theorem dispatcherref02_Many_R1_eq (z : At) (K : Exit → Sl → World → Prop) (ρ : Sl) (w : World) : sx z Tryz.prog 43 dispatcherref02_Many_R1 K ρ w = dispatcherref02_Many_R1_F z K ρ w := by kernel_rfl
noncomputable def dispatcherref02_Many_R2_ops : Array Oper := opsOf dispatcherref02_Many_R2
def dispatcherref02_Many_R2_Q (C : World → Prop) (K : Exit → Sl → World → Prop) (ρ : Sl) : Prop :=
  QK Tryz.prog C (do pure (Next.value (← (do eqGuard BinOp.add 3 (Operand.tmp 11) (Operand.const (Value.int IntKind.i64 1)) (ρ 3) (Value.int IntKind.i64 1); binOp BinOp.add 3 (ρ 3) (Value.int IntKind.i64 1))))) fun x12 => QK Tryz.prog C (do pure (Next.value (← Instr.indexAt 23 (ρ 0) (ρ 4)))) fun x15 => QK Tryz.prog C (do pure (Next.value (← Instr.fieldAt 62 x15 3))) fun x16 => QK Tryz.prog C (do pure (Next.value (← Instr.loadAt 9 x16))) fun x17 => QK Tryz.prog C (builtin Builtin.len #[9] 3 [false].toArray [x17].toArray) fun x18 => QK Tryz.prog C (builtin Builtin.min #[3, 3] 3 [false, true].toArray [x18, (Value.int IntKind.i64 30000)].toArray) fun x19 => QK Tryz.prog C (do pure (Next.value (← (do eqGuard BinOp.add 3 (Operand.tmp 12) (Operand.tmp 19) x12 x19; binOp BinOp.add 3 x12 x19)))) fun x20 => QK Tryz.prog C (do pure (Next.value (← Instr.indexAt 23 (ρ 0) (ρ 4)))) fun x23 => QK Tryz.prog C (do pure (Next.value (← Instr.fieldAt 62 x23 5))) fun x24 => QK Tryz.prog C (do pure (Next.value (← Instr.loadAt 60 x24))) fun x25 => QK Tryz.prog C (do let d ← Deferred.ofValue (Value.func (Fn.func 30) #[] #[]) [x25].toArray; invoke d.target d.args) fun x26 => QK Tryz.prog C (do pure (Next.value (← (do eqGuard BinOp.add 3 (Operand.tmp 20) (Operand.tmp 26) x20 x26; binOp BinOp.add 3 x20 x26)))) fun x27 => QK Tryz.prog C (do pure (Next.value (← Instr.indexAt 23 (ρ 0) (ρ 4)))) fun x30 => QK Tryz.prog C (do pure (Next.value (← Instr.fieldAt 62 x30 6))) fun x31 => QK Tryz.prog C (do pure (Next.value (← Instr.loadAt 23 x31))) fun x32 => QK Tryz.prog C (do let d ← Deferred.ofValue (Value.func (Fn.func 17) #[] #[]) [x32].toArray; invoke d.target d.args) fun x33 => QK Tryz.prog C (do pure (Next.value (← (do eqGuard BinOp.add 3 (Operand.tmp 27) (Operand.tmp 33) x27 x33; binOp BinOp.add 3 x27 x33)))) fun x34 => QK Tryz.prog C (do pure (Next.value (← Instr.indexAt 23 (ρ 0) (ρ 4)))) fun x37 => QK Tryz.prog C (do pure (Next.value (← Instr.fieldAt 62 x37 7))) fun x38 => QK Tryz.prog C (do pure (Next.value (← Instr.loadAt 23 x38))) fun x39 => QK Tryz.prog C (do let d ← Deferred.ofValue (Value.func (Fn.func 17) #[] #[]) [x39].toArray; invoke d.target d.args) fun x40 => QK Tryz.prog C (do pure (Next.value (← (do eqGuard BinOp.add 3 (Operand.tmp 34) (Operand.tmp 40) x34 x40; binOp BinOp.add 3 x34 x40)))) fun x41 => ∀ w', C w' → K Exit.normal (up (up (up (up (up (up (up (up (up (up (up (up (up (up (up (up (up (up (up (up (up (up (up (up (up (up (up (up (up (up (up (up ρ 11 (ρ 3)) 12 x12) 13 (ρ 0)) 14 (ρ 4)) 15 x15) 16 x16) 17 x17) 18 x18) 19 x19) 20 x20) 21 (ρ 0)) 22 (ρ 4)) 23 x23) 24 x24) 25 x25) 26 x26) 27 x27) 28 (ρ 0)) 29 (ρ 4)) 30 x30) 31 x31) 32 x32) 33 x33) 34 x34) 35 (ρ 0)) 36 (ρ 4)) 37 x37) 38 x38) 39 x39) 40 x40) 41 x41) 3 x41) w'
theorem dispatcherref02_Many_R2_quiet {D : List Deferred} (C : World → Prop) {K : Exit → Sl → World → Prop} {ρ : Sl} {w : World} (hC : C { w with drawn := w.drawn + 1 }) (h : dispatcherref02_Many_R2_Q C K ρ) : W ⟨none, D⟩ Tryz.prog 43 dispatcherref02_Many_R2 K ρ w := by
  have e : dispatcherref02_Many_R2 = .region (idOf dispatcherref02_Many_R2) dispatcherref02_Many_R2_ops true := by kernel_rfl
  have q : sxq Tryz.prog C dispatcherref02_Many_R2_ops (fun ρ' => ∀ w', C w' → K .normal ρ' w') dispatcherref02_Many_R2_ops.toList ρ = dispatcherref02_Many_R2_Q C K ρ := by kernel_rfl
  rw [e]
  exact W_quiet C (by kernel_rfl) (by kernel_rfl) (by kernel_rfl) hC (Eq.mpr q h)
noncomputable def dispatcherref02_Many_R3_F (z : At) (K : Exit → Sl → World → Prop) (ρ : Sl) (w : World) : Prop :=
  BK Tryz.prog BinOp.add 3 (Operand.tmp 9) (Operand.const (Value.int IntKind.i64 1)) (ρ 4) (Value.int IntKind.i64 1) w fun x10 w => K Exit.normal (up (up (up ρ 9 (ρ 4)) 10 x10) 4 x10) w
theorem dispatcherref02_Many_R3_eq (z : At) (K : Exit → Sl → World → Prop) (ρ : Sl) (w : World) : sx z Tryz.prog 43 dispatcherref02_Many_R3 K ρ w = dispatcherref02_Many_R3_F z K ρ w := by kernel_rfl
noncomputable def dispatcherref02_Many_F (a0 : Value) (w : World) (R : Value → World → Prop) : Prop :=
  W fn_ Tryz.prog 43 (Code.loop dispatcherref02_Many_L0) (blkK 0 (seqK (sx fn_ Tryz.prog 43 dispatcherref02_Many_R1 (retK Tryz.prog [ResultVar.tmp 2] R)) (retK Tryz.prog [ResultVar.tmp 2] R))) (up (up (up (rho0 [a0]) 2 (Value.int IntKind.i64 0)) 3 (Value.int IntKind.i64 0)) 4 (Value.int IntKind.i64 0)) w
theorem dispatcherref02_Many_eq (a0 : Value) (w : World) (R : Value → World → Prop) : sx fn_ Tryz.prog 43 dispatcherref02_Many_b (retK Tryz.prog Tryz.f17.results.toList R) (rho0 [a0]) w = dispatcherref02_Many_F a0 w R := by kernel_rfl
theorem dispatcherref02_Many_calls {a0 : Value} {w : World} {R : Value → World → Prop} (h : dispatcherref02_Many_F a0 w R) : Calls Tryz.prog 17 #[a0] w fun e w' => ∃ v, e = .returned v ∧ R v w' :=
  Go.X.calls_of_sx (n := 43) (c := dispatcherref02_Many_b) Tryz.func17 (by kernel_rfl) (by kernel_rfl) (Nat.le_of_ble_eq_true rfl) (by kernel_rfl) (Eq.mpr (dispatcherref02_Many_eq a0 w R) h)
/-- dispatcher/dispatcherref02.May -/
noncomputable def dispatcherref02_May_b : Code := (Tryz.f47.body).getD .skip
noncomputable def dispatcherref02_May_L0 : Code := cAt [1, 0, 1, 0, 0] dispatcherref02_May_b
noncomputable def dispatcherref02_May_R1 : Code := cAt [1, 1] dispatcherref02_May_b
noncomputable def dispatcherref02_May_L0_F (z : At) (K : Exit → Sl → World → Prop) (ρ : Sl) (w : World) : Prop :=
  VK Tryz.prog (Instr.fieldAt 25 (ρ 1) 0) w fun x6 w => VK Tryz.prog (Instr.loadAt 22 x6) w fun x7 w => IK Tryz.prog Builtin.len #[22] 3 [false] [x7] w fun x8 w => BK Tryz.prog BinOp.lss 3 (Operand.tmp 5) (Operand.tmp 8) (ρ 3) x8 w fun x9 w => CondK x9 (VK Tryz.prog (Instr.fieldAt 25 (ρ 1) 0) w fun x12 w => VK Tryz.prog (Instr.loadAt 22 x12) w fun x13 w => VK Tryz.prog (Instr.indexAt 22 x13 (ρ 3)) w fun x15 w => VK Tryz.prog (Instr.loadAt 48 x15) w fun x16 w => VK Tryz.prog (Instr.alloc 48 true (.tuple #[])) w fun x4 w => UK Tryz.prog (Instr.storeAt 48 x4 x16) w fun _ w => VK Tryz.prog (Instr.fieldAt 48 x4 0) w fun x17 w => VK Tryz.prog (Instr.loadAt 9 x17) w fun x18 w => CK Tryz.prog (Value.func (Fn.func 80) #[] #[]) [x18] w fun x19 w => VK Tryz.prog (Op.unary UnOp.not x19) w fun x20 w => VG Tryz.prog x20 false (Instr.fieldAt 48 x4 1) w fun x22 w => VG Tryz.prog x20 false (Instr.loadAt 3 x22) w fun x23 w => BG Tryz.prog x20 false BinOp.lss 3 (Operand.tmp 23) (Operand.const (Value.int IntKind.i64 0)) x23 (Value.int IntKind.i64 0) w fun x24 w => PK Tryz.prog x20 (Value.bool true) x24 w fun x25 w => VG Tryz.prog x25 false (Instr.fieldAt 48 x4 1) w fun x27 w => VG Tryz.prog x25 false (Instr.loadAt 3 x27) w fun x28 w => BG Tryz.prog x25 false BinOp.gtr 3 (Operand.tmp 28) (Operand.const (Value.int IntKind.i64 1000)) x28 (Value.int IntKind.i64 1000) w fun x29 w => PK Tryz.prog x25 (Value.bool true) x29 w fun x30 w => CondK x30 (K Exit.ret (up (up (up (up (up (up (up (up (up (up (up (up (up (up (up (up (up (up (up (up (up (up (up (up (up (up ρ 5 (ρ 3)) 6 x6) 7 x7) 8 x8) 9 x9) 12 x12) 13 x13) 14 (ρ 3)) 15 x15) 16 x16) 4 x4) 17 x17) 18 x18) 19 x19) 20 x20) 21 x20) 22 x22) 23 x23) 24 x24) 25 x25) 26 x25) 27 x27) 28 x28) 29 x29) 30 x30) 2 (Value.bool false)) w) (BK Tryz.prog BinOp.add 3 (Operand.tmp 10) (Operand.const (Value.int IntKind.i64 1)) (ρ 3) (Value.int IntKind.i64 1) w fun x11 w => K Exit.normal (up (up (up (up (up (up (up (up (up (up (up (up (up (up (up (up (up (up (up (up (up (up (up (up (up (up (up (up ρ 5 (ρ 3)) 6 x6) 7 x7) 8 x8) 9 x9) 12 x12) 13 x13) 14 (ρ 3)) 15 x15) 16 x16) 4 x4) 17 x17) 18 x18) 19 x19) 20 x20) 21 x20) 22 x22) 23 x23) 24 x24) 25 x25) 26 x25) 27 x27) 28 x28) 29 x29) 30 x30) 10 (ρ 3)) 11 x11) 3 x11) w)) (K (Exit.exit 0) (up (up (up (up (up ρ 5 (ρ 3)) 6 x6) 7 x7) 8 x8) 9 x9) w)
theorem dispatcherref02_May_L0_eq (z : At) (K : Exit → Sl → World → Prop) (ρ : Sl) (w : World) : sx z Tryz.prog 39 dispatcherref02_May_L0 K ρ w = dispatcherref02_May_L0_F z K ρ w := by kernel_rfl
theorem dispatcherref02_May_L0_ok : dstOk 39 dispatcherref02_May_L0 = true := by kernel_rfl
noncomputable def dispatcherref02_May_R1_F (z : At) (K : Exit → Sl → World → Prop) (ρ : Sl) (w : World) : Prop :=
  VK Tryz.prog (Instr.loadAt 25 (ρ 1)) w fun x31 w => CK Tryz.prog (Value.func (Fn.func 66) #[] #[]) [x31] w fun x32 w => BK Tryz.prog BinOp.leq 3 (Operand.tmp 32) (Operand.const (Value.int IntKind.i64 32)) x32 (Value.int IntKind.i64 32) w fun x33 w => VG Tryz.prog x33 true (Instr.fieldAt 25 (ρ 1) 1) w fun x35 w => VG Tryz.prog x33 true (Instr.loadAt 23 x35) w fun x36 w => CG Tryz.prog x33 true (Value.func (Fn.func 81) #[] #[]) [x36] w fun x37 w => PK Tryz.prog x33 x37 (Value.bool false) w fun x38 w => K Exit.ret (up (up (up (up (up (up (up (up (up ρ 31 x31) 32 x32) 33 x33) 34 x33) 35 x35) 36 x36) 37 x37) 38 x38) 2 x38) w
theorem dispatcherref02_May_R1_eq (z : At) (K : Exit → Sl → World → Prop) (ρ : Sl) (w : World) : sx z Tryz.prog 39 dispatcherref02_May_R1 K ρ w = dispatcherref02_May_R1_F z K ρ w := by kernel_rfl
noncomputable def dispatcherref02_May_F (a0 : Value) (w : World) (R : Value → World → Prop) : Prop :=
  VK Tryz.prog (Instr.box 25 a0) w fun x1 w => W fn_ Tryz.prog 39 (Code.loop dispatcherref02_May_L0) (blkK 0 (seqK (sx fn_ Tryz.prog 39 dispatcherref02_May_R1 (retK Tryz.prog [ResultVar.tmp 2] R)) (retK Tryz.prog [ResultVar.tmp 2] R))) (up (up (up (rho0 [a0]) 1 x1) 2 (Value.bool false)) 3 (Value.int IntKind.i64 0)) w
theorem dispatcherref02_May_eq (a0 : Value) (w : World) (R : Value → World → Prop) : sx fn_ Tryz.prog 39 dispatcherref02_May_b (retK Tryz.prog Tryz.f47.results.toList R) (rho0 [a0]) w = dispatcherref02_May_F a0 w R := by kernel_rfl
theorem dispatcherref02_May_calls {a0 : Value} {w : World} {R : Value → World → Prop} (h : dispatcherref02_May_F a0 w R) : Calls Tryz.prog 47 #[a0] w fun e w' => ∃ v, e = .returned v ∧ R v w' :=
  Go.X.calls_of_sx (n := 39) (c := dispatcherref02_May_b) Tryz.func47 (by kernel_rfl) (by kernel_rfl) (Nat.le_of_ble_eq_true rfl) (by kernel_rfl) (Eq.mpr (dispatcherref02_May_eq a0 w R) h)
/-- dispatcher/dispatcherref01.letter -/
noncomputable def dispatcherref01_letter_b : Code := (Tryz.f85.body).getD .skip
noncomputable def dispatcherref01_letter_F (a0 : Value) (w : World) (R : Value → World → Prop) : Prop :=
  BK Tryz.prog BinOp.geq 5 (Operand.tmp 3) (Operand.const (Value.int IntKind.u8 97)) a0 (Value.int IntKind.u8 97) w fun x4 w => MG Tryz.prog x4 true a0 w fun x6 w => BG Tryz.prog x4 true BinOp.leq 5 (Operand.tmp 6) (Operand.const (Value.int IntKind.u8 122)) x6 (Value.int IntKind.u8 122) w fun x7 w => PK Tryz.prog x4 x7 (Value.bool false) w fun x8 w => R x8 w
theorem dispatcherref01_letter_eq (a0 : Value) (w : World) (R : Value → World → Prop) : sx fn_ Tryz.prog 9 dispatcherref01_letter_b (retK Tryz.prog Tryz.f85.results.toList R) (rho0 [a0]) w = dispatcherref01_letter_F a0 w R := by kernel_rfl
theorem dispatcherref01_letter_calls {a0 : Value} {w : World} {R : Value → World → Prop} (h : dispatcherref01_letter_F a0 w R) : Calls Tryz.prog 85 #[a0] w fun e w' => ∃ v, e = .returned v ∧ R v w' :=
  Go.X.calls_of_sx (n := 9) (c := dispatcherref01_letter_b) Tryz.func85 (by kernel_rfl) (by kernel_rfl) (Nat.le_of_ble_eq_true rfl) (by kernel_rfl) (Eq.mpr (dispatcherref01_letter_eq a0 w R) h)
/-- dispatcher/dispatcherref01.Word -/
noncomputable def dispatcherref01_Word_b : Code := (Tryz.f89.body).getD .skip
noncomputable def dispatcherref01_Word_L0 : Code := cAt [1, 1, 0, 1, 0, 0] dispatcherref01_Word_b
noncomputable def dispatcherref01_Word_R1 : Code := cAt [1, 1, 1] dispatcherref01_Word_b
noncomputable def dispatcherref01_Word_L0_F (z : At) (K : Exit → Sl → World → Prop) (ρ : Sl) (w : World) : Prop :=
  IK Tryz.prog Builtin.len #[111] 3 [false] [(ρ 3)] w fun x8 w => BK Tryz.prog BinOp.lss 3 (Operand.tmp 6) (Operand.tmp 8) (ρ 4) x8 w fun x9 w => CondK x9 (VK Tryz.prog (Instr.indexAt 111 (ρ 3) (ρ 4)) w fun x14 w => VK Tryz.prog (Instr.loadAt 9 x14) w fun x15 w => BK Tryz.prog BinOp.eql 9 (Operand.tmp 15) (Operand.tmp 16) x15 (ρ 0) w fun x17 w => CondK x17 (K Exit.ret (up (up (up (up (up (up (up (up (up (up (up ρ 6 (ρ 4)) 7 (ρ 3)) 8 x8) 9 x9) 12 (ρ 3)) 13 (ρ 4)) 14 x14) 15 x15) 16 (ρ 0)) 17 x17) 2 (Value.bool true)) w) (BK Tryz.prog BinOp.add 3 (Operand.tmp 10) (Operand.const (Value.int IntKind.i64 1)) (ρ 4) (Value.int IntKind.i64 1) w fun x11 w => K Exit.normal (up (up (up (up (up (up (up (up (up (up (up (up (up ρ 6 (ρ 4)) 7 (ρ 3)) 8 x8) 9 x9) 12 (ρ 3)) 13 (ρ 4)) 14 x14) 15 x15) 16 (ρ 0)) 17 x17) 10 (ρ 4)) 11 x11) 4 x11) w)) (K (Exit.exit 0) (up (up (up (up ρ 6 (ρ 4)) 7 (ρ 3)) 8 x8) 9 x9) w)
theorem dispatcherref01_Word_L0_eq (z : At) (K : Exit → Sl → World → Prop) (ρ : Sl) (w : World) : sx z Tryz.prog 18 dispatcherref01_Word_L0 K ρ w = dispatcherref01_Word_L0_F z K ρ w := by kernel_rfl
theorem dispatcherref01_Word_L0_ok : dstOk 18 dispatcherref01_Word_L0 = true := by kernel_rfl
noncomputable def dispatcherref01_Word_R1_F (z : At) (K : Exit → Sl → World → Prop) (ρ : Sl) (w : World) : Prop :=
  K Exit.ret (up ρ 2 (Value.bool false)) w
theorem dispatcherref01_Word_R1_eq (z : At) (K : Exit → Sl → World → Prop) (ρ : Sl) (w : World) : sx z Tryz.prog 18 dispatcherref01_Word_R1 K ρ w = dispatcherref01_Word_R1_F z K ρ w := by kernel_rfl
noncomputable def dispatcherref01_Word_F (a0 : Value) (w : World) (R : Value → World → Prop) : Prop :=
  CK Tryz.prog (Value.func (Fn.func 112) #[] #[]) [] w fun x5 w => W fn_ Tryz.prog 18 (Code.loop dispatcherref01_Word_L0) (blkK 0 (seqK (sx fn_ Tryz.prog 18 dispatcherref01_Word_R1 (retK Tryz.prog [ResultVar.tmp 2] R)) (retK Tryz.prog [ResultVar.tmp 2] R))) (up (up (up (up (rho0 [a0]) 2 (Value.bool false)) 5 x5) 3 x5) 4 (Value.int IntKind.i64 0)) w
theorem dispatcherref01_Word_eq (a0 : Value) (w : World) (R : Value → World → Prop) : sx fn_ Tryz.prog 18 dispatcherref01_Word_b (retK Tryz.prog Tryz.f89.results.toList R) (rho0 [a0]) w = dispatcherref01_Word_F a0 w R := by kernel_rfl
theorem dispatcherref01_Word_calls {a0 : Value} {w : World} {R : Value → World → Prop} (h : dispatcherref01_Word_F a0 w R) : Calls Tryz.prog 89 #[a0] w fun e w' => ∃ v, e = .returned v ∧ R v w' :=
  Go.X.calls_of_sx (n := 18) (c := dispatcherref01_Word_b) Tryz.func89 (by kernel_rfl) (by kernel_rfl) (Nat.le_of_ble_eq_true rfl) (by kernel_rfl) (Eq.mpr (dispatcherref01_Word_eq a0 w R) h)
/-- dispatcher/dispatcherref01.digit -/
noncomputable def dispatcherref01_digit_b : Code := (Tryz.f86.body).getD .skip
noncomputable def dispatcherref01_digit_F (a0 : Value) (w : World) (R : Value → World → Prop) : Prop :=
  BK Tryz.prog BinOp.geq 5 (Operand.tmp 3) (Operand.const (Value.int IntKind.u8 48)) a0 (Value.int IntKind.u8 48) w fun x4 w => MG Tryz.prog x4 true a0 w fun x6 w => BG Tryz.prog x4 true BinOp.leq 5 (Operand.tmp 6) (Operand.const (Value.int IntKind.u8 57)) x6 (Value.int IntKind.u8 57) w fun x7 w => PK Tryz.prog x4 x7 (Value.bool false) w fun x8 w => R x8 w
theorem dispatcherref01_digit_eq (a0 : Value) (w : World) (R : Value → World → Prop) : sx fn_ Tryz.prog 9 dispatcherref01_digit_b (retK Tryz.prog Tryz.f86.results.toList R) (rho0 [a0]) w = dispatcherref01_digit_F a0 w R := by kernel_rfl
theorem dispatcherref01_digit_calls {a0 : Value} {w : World} {R : Value → World → Prop} (h : dispatcherref01_digit_F a0 w R) : Calls Tryz.prog 86 #[a0] w fun e w' => ∃ v, e = .returned v ∧ R v w' :=
  Go.X.calls_of_sx (n := 9) (c := dispatcherref01_digit_b) Tryz.func86 (by kernel_rfl) (by kernel_rfl) (Nat.le_of_ble_eq_true rfl) (by kernel_rfl) (Eq.mpr (dispatcherref01_digit_eq a0 w R) h)
/-- dispatcher/tree.May$1 -/
noncomputable def tree_May_1_b : Code := (Tryz.f67.body).getD .skip
noncomputable def tree_May_1_F (a0 : Value) (w : World) (R : Value → World → Prop) : Prop :=
  VK Tryz.prog (Instr.box 48 a0) w fun x1 w => VK Tryz.prog (Instr.fieldAt 48 x1 0) w fun x3 w => VK Tryz.prog (Instr.loadAt 9 x3) w fun x4 w => CK Tryz.prog (Value.func (Fn.func 68) #[] #[]) [x4] w fun x5 w => VK Tryz.prog (Op.unary UnOp.not x5) w fun x6 w => VG Tryz.prog x6 false (Instr.fieldAt 48 x1 1) w fun x8 w => VG Tryz.prog x6 false (Instr.loadAt 3 x8) w fun x9 w => BG Tryz.prog x6 false BinOp.lss 3 (Operand.tmp 9) (Operand.const (Value.int IntKind.i64 0)) x9 (Value.int IntKind.i64 0) w fun x10 w => PK Tryz.prog x6 (Value.bool true) x10 w fun x11 w => VG Tryz.prog x11 false (Instr.fieldAt 48 x1 1) w fun x13 w => VG Tryz.prog x11 false (Instr.loadAt 3 x13) w fun x14 w => BG Tryz.prog x11 false BinOp.gtr 3 (Operand.tmp 14) (Operand.const (Value.int IntKind.i64 1000)) x14 (Value.int IntKind.i64 1000) w fun x15 w => PK Tryz.prog x11 (Value.bool true) x15 w fun x16 w => R x16 w
theorem tree_May_1_eq (a0 : Value) (w : World) (R : Value → World → Prop) : sx fn_ Tryz.prog 17 tree_May_1_b (retK Tryz.prog Tryz.f67.results.toList R) (rho0 [a0]) w = tree_May_1_F a0 w R := by kernel_rfl
theorem tree_May_1_calls {a0 : Value} {w : World} {R : Value → World → Prop} (h : tree_May_1_F a0 w R) : Calls Tryz.prog 67 #[a0] w fun e w' => ∃ v, e = .returned v ∧ R v w' :=
  Go.X.calls_of_sx (n := 17) (c := tree_May_1_b) Tryz.func67 (by kernel_rfl) (by kernel_rfl) (Nat.le_of_ble_eq_true rfl) (by kernel_rfl) (Eq.mpr (tree_May_1_eq a0 w R) h)
/-- dispatcher/scan.Name -/
noncomputable def scan_Name_b : Code := (Tryz.f68.body).getD .skip
noncomputable def scan_Name_F (a0 : Value) (w : World) (R : Value → World → Prop) : Prop :=
  BK Tryz.prog BinOp.neq 9 (Operand.tmp 3) (Operand.const (Value.string { data := #[] })) a0 (Value.string { data := #[] }) w fun x4 w => MG Tryz.prog x4 true a0 w fun x6 w => CG Tryz.prog x4 true (Value.func (Fn.func 96) #[] #[]) [x6, (Value.func (Fn.func 97) #[] #[])] w fun x7 w => MG Tryz.prog x4 true a0 w fun x8 w => IG Tryz.prog x4 true Builtin.len #[9] 3 [false] [x8] w fun x9 w => BG Tryz.prog x4 true BinOp.eql 3 (Operand.tmp 7) (Operand.tmp 9) x7 x9 w fun x10 w => PK Tryz.prog x4 x10 (Value.bool false) w fun x11 w => MG Tryz.prog x11 true a0 w fun x13 w => VG Tryz.prog x11 true (Instr.index 9 x13 (Value.int IntKind.i64 0)) w fun x14 w => VG Tryz.prog x11 true (convert 5 21 x14) w fun x15 w => CG Tryz.prog x11 true (Value.func (Fn.func 98) #[] #[]) [x15] w fun x16 w => PK Tryz.prog x11 x16 (Value.bool false) w fun x17 w => MG Tryz.prog x17 true a0 w fun x19 w => IG Tryz.prog x17 true Builtin.len #[9] 3 [false] [x19] w fun x20 w => BG Tryz.prog x17 true BinOp.leq 3 (Operand.tmp 20) (Operand.const (Value.int IntKind.i64 12)) x20 (Value.int IntKind.i64 12) w fun x21 w => PK Tryz.prog x17 x21 (Value.bool false) w fun x22 w => MG Tryz.prog x22 true a0 w fun x24 w => CG Tryz.prog x22 true (Value.func (Fn.func 99) #[] #[]) [x24] w fun x25 w => VG Tryz.prog x22 true (Op.unary UnOp.not x25) w fun x26 w => PK Tryz.prog x22 x26 (Value.bool false) w fun x27 w => R x27 w
theorem scan_Name_eq (a0 : Value) (w : World) (R : Value → World → Prop) : sx fn_ Tryz.prog 28 scan_Name_b (retK Tryz.prog Tryz.f68.results.toList R) (rho0 [a0]) w = scan_Name_F a0 w R := by kernel_rfl
theorem scan_Name_calls {a0 : Value} {w : World} {R : Value → World → Prop} (h : scan_Name_F a0 w R) : Calls Tryz.prog 68 #[a0] w fun e w' => ∃ v, e = .returned v ∧ R v w' :=
  Go.X.calls_of_sx (n := 28) (c := scan_Name_b) Tryz.func68 (by kernel_rfl) (by kernel_rfl) (Nat.le_of_ble_eq_true rfl) (by kernel_rfl) (Eq.mpr (scan_Name_eq a0 w R) h)
/-- dispatcher/tree.Deep -/
noncomputable def tree_Deep_b : Code := (Tryz.f69.body).getD .skip
noncomputable def tree_Deep_F (a0 : Value) (w : World) (R : Value → World → Prop) : Prop :=
  VK Tryz.prog (Instr.box 25 a0) w fun x1 w => VK Tryz.prog (Instr.fieldAt 25 x1 1) w fun x6 w => VK Tryz.prog (Instr.loadAt 23 x6) w fun x7 w => CK Tryz.prog (Value.func (Fn.func 100) #[] #[]) [x7] w fun x8 w => VK Tryz.prog (Instr.extract x8 0) w fun x9 w => VK Tryz.prog (Instr.extract x8 1) w fun x10 w => IK Tryz.prog Builtin.max #[3, 3] 3 [false, false] [x9, x10] w fun x13 w => R x13 w
theorem tree_Deep_eq (a0 : Value) (w : World) (R : Value → World → Prop) : sx fn_ Tryz.prog 14 tree_Deep_b (retK Tryz.prog Tryz.f69.results.toList R) (rho0 [a0]) w = tree_Deep_F a0 w R := by kernel_rfl
theorem tree_Deep_calls {a0 : Value} {w : World} {R : Value → World → Prop} (h : tree_Deep_F a0 w R) : Calls Tryz.prog 69 #[a0] w fun e w' => ∃ v, e = .returned v ∧ R v w' :=
  Go.X.calls_of_sx (n := 14) (c := tree_Deep_b) Tryz.func69 (by kernel_rfl) (by kernel_rfl) (Nat.le_of_ble_eq_true rfl) (by kernel_rfl) (Eq.mpr (tree_Deep_eq a0 w R) h)
/-- slices.ContainsFunc[[]dispatcher/tree.Decl,dispatcher/tree.Decl] -/
noncomputable def slices_ContainsFunc_tree_Decl_tree_Decl_b : Code := (Tryz.f70.body).getD .skip
noncomputable def slices_ContainsFunc_tree_Decl_tree_Decl_F (a0 a1 : Value) (w : World) (R : Value → World → Prop) : Prop :=
  CK Tryz.prog (Value.func (Fn.func 101) #[] #[]) [a0, a1] w fun x7 w => BK Tryz.prog BinOp.geq 3 (Operand.tmp 7) (Operand.const (Value.int IntKind.i64 0)) x7 (Value.int IntKind.i64 0) w fun x8 w => R x8 w
theorem slices_ContainsFunc_tree_Decl_tree_Decl_eq (a0 a1 : Value) (w : World) (R : Value → World → Prop) : sx fn_ Tryz.prog 9 slices_ContainsFunc_tree_Decl_tree_Decl_b (retK Tryz.prog Tryz.f70.results.toList R) (rho0 [a0, a1]) w = slices_ContainsFunc_tree_Decl_tree_Decl_F a0 a1 w R := by kernel_rfl
theorem slices_ContainsFunc_tree_Decl_tree_Decl_calls {a0 a1 : Value} {w : World} {R : Value → World → Prop} (h : slices_ContainsFunc_tree_Decl_tree_Decl_F a0 a1 w R) : Calls Tryz.prog 70 #[a0, a1] w fun e w' => ∃ v, e = .returned v ∧ R v w' :=
  Go.X.calls_of_sx (n := 9) (c := slices_ContainsFunc_tree_Decl_tree_Decl_b) Tryz.func70 (by kernel_rfl) (by kernel_rfl) (Nat.le_of_ble_eq_true rfl) (by kernel_rfl) (Eq.mpr (slices_ContainsFunc_tree_Decl_tree_Decl_eq a0 a1 w R) h)
/-- dispatcher/tree.mayStmts -/
noncomputable def tree_mayStmts_b : Code := (Tryz.f71.body).getD .skip
noncomputable def tree_mayStmts_F (a0 : Value) (w : World) (R : Value → World → Prop) : Prop :=
  CK Tryz.prog (Value.func (Fn.func 74) #[] #[]) [a0, (Value.func (Fn.func 102) #[] #[])] w fun x4 w => VK Tryz.prog (Op.unary UnOp.not x4) w fun x5 w => R x5 w
theorem tree_mayStmts_eq (a0 : Value) (w : World) (R : Value → World → Prop) : sx fn_ Tryz.prog 6 tree_mayStmts_b (retK Tryz.prog Tryz.f71.results.toList R) (rho0 [a0]) w = tree_mayStmts_F a0 w R := by kernel_rfl
theorem tree_mayStmts_calls {a0 : Value} {w : World} {R : Value → World → Prop} (h : tree_mayStmts_F a0 w R) : Calls Tryz.prog 71 #[a0] w fun e w' => ∃ v, e = .returned v ∧ R v w' :=
  Go.X.calls_of_sx (n := 6) (c := tree_mayStmts_b) Tryz.func71 (by kernel_rfl) (by kernel_rfl) (Nat.le_of_ble_eq_true rfl) (by kernel_rfl) (Eq.mpr (tree_mayStmts_eq a0 w R) h)
/-- dispatcher/dispatcherref02.ManyExprs -/
noncomputable def dispatcherref02_ManyExprs_b : Code := (Tryz.f30.body).getD .skip
noncomputable def dispatcherref02_ManyExprs_L0 : Code := cAt [1, 1, 0, 1, 0, 0] dispatcherref02_ManyExprs_b
noncomputable def dispatcherref02_ManyExprs_R1 : Code := cAt [1, 1, 1] dispatcherref02_ManyExprs_b
noncomputable def dispatcherref02_ManyExprs_R2 : Code := cAt [1, 1, 0, 1, 0, 0, 1, 0, 0] dispatcherref02_ManyExprs_b
noncomputable def dispatcherref02_ManyExprs_R3 : Code := cAt [1, 1, 0, 1, 0, 0, 1, 1] dispatcherref02_ManyExprs_b
noncomputable def dispatcherref02_ManyExprs_L0_F (z : At) (K : Exit → Sl → World → Prop) (ρ : Sl) (w : World) : Prop :=
  IK Tryz.prog Builtin.len #[60] 3 [false] [(ρ 0)] w fun x7 w => BK Tryz.prog BinOp.lss 3 (Operand.tmp 5) (Operand.tmp 7) (ρ 4) x7 w fun x8 w => CondK x8 (W z Tryz.prog 29 dispatcherref02_ManyExprs_R2 (blkK 1 (seqK (sx z Tryz.prog 29 dispatcherref02_ManyExprs_R3 K) K)) (up (up (up (up ρ 5 (ρ 4)) 6 (ρ 0)) 7 x7) 8 x8) w) (K (Exit.exit 0) (up (up (up (up ρ 5 (ρ 4)) 6 (ρ 0)) 7 x7) 8 x8) w)
theorem dispatcherref02_ManyExprs_L0_eq (z : At) (K : Exit → Sl → World → Prop) (ρ : Sl) (w : World) : sx z Tryz.prog 29 dispatcherref02_ManyExprs_L0 K ρ w = dispatcherref02_ManyExprs_L0_F z K ρ w := by kernel_rfl
theorem dispatcherref02_ManyExprs_L0_ok : dstOk 29 dispatcherref02_ManyExprs_L0 = true := by kernel_rfl
noncomputable def dispatcherref02_ManyExprs_R1_F (z : At) (K : Exit → Sl → World → Prop) (ρ : Sl) (w : World) : Prop :=
  K Exit.ret (up (up ρ 28 (ρ 3)) 2 (ρ 3)) w
theorem dispatcherref02_ManyExprs_R1_eq (z : At) (K : Exit → Sl → World → Prop) (ρ : Sl) (w : World) : sx z Tryz.prog 29 dispatcherref02_ManyExprs_R1 K ρ w = dispatcherref02_ManyExprs_R1_F z K ρ w := by kernel_rfl
noncomputable def dispatcherref02_ManyExprs_R2_ops : Array Oper := opsOf dispatcherref02_ManyExprs_R2
def dispatcherref02_ManyExprs_R2_Q (C : World → Prop) (K : Exit → Sl → World → Prop) (ρ : Sl) : Prop :=
  QK Tryz.prog C (do pure (Next.value (← (do eqGuard BinOp.add 3 (Operand.tmp 11) (Operand.const (Value.int IntKind.i64 1)) (ρ 3) (Value.int IntKind.i64 1); binOp BinOp.add 3 (ρ 3) (Value.int IntKind.i64 1))))) fun x12 => QK Tryz.prog C (do pure (Next.value (← Instr.indexAt 60 (ρ 0) (ρ 4)))) fun x15 => QK Tryz.prog C (do pure (Next.value (← Instr.fieldAt 85 x15 2))) fun x16 => QK Tryz.prog C (do pure (Next.value (← Instr.loadAt 9 x16))) fun x17 => QK Tryz.prog C (builtin Builtin.len #[9] 3 [false].toArray [x17].toArray) fun x18 => QK Tryz.prog C (builtin Builtin.min #[3, 3] 3 [false, true].toArray [x18, (Value.int IntKind.i64 30000)].toArray) fun x19 => QK Tryz.prog C (do pure (Next.value (← (do eqGuard BinOp.add 3 (Operand.tmp 12) (Operand.tmp 19) x12 x19; binOp BinOp.add 3 x12 x19)))) fun x20 => QK Tryz.prog C (do pure (Next.value (← Instr.indexAt 60 (ρ 0) (ρ 4)))) fun x23 => QK Tryz.prog C (do pure (Next.value (← Instr.fieldAt 85 x23 3))) fun x24 => QK Tryz.prog C (do pure (Next.value (← Instr.loadAt 60 x24))) fun x25 => QK Tryz.prog C (do let d ← Deferred.ofValue (Value.func (Fn.func 30) #[] #[]) [x25].toArray; invoke d.target d.args) fun x26 => QK Tryz.prog C (do pure (Next.value (← (do eqGuard BinOp.add 3 (Operand.tmp 20) (Operand.tmp 26) x20 x26; binOp BinOp.add 3 x20 x26)))) fun x27 => ∀ w', C w' → K Exit.normal (up (up (up (up (up (up (up (up (up (up (up (up (up (up (up (up (up (up ρ 11 (ρ 3)) 12 x12) 13 (ρ 0)) 14 (ρ 4)) 15 x15) 16 x16) 17 x17) 18 x18) 19 x19) 20 x20) 21 (ρ 0)) 22 (ρ 4)) 23 x23) 24 x24) 25 x25) 26 x26) 27 x27) 3 x27) w'
theorem dispatcherref02_ManyExprs_R2_quiet {D : List Deferred} (C : World → Prop) {K : Exit → Sl → World → Prop} {ρ : Sl} {w : World} (hC : C { w with drawn := w.drawn + 1 }) (h : dispatcherref02_ManyExprs_R2_Q C K ρ) : W ⟨none, D⟩ Tryz.prog 29 dispatcherref02_ManyExprs_R2 K ρ w := by
  have e : dispatcherref02_ManyExprs_R2 = .region (idOf dispatcherref02_ManyExprs_R2) dispatcherref02_ManyExprs_R2_ops true := by kernel_rfl
  have q : sxq Tryz.prog C dispatcherref02_ManyExprs_R2_ops (fun ρ' => ∀ w', C w' → K .normal ρ' w') dispatcherref02_ManyExprs_R2_ops.toList ρ = dispatcherref02_ManyExprs_R2_Q C K ρ := by kernel_rfl
  rw [e]
  exact W_quiet C (by kernel_rfl) (by kernel_rfl) (by kernel_rfl) hC (Eq.mpr q h)
noncomputable def dispatcherref02_ManyExprs_R3_F (z : At) (K : Exit → Sl → World → Prop) (ρ : Sl) (w : World) : Prop :=
  BK Tryz.prog BinOp.add 3 (Operand.tmp 9) (Operand.const (Value.int IntKind.i64 1)) (ρ 4) (Value.int IntKind.i64 1) w fun x10 w => K Exit.normal (up (up (up ρ 9 (ρ 4)) 10 x10) 4 x10) w
theorem dispatcherref02_ManyExprs_R3_eq (z : At) (K : Exit → Sl → World → Prop) (ρ : Sl) (w : World) : sx z Tryz.prog 29 dispatcherref02_ManyExprs_R3 K ρ w = dispatcherref02_ManyExprs_R3_F z K ρ w := by kernel_rfl
noncomputable def dispatcherref02_ManyExprs_F (a0 : Value) (w : World) (R : Value → World → Prop) : Prop :=
  W fn_ Tryz.prog 29 (Code.loop dispatcherref02_ManyExprs_L0) (blkK 0 (seqK (sx fn_ Tryz.prog 29 dispatcherref02_ManyExprs_R1 (retK Tryz.prog [ResultVar.tmp 2] R)) (retK Tryz.prog [ResultVar.tmp 2] R))) (up (up (up (rho0 [a0]) 2 (Value.int IntKind.i64 0)) 3 (Value.int IntKind.i64 0)) 4 (Value.int IntKind.i64 0)) w
theorem dispatcherref02_ManyExprs_eq (a0 : Value) (w : World) (R : Value → World → Prop) : sx fn_ Tryz.prog 29 dispatcherref02_ManyExprs_b (retK Tryz.prog Tryz.f30.results.toList R) (rho0 [a0]) w = dispatcherref02_ManyExprs_F a0 w R := by kernel_rfl
theorem dispatcherref02_ManyExprs_calls {a0 : Value} {w : World} {R : Value → World → Prop} (h : dispatcherref02_ManyExprs_F a0 w R) : Calls Tryz.prog 30 #[a0] w fun e w' => ∃ v, e = .returned v ∧ R v w' :=
  Go.X.calls_of_sx (n := 29) (c := dispatcherref02_ManyExprs_b) Tryz.func30 (by kernel_rfl) (by kernel_rfl) (Nat.le_of_ble_eq_true rfl) (by kernel_rfl) (Eq.mpr (dispatcherref02_ManyExprs_eq a0 w R) h)
/-- dispatcher/dispatcherref02.Deep -/
noncomputable def dispatcherref02_Deep_b : Code := (Tryz.f66.body).getD .skip
noncomputable def dispatcherref02_Deep_F (a0 : Value) (w : World) (R : Value → World → Prop) : Prop :=
  VK Tryz.prog (Instr.box 25 a0) w fun x1 w => VK Tryz.prog (Instr.fieldAt 25 x1 1) w fun x3 w => VK Tryz.prog (Instr.loadAt 23 x3) w fun x4 w => CK Tryz.prog (Value.func (Fn.func 95) #[] #[]) [x4, (Value.int IntKind.i64 1)] w fun x5 w => R x5 w
theorem dispatcherref02_Deep_eq (a0 : Value) (w : World) (R : Value → World → Prop) : sx fn_ Tryz.prog 6 dispatcherref02_Deep_b (retK Tryz.prog Tryz.f66.results.toList R) (rho0 [a0]) w = dispatcherref02_Deep_F a0 w R := by kernel_rfl
theorem dispatcherref02_Deep_calls {a0 : Value} {w : World} {R : Value → World → Prop} (h : dispatcherref02_Deep_F a0 w R) : Calls Tryz.prog 66 #[a0] w fun e w' => ∃ v, e = .returned v ∧ R v w' :=
  Go.X.calls_of_sx (n := 6) (c := dispatcherref02_Deep_b) Tryz.func66 (by kernel_rfl) (by kernel_rfl) (Nat.le_of_ble_eq_true rfl) (by kernel_rfl) (Eq.mpr (dispatcherref02_Deep_eq a0 w R) h)
/-- dispatcher/dispatcherref02.MayStmts -/
noncomputable def dispatcherref02_MayStmts_b : Code := (Tryz.f81.body).getD .skip
noncomputable def dispatcherref02_MayStmts_L0 : Code := cAt [1, 0, 1, 0, 0] dispatcherref02_MayStmts_b
noncomputable def dispatcherref02_MayStmts_R1 : Code := cAt [1, 1] dispatcherref02_MayStmts_b
noncomputable def dispatcherref02_MayStmts_R2 : Code := cAt [1, 0, 1, 0, 0, 1, 0, 0, 1, 1, 1] dispatcherref02_MayStmts_b
noncomputable def dispatcherref02_MayStmts_R3 : Code := cAt [1, 0, 1, 0, 0, 1, 0, 0, 1, 1, 0, 1, 0, 1] dispatcherref02_MayStmts_b
noncomputable def dispatcherref02_MayStmts_R4 : Code := cAt [1, 0, 1, 0, 0, 1, 1] dispatcherref02_MayStmts_b
noncomputable def dispatcherref02_MayStmts_L5 : Code := cAt [1, 0, 1, 0, 0, 1, 0, 0, 1, 1, 1, 1, 1, 0, 0] dispatcherref02_MayStmts_b
noncomputable def dispatcherref02_MayStmts_R6 : Code := cAt [1, 0, 1, 0, 0, 1, 0, 0, 1, 1, 0, 1, 0, 1, 1, 1, 1, 1, 1, 1] dispatcherref02_MayStmts_b
noncomputable def dispatcherref02_MayStmts_L0_F (z : At) (K : Exit → Sl → World → Prop) (ρ : Sl) (w : World) : Prop :=
  IK Tryz.prog Builtin.len #[23] 3 [false] [(ρ 0)] w fun x10 w => BK Tryz.prog BinOp.lss 3 (Operand.tmp 8) (Operand.tmp 10) (ρ 3) x10 w fun x11 w => CondK x11 (VK Tryz.prog (Instr.indexAt 23 (ρ 0) (ρ 3)) w fun x16 w => VK Tryz.prog (Instr.loadAt 62 x16) w fun x17 w => VK Tryz.prog (Instr.alloc 62 true (.tuple #[])) w fun x4 w => UK Tryz.prog (Instr.storeAt 62 x4 x17) w fun _ w => VK Tryz.prog (Instr.fieldAt 62 x4 0) w fun x18 w => VK Tryz.prog (Instr.loadAt 5 x18) w fun x19 w => BK Tryz.prog BinOp.eql 5 (Operand.tmp 19) (Operand.const (Value.int IntKind.u8 1)) x19 (Value.int IntKind.u8 1) w fun x21 w => CondK x21 (sx z Tryz.prog 83 dispatcherref02_MayStmts_R3 (blkK 2 (seqK (sx z Tryz.prog 83 dispatcherref02_MayStmts_R2 (blkK 1 (seqK (sx z Tryz.prog 83 dispatcherref02_MayStmts_R4 K) K))) (blkK 1 (seqK (sx z Tryz.prog 83 dispatcherref02_MayStmts_R4 K) K)))) (up (up (up (up (up (up (up (up (up (up (up (up (up (up (up ρ 8 (ρ 3)) 9 (ρ 0)) 10 x10) 11 x11) 14 (ρ 0)) 15 (ρ 3)) 16 x16) 17 x17) 4 x4) 5 (Value.int IntKind.i64 0)) 6 (Value.int IntKind.i64 0)) 18 x18) 19 x19) 21 x21) 20 x21) w) (BK Tryz.prog BinOp.eql 5 (Operand.tmp 19) (Operand.const (Value.int IntKind.u8 3)) x19 (Value.int IntKind.u8 3) w fun x22 w => CondK x22 (sx z Tryz.prog 83 dispatcherref02_MayStmts_R3 (blkK 2 (seqK (sx z Tryz.prog 83 dispatcherref02_MayStmts_R2 (blkK 1 (seqK (sx z Tryz.prog 83 dispatcherref02_MayStmts_R4 K) K))) (blkK 1 (seqK (sx z Tryz.prog 83 dispatcherref02_MayStmts_R4 K) K)))) (up (up (up (up (up (up (up (up (up (up (up (up (up (up (up (up (up ρ 8 (ρ 3)) 9 (ρ 0)) 10 x10) 11 x11) 14 (ρ 0)) 15 (ρ 3)) 16 x16) 17 x17) 4 x4) 5 (Value.int IntKind.i64 0)) 6 (Value.int IntKind.i64 0)) 18 x18) 19 x19) 21 x21) 20 x21) 22 x22) 20 x22) w) (BK Tryz.prog BinOp.eql 5 (Operand.tmp 19) (Operand.const (Value.int IntKind.u8 4)) x19 (Value.int IntKind.u8 4) w fun x23 w => CondK x23 (sx z Tryz.prog 83 dispatcherref02_MayStmts_R3 (blkK 2 (seqK (sx z Tryz.prog 83 dispatcherref02_MayStmts_R2 (blkK 1 (seqK (sx z Tryz.prog 83 dispatcherref02_MayStmts_R4 K) K))) (blkK 1 (seqK (sx z Tryz.prog 83 dispatcherref02_MayStmts_R4 K) K)))) (up (up (up (up (up (up (up (up (up (up (up (up (up (up (up (up (up (up (up ρ 8 (ρ 3)) 9 (ρ 0)) 10 x10) 11 x11) 14 (ρ 0)) 15 (ρ 3)) 16 x16) 17 x17) 4 x4) 5 (Value.int IntKind.i64 0)) 6 (Value.int IntKind.i64 0)) 18 x18) 19 x19) 21 x21) 20 x21) 22 x22) 20 x22) 23 x23) 20 x23) w) (BK Tryz.prog BinOp.eql 5 (Operand.tmp 19) (Operand.const (Value.int IntKind.u8 6)) x19 (Value.int IntKind.u8 6) w fun x24 w => sx z Tryz.prog 83 dispatcherref02_MayStmts_R3 (blkK 2 (seqK (sx z Tryz.prog 83 dispatcherref02_MayStmts_R2 (blkK 1 (seqK (sx z Tryz.prog 83 dispatcherref02_MayStmts_R4 K) K))) (blkK 1 (seqK (sx z Tryz.prog 83 dispatcherref02_MayStmts_R4 K) K)))) (up (up (up (up (up (up (up (up (up (up (up (up (up (up (up (up (up (up (up (up (up ρ 8 (ρ 3)) 9 (ρ 0)) 10 x10) 11 x11) 14 (ρ 0)) 15 (ρ 3)) 16 x16) 17 x17) 4 x4) 5 (Value.int IntKind.i64 0)) 6 (Value.int IntKind.i64 0)) 18 x18) 19 x19) 21 x21) 20 x21) 22 x22) 20 x22) 23 x23) 20 x23) 24 x24) 20 x24) w)))) (K (Exit.exit 0) (up (up (up (up ρ 8 (ρ 3)) 9 (ρ 0)) 10 x10) 11 x11) w)
theorem dispatcherref02_MayStmts_L0_eq (z : At) (K : Exit → Sl → World → Prop) (ρ : Sl) (w : World) : sx z Tryz.prog 83 dispatcherref02_MayStmts_L0 K ρ w = dispatcherref02_MayStmts_L0_F z K ρ w := by kernel_rfl
theorem dispatcherref02_MayStmts_L0_ok : dstOk 83 dispatcherref02_MayStmts_L0 = true := by kernel_rfl
noncomputable def dispatcherref02_MayStmts_R1_F (z : At) (K : Exit → Sl → World → Prop) (ρ : Sl) (w : World) : Prop :=
  K Exit.ret (up ρ 2 (Value.bool true)) w
theorem dispatcherref02_MayStmts_R1_eq (z : At) (K : Exit → Sl → World → Prop) (ρ : Sl) (w : World) : sx z Tryz.prog 83 dispatcherref02_MayStmts_R1 K ρ w = dispatcherref02_MayStmts_R1_F z K ρ w := by kernel_rfl
noncomputable def dispatcherref02_MayStmts_R2_F (z : At) (K : Exit → Sl → World → Prop) (ρ : Sl) (w : World) : Prop :=
  VK Tryz.prog (Instr.fieldAt 62 (ρ 4) 5) w fun x40 w => VK Tryz.prog (Instr.loadAt 60 x40) w fun x41 w => IK Tryz.prog Builtin.len #[60] 3 [false] [x41] w fun x42 w => BK Tryz.prog BinOp.lss 3 (Operand.tmp 42) (Operand.tmp 43) x42 (ρ 5) w fun x44 w => VG Tryz.prog x44 false (Instr.fieldAt 62 (ρ 4) 5) w fun x46 w => VG Tryz.prog x44 false (Instr.loadAt 60 x46) w fun x47 w => IG Tryz.prog x44 false Builtin.len #[60] 3 [false] [x47] w fun x48 w => MG Tryz.prog x44 false (ρ 6) w fun x49 w => BG Tryz.prog x44 false BinOp.gtr 3 (Operand.tmp 48) (Operand.tmp 49) x48 x49 w fun x50 w => PK Tryz.prog x44 (Value.bool true) x50 w fun x51 w => VG Tryz.prog x51 false (Instr.loadAt 62 (ρ 4)) w fun x53 w => CG Tryz.prog x51 false (Value.func (Fn.func 110) #[] #[]) [x53] w fun x54 w => VG Tryz.prog x51 false (Op.unary UnOp.not x54) w fun x55 w => PK Tryz.prog x51 (Value.bool true) x55 w fun x56 w => VG Tryz.prog x56 false (Instr.fieldAt 62 (ρ 4) 6) w fun x58 w => VG Tryz.prog x56 false (Instr.loadAt 23 x58) w fun x59 w => CG Tryz.prog x56 false (Value.func (Fn.func 81) #[] #[]) [x59] w fun x60 w => VG Tryz.prog x56 false (Op.unary UnOp.not x60) w fun x61 w => PK Tryz.prog x56 (Value.bool true) x61 w fun x62 w => VG Tryz.prog x62 false (Instr.fieldAt 62 (ρ 4) 7) w fun x64 w => VG Tryz.prog x62 false (Instr.loadAt 23 x64) w fun x65 w => CG Tryz.prog x62 false (Value.func (Fn.func 81) #[] #[]) [x65] w fun x66 w => VG Tryz.prog x62 false (Op.unary UnOp.not x66) w fun x67 w => PK Tryz.prog x62 (Value.bool true) x67 w fun x68 w => CondK x68 (K Exit.ret (up (up (up (up (up (up (up (up (up (up (up (up (up (up (up (up (up (up (up (up (up (up (up (up (up (up (up (up (up (up ρ 40 x40) 41 x41) 42 x42) 43 (ρ 5)) 44 x44) 45 x44) 46 x46) 47 x47) 48 x48) 49 x49) 50 x50) 51 x51) 52 x51) 53 x53) 54 x54) 55 x55) 56 x56) 57 x56) 58 x58) 59 x59) 60 x60) 61 x61) 62 x62) 63 x62) 64 x64) 65 x65) 66 x66) 67 x67) 68 x68) 2 (Value.bool false)) w) (W z Tryz.prog 83 (Code.loop dispatcherref02_MayStmts_L5) (blkK 3 K) (up (up (up (up (up (up (up (up (up (up (up (up (up (up (up (up (up (up (up (up (up (up (up (up (up (up (up (up (up (up ρ 40 x40) 41 x41) 42 x42) 43 (ρ 5)) 44 x44) 45 x44) 46 x46) 47 x47) 48 x48) 49 x49) 50 x50) 51 x51) 52 x51) 53 x53) 54 x54) 55 x55) 56 x56) 57 x56) 58 x58) 59 x59) 60 x60) 61 x61) 62 x62) 63 x62) 64 x64) 65 x65) 66 x66) 67 x67) 68 x68) 7 (Value.int IntKind.i64 0)) w)
theorem dispatcherref02_MayStmts_R2_eq (z : At) (K : Exit → Sl → World → Prop) (ρ : Sl) (w : World) : sx z Tryz.prog 83 dispatcherref02_MayStmts_R2 K ρ w = dispatcherref02_MayStmts_R2_F z K ρ w := by kernel_rfl
noncomputable def dispatcherref02_MayStmts_R3_F (z : At) (K : Exit → Sl → World → Prop) (ρ : Sl) (w : World) : Prop :=
  CondK (ρ 20) (K Exit.normal (up (up ρ 5 (Value.int IntKind.i64 1)) 6 (Value.int IntKind.i64 1)) w) (BK Tryz.prog BinOp.eql 5 (Operand.tmp 19) (Operand.const (Value.int IntKind.u8 2)) (ρ 19) (Value.int IntKind.u8 2) w fun x26 w => CondK x26 (K Exit.normal (up (up (up (up ρ 26 x26) 25 x26) 5 (Value.int IntKind.i64 2)) 6 (Value.int IntKind.i64 2)) w) (BK Tryz.prog BinOp.eql 5 (Operand.tmp 19) (Operand.const (Value.int IntKind.u8 8)) (ρ 19) (Value.int IntKind.u8 8) w fun x28 w => CondK x28 (VK Tryz.prog (Instr.fieldAt 62 (ρ 4) 1) w fun x30 w => VK Tryz.prog (Instr.loadAt 5 x30) w fun x31 w => CK Tryz.prog (Value.func (Fn.func 109) #[] #[]) [x31] w fun x32 w => VK Tryz.prog (Instr.extract x32 0) w fun x33 w => VK Tryz.prog (Instr.extract x32 1) w fun x34 w => BK Tryz.prog BinOp.eql 3 (Operand.tmp 35) (Operand.const (Value.int IntKind.i64 0)) x34 (Value.int IntKind.i64 0) w fun x36 w => CondK x36 (K Exit.ret (up (up (up (up (up (up (up (up (up (up (up (up (up (up (up ρ 26 x26) 25 x26) 28 x28) 27 x28) 30 x30) 31 x31) 32 x32) 29 x32) 33 x33) 34 x34) 5 x33) 6 x34) 35 x34) 36 x36) 2 (Value.bool false)) w) (K Exit.normal (up (up (up (up (up (up (up (up (up (up (up (up (up (up ρ 26 x26) 25 x26) 28 x28) 27 x28) 30 x30) 31 x31) 32 x32) 29 x32) 33 x33) 34 x34) 5 x33) 6 x34) 35 x34) 36 x36) w)) (BK Tryz.prog BinOp.eql 5 (Operand.tmp 19) (Operand.const (Value.int IntKind.u8 5)) (ρ 19) (Value.int IntKind.u8 5) w fun x38 w => CondK x38 (sx z Tryz.prog 83 dispatcherref02_MayStmts_R6 K (up (up (up (up (up (up ρ 26 x26) 25 x26) 28 x28) 27 x28) 38 x38) 37 x38) w) (BK Tryz.prog BinOp.eql 5 (Operand.tmp 19) (Operand.const (Value.int IntKind.u8 7)) (ρ 19) (Value.int IntKind.u8 7) w fun x39 w => sx z Tryz.prog 83 dispatcherref02_MayStmts_R6 K (up (up (up (up (up (up (up (up ρ 26 x26) 25 x26) 28 x28) 27 x28) 38 x38) 37 x38) 39 x39) 37 x39) w))))
theorem dispatcherref02_MayStmts_R3_eq (z : At) (K : Exit → Sl → World → Prop) (ρ : Sl) (w : World) : sx z Tryz.prog 83 dispatcherref02_MayStmts_R3 K ρ w = dispatcherref02_MayStmts_R3_F z K ρ w := by kernel_rfl
noncomputable def dispatcherref02_MayStmts_R4_F (z : At) (K : Exit → Sl → World → Prop) (ρ : Sl) (w : World) : Prop :=
  BK Tryz.prog BinOp.add 3 (Operand.tmp 12) (Operand.const (Value.int IntKind.i64 1)) (ρ 3) (Value.int IntKind.i64 1) w fun x13 w => K Exit.normal (up (up (up ρ 12 (ρ 3)) 13 x13) 3 x13) w
theorem dispatcherref02_MayStmts_R4_eq (z : At) (K : Exit → Sl → World → Prop) (ρ : Sl) (w : World) : sx z Tryz.prog 83 dispatcherref02_MayStmts_R4 K ρ w = dispatcherref02_MayStmts_R4_F z K ρ w := by kernel_rfl
noncomputable def dispatcherref02_MayStmts_L5_F (z : At) (K : Exit → Sl → World → Prop) (ρ : Sl) (w : World) : Prop :=
  VK Tryz.prog (Instr.fieldAt 62 (ρ 4) 5) w fun x70 w => VK Tryz.prog (Instr.loadAt 60 x70) w fun x71 w => IK Tryz.prog Builtin.len #[60] 3 [false] [x71] w fun x72 w => BK Tryz.prog BinOp.lss 3 (Operand.tmp 69) (Operand.tmp 72) (ρ 7) x72 w fun x73 w => CondK x73 (VK Tryz.prog (Instr.fieldAt 62 (ρ 4) 5) w fun x76 w => VK Tryz.prog (Instr.loadAt 60 x76) w fun x77 w => VK Tryz.prog (Instr.indexAt 60 x77 (ρ 7)) w fun x79 w => VK Tryz.prog (Instr.loadAt 85 x79) w fun x80 w => CK Tryz.prog (Value.func (Fn.func 111) #[] #[]) [x80] w fun x81 w => VK Tryz.prog (Op.unary UnOp.not x81) w fun x82 w => CondK x82 (K Exit.ret (up (up (up (up (up (up (up (up (up (up (up (up (up ρ 69 (ρ 7)) 70 x70) 71 x71) 72 x72) 73 x73) 76 x76) 77 x77) 78 (ρ 7)) 79 x79) 80 x80) 81 x81) 82 x82) 2 (Value.bool false)) w) (BK Tryz.prog BinOp.add 3 (Operand.tmp 74) (Operand.const (Value.int IntKind.i64 1)) (ρ 7) (Value.int IntKind.i64 1) w fun x75 w => K Exit.normal (up (up (up (up (up (up (up (up (up (up (up (up (up (up (up ρ 69 (ρ 7)) 70 x70) 71 x71) 72 x72) 73 x73) 76 x76) 77 x77) 78 (ρ 7)) 79 x79) 80 x80) 81 x81) 82 x82) 74 (ρ 7)) 75 x75) 7 x75) w)) (K (Exit.exit 3) (up (up (up (up (up ρ 69 (ρ 7)) 70 x70) 71 x71) 72 x72) 73 x73) w)
theorem dispatcherref02_MayStmts_L5_eq (z : At) (K : Exit → Sl → World → Prop) (ρ : Sl) (w : World) : sx z Tryz.prog 83 dispatcherref02_MayStmts_L5 K ρ w = dispatcherref02_MayStmts_L5_F z K ρ w := by kernel_rfl
theorem dispatcherref02_MayStmts_L5_ok : dstOk 83 dispatcherref02_MayStmts_L5 = true := by kernel_rfl
noncomputable def dispatcherref02_MayStmts_R6_F (z : At) (K : Exit → Sl → World → Prop) (ρ : Sl) (w : World) : Prop :=
  CondK (ρ 37) (K Exit.normal ρ w) (K Exit.ret (up ρ 2 (Value.bool false)) w)
theorem dispatcherref02_MayStmts_R6_eq (z : At) (K : Exit → Sl → World → Prop) (ρ : Sl) (w : World) : sx z Tryz.prog 83 dispatcherref02_MayStmts_R6 K ρ w = dispatcherref02_MayStmts_R6_F z K ρ w := by kernel_rfl
noncomputable def dispatcherref02_MayStmts_F (a0 : Value) (w : World) (R : Value → World → Prop) : Prop :=
  W fn_ Tryz.prog 83 (Code.loop dispatcherref02_MayStmts_L0) (blkK 0 (seqK (sx fn_ Tryz.prog 83 dispatcherref02_MayStmts_R1 (retK Tryz.prog [ResultVar.tmp 2] R)) (retK Tryz.prog [ResultVar.tmp 2] R))) (up (up (rho0 [a0]) 2 (Value.bool false)) 3 (Value.int IntKind.i64 0)) w
theorem dispatcherref02_MayStmts_eq (a0 : Value) (w : World) (R : Value → World → Prop) : sx fn_ Tryz.prog 83 dispatcherref02_MayStmts_b (retK Tryz.prog Tryz.f81.results.toList R) (rho0 [a0]) w = dispatcherref02_MayStmts_F a0 w R := by kernel_rfl
theorem dispatcherref02_MayStmts_calls {a0 : Value} {w : World} {R : Value → World → Prop} (h : dispatcherref02_MayStmts_F a0 w R) : Calls Tryz.prog 81 #[a0] w fun e w' => ∃ v, e = .returned v ∧ R v w' :=
  Go.X.calls_of_sx (n := 83) (c := dispatcherref02_MayStmts_b) Tryz.func81 (by kernel_rfl) (by kernel_rfl) (Nat.le_of_ble_eq_true rfl) (by kernel_rfl) (Eq.mpr (dispatcherref02_MayStmts_eq a0 w R) h)
/-- dispatcher/dispatcherref01.Words -/
noncomputable def dispatcherref01_Words_b : Code := (Tryz.f112.body).getD .skip
noncomputable def dispatcherref01_Words_F (w : World) (R : Value → World → Prop) : Prop :=
  VK Tryz.prog (Instr.buildSlice 111 43 [(0, (Value.string { data := #[105, 110, 116] })), (1, (Value.string { data := #[105, 102] })), (2, (Value.string { data := #[101, 108, 115, 101] })), (3, (Value.string { data := #[119, 104, 105, 108, 101] })), (4, (Value.string { data := #[102, 111, 114] })), (5, (Value.string { data := #[97, 115, 115, 101, 114, 116] })), (6, (Value.string { data := #[115, 116, 111, 112] })), (7, (Value.string { data := #[114, 97, 110, 107] })), (8, (Value.string { data := #[115, 105, 122, 101] })), (9, (Value.string { data := #[97, 110, 121] })), (10, (Value.string { data := #[118, 97, 108, 117, 101] })), (11, (Value.string { data := #[112, 101, 101, 114] })), (12, (Value.string { data := #[116, 97, 103] })), (13, (Value.string { data := #[102, 108, 97, 103] })), (14, (Value.string { data := #[105, 110, 100, 101, 120] })), (15, (Value.string { data := #[114, 101, 113] })), (16, (Value.string { data := #[99, 111, 109, 109] })), (17, (Value.string { data := #[114, 111, 119] })), (18, (Value.string { data := #[115, 117, 109] })), (19, (Value.string { data := #[109, 97, 120] })), (20, (Value.string { data := #[109, 105, 110] })), (21, (Value.string { data := #[115, 101, 110, 100] })), (22, (Value.string { data := #[115, 115, 101, 110, 100] })), (23, (Value.string { data := #[98, 115, 101, 110, 100] })), (24, (Value.string { data := #[105, 115, 101, 110, 100] })), (25, (Value.string { data := #[105, 115, 115, 101, 110, 100] })), (26, (Value.string { data := #[114, 101, 99, 118] })), (27, (Value.string { data := #[105, 114, 101, 99, 118] })), (28, (Value.string { data := #[112, 114, 111, 98, 101] })), (29, (Value.string { data := #[105, 112, 114, 111, 98, 101] })), (30, (Value.string { data := #[119, 97, 105, 116] })), (31, (Value.string { data := #[119, 97, 105, 116, 97, 108, 108] })), (32, (Value.string { data := #[119, 97, 105, 116, 97, 110, 121] })), (33, (Value.string { data := #[116, 101, 115, 116] })), (34, (Value.string { data := #[116, 101, 115, 116, 97, 110, 121] })), (35, (Value.string { data := #[98, 97, 114, 114, 105, 101, 114] })), (36, (Value.string { data := #[98, 99, 97, 115, 116] })), (37, (Value.string { data := #[114, 101, 100, 117, 99, 101] })), (38, (Value.string { data := #[97, 108, 108, 114, 101, 100, 117, 99, 101] })), (39, (Value.string { data := #[103, 97, 116, 104, 101, 114] })), (40, (Value.string { data := #[100, 117, 112] })), (41, (Value.string { data := #[115, 112, 108, 105, 116] })), (42, (Value.string { data := #[102, 114, 101, 101] }))].toArray) w fun x1 w => R x1 w
theorem dispatcherref01_Words_eq (w : World) (R : Value → World → Prop) : sx fn_ Tryz.prog 2 dispatcherref01_Words_b (retK Tryz.prog Tryz.f112.results.toList R) (rho0 []) w = dispatcherref01_Words_F  w R := by kernel_rfl
theorem dispatcherref01_Words_calls {w : World} {R : Value → World → Prop} (h : dispatcherref01_Words_F  w R) : Calls Tryz.prog 112 #[] w fun e w' => ∃ v, e = .returned v ∧ R v w' :=
  Go.X.calls_of_sx (n := 2) (c := dispatcherref01_Words_b) Tryz.func112 (by kernel_rfl) (by kernel_rfl) (Nat.le_of_ble_eq_true rfl) (by kernel_rfl) (Eq.mpr (dispatcherref01_Words_eq  w R) h)
/-- dispatcher/scan.length -/
noncomputable def scan_length_b : Code := (Tryz.f96.body).getD .skip
noncomputable def scan_length_L0 : Code := cAt [1, 0, 1, 0, 0] scan_length_b
noncomputable def scan_length_R1 : Code := cAt [1, 1] scan_length_b
noncomputable def scan_length_L0_F (z : At) (K : Exit → Sl → World → Prop) (ρ : Sl) (w : World) : Prop :=
  VK Tryz.prog (Instr.next (ρ 8) true 0) w fun x9 w => VK Tryz.prog (Instr.extract x9 0) w fun x10 w => CondK x10 (VK Tryz.prog (Instr.extract x9 1) w fun x11 w => VK Tryz.prog (Instr.extract x9 2) w fun x12 w => CK Tryz.prog (ρ 1) [x12] w fun x15 w => VK Tryz.prog (Op.unary UnOp.not x15) w fun x16 w => CondK x16 (K Exit.ret (up (up (up (up (up (up (up (up (up (up (up (up ρ 9 x9) 10 x10) 11 x11) 12 x12) 5 x11) 6 x12) 13 (ρ 1)) 14 x12) 15 x15) 16 x16) 17 x11) 4 x11) w) (K Exit.normal (up (up (up (up (up (up (up (up (up (up ρ 9 x9) 10 x10) 11 x11) 12 x12) 5 x11) 6 x12) 13 (ρ 1)) 14 x12) 15 x15) 16 x16) w)) (K (Exit.exit 0) (up (up ρ 9 x9) 10 x10) w)
theorem scan_length_L0_eq (z : At) (K : Exit → Sl → World → Prop) (ρ : Sl) (w : World) : sx z Tryz.prog 20 scan_length_L0 K ρ w = scan_length_L0_F z K ρ w := by kernel_rfl
theorem scan_length_L0_ok : dstOk 20 scan_length_L0 = true := by kernel_rfl
noncomputable def scan_length_R1_F (z : At) (K : Exit → Sl → World → Prop) (ρ : Sl) (w : World) : Prop :=
  IK Tryz.prog Builtin.len #[9] 3 [false] [(ρ 0)] w fun x19 w => K Exit.ret (up (up (up ρ 18 (ρ 0)) 19 x19) 4 x19) w
theorem scan_length_R1_eq (z : At) (K : Exit → Sl → World → Prop) (ρ : Sl) (w : World) : sx z Tryz.prog 20 scan_length_R1 K ρ w = scan_length_R1_F z K ρ w := by kernel_rfl
noncomputable def scan_length_F (a0 a1 : Value) (w : World) (R : Value → World → Prop) : Prop :=
  VK Tryz.prog (Instr.range 9 a0) w fun x8 w => W fn_ Tryz.prog 20 (Code.loop scan_length_L0) (blkK 0 (seqK (sx fn_ Tryz.prog 20 scan_length_R1 (retK Tryz.prog [ResultVar.tmp 4] R)) (retK Tryz.prog [ResultVar.tmp 4] R))) (up (up (up (rho0 [a0, a1]) 4 (Value.int IntKind.i64 0)) 7 a0) 8 x8) w
theorem scan_length_eq (a0 a1 : Value) (w : World) (R : Value → World → Prop) : sx fn_ Tryz.prog 20 scan_length_b (retK Tryz.prog Tryz.f96.results.toList R) (rho0 [a0, a1]) w = scan_length_F a0 a1 w R := by kernel_rfl
theorem scan_length_calls {a0 a1 : Value} {w : World} {R : Value → World → Prop} (h : scan_length_F a0 a1 w R) : Calls Tryz.prog 96 #[a0, a1] w fun e w' => ∃ v, e = .returned v ∧ R v w' :=
  Go.X.calls_of_sx (n := 20) (c := scan_length_b) Tryz.func96 (by kernel_rfl) (by kernel_rfl) (Nat.le_of_ble_eq_true rfl) (by kernel_rfl) (Eq.mpr (scan_length_eq a0 a1 w R) h)
/-- dispatcher/scan.named -/
noncomputable def scan_named_b : Code := (Tryz.f97.body).getD .skip
noncomputable def scan_named_F (a0 : Value) (w : World) (R : Value → World → Prop) : Prop :=
  CK Tryz.prog (Value.func (Fn.func 98) #[] #[]) [a0] w fun x4 w => MG Tryz.prog x4 false a0 w fun x6 w => CG Tryz.prog x4 false (Value.func (Fn.func 118) #[] #[]) [x6] w fun x7 w => PK Tryz.prog x4 (Value.bool true) x7 w fun x8 w => R x8 w
theorem scan_named_eq (a0 : Value) (w : World) (R : Value → World → Prop) : sx fn_ Tryz.prog 9 scan_named_b (retK Tryz.prog Tryz.f97.results.toList R) (rho0 [a0]) w = scan_named_F a0 w R := by kernel_rfl
theorem scan_named_calls {a0 : Value} {w : World} {R : Value → World → Prop} (h : scan_named_F a0 w R) : Calls Tryz.prog 97 #[a0] w fun e w' => ∃ v, e = .returned v ∧ R v w' :=
  Go.X.calls_of_sx (n := 9) (c := scan_named_b) Tryz.func97 (by kernel_rfl) (by kernel_rfl) (Nat.le_of_ble_eq_true rfl) (by kernel_rfl) (Eq.mpr (scan_named_eq a0 w R) h)
/-- dispatcher/scan.letter -/
noncomputable def scan_letter_b : Code := (Tryz.f98.body).getD .skip
noncomputable def scan_letter_F (a0 : Value) (w : World) (R : Value → World → Prop) : Prop :=
  BK Tryz.prog BinOp.geq 21 (Operand.tmp 3) (Operand.const (Value.int IntKind.i32 97)) a0 (Value.int IntKind.i32 97) w fun x4 w => MG Tryz.prog x4 true a0 w fun x6 w => BG Tryz.prog x4 true BinOp.leq 21 (Operand.tmp 6) (Operand.const (Value.int IntKind.i32 122)) x6 (Value.int IntKind.i32 122) w fun x7 w => PK Tryz.prog x4 x7 (Value.bool false) w fun x8 w => R x8 w
theorem scan_letter_eq (a0 : Value) (w : World) (R : Value → World → Prop) : sx fn_ Tryz.prog 9 scan_letter_b (retK Tryz.prog Tryz.f98.results.toList R) (rho0 [a0]) w = scan_letter_F a0 w R := by kernel_rfl
theorem scan_letter_calls {a0 : Value} {w : World} {R : Value → World → Prop} (h : scan_letter_F a0 w R) : Calls Tryz.prog 98 #[a0] w fun e w' => ∃ v, e = .returned v ∧ R v w' :=
  Go.X.calls_of_sx (n := 9) (c := scan_letter_b) Tryz.func98 (by kernel_rfl) (by kernel_rfl) (Nat.le_of_ble_eq_true rfl) (by kernel_rfl) (Eq.mpr (scan_letter_eq a0 w R) h)
/-- dispatcher/scan.Word -/
noncomputable def scan_Word_b : Code := (Tryz.f99.body).getD .skip
noncomputable def scan_Word_F (a0 : Value) (w : World) (R : Value → World → Prop) : Prop :=
  VK Tryz.prog (Instr.sliceAt 142 (Value.pointer (some ⟨0, 0, none⟩)) none none none) w fun x3 w => CK Tryz.prog (Value.func (Fn.func 119) #[] #[]) [x3, a0] w fun x5 w => R x5 w
theorem scan_Word_eq (a0 : Value) (w : World) (R : Value → World → Prop) : sx fn_ Tryz.prog 6 scan_Word_b (retK Tryz.prog Tryz.f99.results.toList R) (rho0 [a0]) w = scan_Word_F a0 w R := by kernel_rfl
theorem scan_Word_calls {a0 : Value} {w : World} {R : Value → World → Prop} (h : scan_Word_F a0 w R) : Calls Tryz.prog 99 #[a0] w fun e w' => ∃ v, e = .returned v ∧ R v w' :=
  Go.X.calls_of_sx (n := 6) (c := scan_Word_b) Tryz.func99 (by kernel_rfl) (by kernel_rfl) (Nat.le_of_ble_eq_true rfl) (by kernel_rfl) (Eq.mpr (scan_Word_eq a0 w R) h)
/-- dispatcher/tree.deep -/
noncomputable def tree_deep_b : Code := (Tryz.f100.body).getD .skip
noncomputable def tree_deep_L0 : Code := cAt [1, 0, 1, 0, 0] tree_deep_b
noncomputable def tree_deep_R1 : Code := cAt [1, 1] tree_deep_b
noncomputable def tree_deep_L2 : Code := cAt [1, 0, 1, 0, 0, 1, 1, 0, 0, 1, 0, 1, 0, 0] tree_deep_b
noncomputable def tree_deep_R3 : Code := cAt [1, 0, 1, 0, 0, 1, 1, 0, 0, 1, 1] tree_deep_b
noncomputable def tree_deep_R4 : Code := cAt [1, 0, 1, 0, 0, 1, 1, 1] tree_deep_b
noncomputable def tree_deep_R5 : Code := cAt [1, 1, 1] tree_deep_b
noncomputable def tree_deep_L6 : Code := cAt [1, 0, 1, 0, 0, 1, 1, 0, 0, 1, 1, 1, 0, 0] tree_deep_b
noncomputable def tree_deep_L0_F (z : At) (K : Exit → Sl → World → Prop) (ρ : Sl) (w : World) : Prop :=
  BK Tryz.prog BinOp.lss 3 (Operand.tmp 14) (Operand.tmp 13) (ρ 14) (ρ 13) w fun x15 w => CondK x15 (VK Tryz.prog (Instr.indexAt 23 (ρ 12) (ρ 14)) w fun x16 w => VK Tryz.prog (Instr.loadAt 62 x16) w fun x17 w => VK Tryz.prog (Instr.alloc 62 true (.tuple #[])) w fun x5 w => UK Tryz.prog (Instr.storeAt 62 x5 x17) w fun _ w => VK Tryz.prog (Instr.fieldAt 62 x5 5) w fun x18 w => VK Tryz.prog (Instr.loadAt 60 x18) w fun x19 w => IK Tryz.prog Builtin.len #[60] 3 [false] [x19] w fun x20 w => W z Tryz.prog 58 (Code.loop tree_deep_L2) (blkK 2 (seqK (sx z Tryz.prog 58 tree_deep_R3 (blkK 1 (seqK (sx z Tryz.prog 58 tree_deep_R4 K) K))) (blkK 1 (seqK (sx z Tryz.prog 58 tree_deep_R4 K) K)))) (up (up (up (up (up (up (up (up ρ 15 x15) 16 x16) 17 x17) 5 x5) 18 x18) 19 x19) 20 x20) 21 (Value.int IntKind.i64 0)) w) (K (Exit.exit 0) (up ρ 15 x15) w)
theorem tree_deep_L0_eq (z : At) (K : Exit → Sl → World → Prop) (ρ : Sl) (w : World) : sx z Tryz.prog 58 tree_deep_L0 K ρ w = tree_deep_L0_F z K ρ w := by kernel_rfl
theorem tree_deep_L0_ok : dstOk 58 tree_deep_L0 = true := by kernel_rfl
noncomputable def tree_deep_R1_F (z : At) (K : Exit → Sl → World → Prop) (ρ : Sl) (w : World) : Prop :=
  IK Tryz.prog Builtin.len #[23] 3 [false] [(ρ 0)] w fun x52 w => BK Tryz.prog BinOp.gtr 3 (Operand.tmp 52) (Operand.const (Value.int IntKind.i64 0)) x52 (Value.int IntKind.i64 0) w fun x53 w => CondK x53 (BK Tryz.prog BinOp.add 3 (Operand.tmp 54) (Operand.const (Value.int IntKind.i64 1)) (ρ 2) (Value.int IntKind.i64 1) w fun x55 w => sx z Tryz.prog 58 tree_deep_R5 K (up (up (up (up (up (up ρ 51 (ρ 0)) 52 x52) 53 x53) 54 (ρ 2)) 55 x55) 2 x55) w) (sx z Tryz.prog 58 tree_deep_R5 K (up (up (up ρ 51 (ρ 0)) 52 x52) 53 x53) w)
theorem tree_deep_R1_eq (z : At) (K : Exit → Sl → World → Prop) (ρ : Sl) (w : World) : sx z Tryz.prog 58 tree_deep_R1 K ρ w = tree_deep_R1_F z K ρ w := by kernel_rfl
noncomputable def tree_deep_L2_F (z : At) (K : Exit → Sl → World → Prop) (ρ : Sl) (w : World) : Prop :=
  BK Tryz.prog BinOp.lss 3 (Operand.tmp 21) (Operand.tmp 20) (ρ 21) (ρ 20) w fun x22 w => CondK x22 (VK Tryz.prog (Instr.indexAt 60 (ρ 19) (ρ 21)) w fun x23 w => VK Tryz.prog (Instr.loadAt 85 x23) w fun x24 w => VK Tryz.prog (Instr.alloc 85 true (.tuple #[])) w fun x7 w => UK Tryz.prog (Instr.storeAt 85 x7 x24) w fun _ w => VK Tryz.prog (Instr.loadAt 85 x7) w fun x26 w => CK Tryz.prog (Value.func (Fn.func 120) #[] #[]) [x26] w fun x27 w => IK Tryz.prog Builtin.max #[3, 3] 3 [false, false] [(ρ 3), x27] w fun x28 w => BK Tryz.prog BinOp.add 3 (Operand.tmp 21) (Operand.const (Value.int IntKind.i64 1)) (ρ 21) (Value.int IntKind.i64 1) w fun x29 w => K Exit.normal (up (up (up (up (up (up (up (up (up (up (up ρ 22 x22) 23 x23) 24 x24) 7 x7) 25 (ρ 3)) 26 x26) 27 x27) 28 x28) 3 x28) 29 x29) 21 x29) w) (K (Exit.exit 2) (up ρ 22 x22) w)
theorem tree_deep_L2_eq (z : At) (K : Exit → Sl → World → Prop) (ρ : Sl) (w : World) : sx z Tryz.prog 58 tree_deep_L2 K ρ w = tree_deep_L2_F z K ρ w := by kernel_rfl
theorem tree_deep_L2_ok : dstOk 58 tree_deep_L2 = true := by kernel_rfl
noncomputable def tree_deep_R3_F (z : At) (K : Exit → Sl → World → Prop) (ρ : Sl) (w : World) : Prop :=
  VK Tryz.prog (Instr.fieldAt 62 (ρ 5) 6) w fun x30 w => VK Tryz.prog (Instr.loadAt 23 x30) w fun x31 w => VK Tryz.prog (Instr.fieldAt 62 (ρ 5) 7) w fun x32 w => VK Tryz.prog (Instr.loadAt 23 x32) w fun x33 w => VK Tryz.prog (Instr.build 143 [(0, x31), (1, x33)].toArray) w fun x34 w => W z Tryz.prog 58 (Code.loop tree_deep_L6) (blkK 4 K) (up (up (up (up (up (up ρ 30 x30) 31 x31) 32 x32) 33 x33) 34 x34) 35 (Value.int IntKind.i64 0)) w
theorem tree_deep_R3_eq (z : At) (K : Exit → Sl → World → Prop) (ρ : Sl) (w : World) : sx z Tryz.prog 58 tree_deep_R3 K ρ w = tree_deep_R3_F z K ρ w := by kernel_rfl
noncomputable def tree_deep_R4_F (z : At) (K : Exit → Sl → World → Prop) (ρ : Sl) (w : World) : Prop :=
  BK Tryz.prog BinOp.add 3 (Operand.tmp 14) (Operand.const (Value.int IntKind.i64 1)) (ρ 14) (Value.int IntKind.i64 1) w fun x50 w => K Exit.normal (up (up ρ 50 x50) 14 x50) w
theorem tree_deep_R4_eq (z : At) (K : Exit → Sl → World → Prop) (ρ : Sl) (w : World) : sx z Tryz.prog 58 tree_deep_R4 K ρ w = tree_deep_R4_F z K ρ w := by kernel_rfl
noncomputable def tree_deep_R5_F (z : At) (K : Exit → Sl → World → Prop) (ρ : Sl) (w : World) : Prop :=
  K Exit.ret (up (up (up (up ρ 56 (ρ 2)) 57 (ρ 3)) 2 (ρ 2)) 3 (ρ 3)) w
theorem tree_deep_R5_eq (z : At) (K : Exit → Sl → World → Prop) (ρ : Sl) (w : World) : sx z Tryz.prog 58 tree_deep_R5 K ρ w = tree_deep_R5_F z K ρ w := by kernel_rfl
noncomputable def tree_deep_L6_F (z : At) (K : Exit → Sl → World → Prop) (ρ : Sl) (w : World) : Prop :=
  BK Tryz.prog BinOp.lss 3 (Operand.tmp 35) (Operand.const (Value.int IntKind.i64 2)) (ρ 35) (Value.int IntKind.i64 2) w fun x36 w => CondK x36 (VK Tryz.prog (Instr.index 143 (ρ 34) (ρ 35)) w fun x37 w => CK Tryz.prog (Value.func (Fn.func 100) #[] #[]) [x37] w fun x40 w => VK Tryz.prog (Instr.extract x40 0) w fun x41 w => VK Tryz.prog (Instr.extract x40 1) w fun x42 w => IK Tryz.prog Builtin.max #[3, 3] 3 [false, false] [(ρ 2), x41] w fun x45 w => IK Tryz.prog Builtin.max #[3, 3] 3 [false, false] [(ρ 3), x42] w fun x48 w => BK Tryz.prog BinOp.add 3 (Operand.tmp 35) (Operand.const (Value.int IntKind.i64 1)) (ρ 35) (Value.int IntKind.i64 1) w fun x49 w => K Exit.normal (up (up (up (up (up (up (up (up (up (up (up (up (up (up (up (up (up (up (up (up ρ 36 x36) 37 x37) 9 x37) 39 x37) 40 x40) 38 x40) 41 x41) 42 x42) 10 x41) 11 x42) 43 (ρ 2)) 44 x41) 45 x45) 46 (ρ 3)) 47 x42) 48 x48) 2 x45) 3 x48) 49 x49) 35 x49) w) (K (Exit.exit 4) (up ρ 36 x36) w)
theorem tree_deep_L6_eq (z : At) (K : Exit → Sl → World → Prop) (ρ : Sl) (w : World) : sx z Tryz.prog 58 tree_deep_L6 K ρ w = tree_deep_L6_F z K ρ w := by kernel_rfl
theorem tree_deep_L6_ok : dstOk 58 tree_deep_L6 = true := by kernel_rfl
noncomputable def tree_deep_F (a0 : Value) (w : World) (R : Value → World → Prop) : Prop :=
  IK Tryz.prog Builtin.len #[23] 3 [false] [a0] w fun x13 w => W fn_ Tryz.prog 58 (Code.loop tree_deep_L0) (blkK 0 (seqK (sx fn_ Tryz.prog 58 tree_deep_R1 (retK Tryz.prog [ResultVar.tmp 2, ResultVar.tmp 3] R)) (retK Tryz.prog [ResultVar.tmp 2, ResultVar.tmp 3] R))) (up (up (up (up (up (rho0 [a0]) 2 (Value.int IntKind.i64 0)) 3 (Value.int IntKind.i64 0)) 12 a0) 13 x13) 14 (Value.int IntKind.i64 0)) w
theorem tree_deep_eq (a0 : Value) (w : World) (R : Value → World → Prop) : sx fn_ Tryz.prog 58 tree_deep_b (retK Tryz.prog Tryz.f100.results.toList R) (rho0 [a0]) w = tree_deep_F a0 w R := by kernel_rfl
theorem tree_deep_calls {a0 : Value} {w : World} {R : Value → World → Prop} (h : tree_deep_F a0 w R) : Calls Tryz.prog 100 #[a0] w fun e w' => ∃ v, e = .returned v ∧ R v w' :=
  Go.X.calls_of_sx (n := 58) (c := tree_deep_b) Tryz.func100 (by kernel_rfl) (by kernel_rfl) (Nat.le_of_ble_eq_true rfl) (by kernel_rfl) (Eq.mpr (tree_deep_eq a0 w R) h)
/-- slices.IndexFunc[[]dispatcher/tree.Decl,dispatcher/tree.Decl] -/
noncomputable def slices_IndexFunc_tree_Decl_tree_Decl_b : Code := (Tryz.f101.body).getD .skip
noncomputable def slices_IndexFunc_tree_Decl_tree_Decl_L0 : Code := cAt [1, 0, 1, 0, 0] slices_IndexFunc_tree_Decl_tree_Decl_b
noncomputable def slices_IndexFunc_tree_Decl_tree_Decl_R1 : Code := cAt [1, 1] slices_IndexFunc_tree_Decl_tree_Decl_b
noncomputable def slices_IndexFunc_tree_Decl_tree_Decl_L0_F (z : At) (K : Exit → Sl → World → Prop) (ρ : Sl) (w : World) : Prop :=
  BK Tryz.prog BinOp.lss 3 (Operand.tmp 8) (Operand.tmp 7) (ρ 8) (ρ 7) w fun x9 w => CondK x9 (VK Tryz.prog (Instr.indexAt 22 (ρ 0) (ρ 8)) w fun x14 w => VK Tryz.prog (Instr.loadAt 48 x14) w fun x15 w => CK Tryz.prog (ρ 1) [x15] w fun x16 w => CondK x16 (K Exit.ret (up (up (up (up (up (up (up (up (up (up (up ρ 9 x9) 10 (ρ 8)) 5 (ρ 8)) 11 (ρ 1)) 12 (ρ 0)) 13 (ρ 8)) 14 x14) 15 x15) 16 x16) 17 (ρ 8)) 4 (ρ 8)) w) (BK Tryz.prog BinOp.add 3 (Operand.tmp 8) (Operand.const (Value.int IntKind.i64 1)) (ρ 8) (Value.int IntKind.i64 1) w fun x18 w => K Exit.normal (up (up (up (up (up (up (up (up (up (up (up ρ 9 x9) 10 (ρ 8)) 5 (ρ 8)) 11 (ρ 1)) 12 (ρ 0)) 13 (ρ 8)) 14 x14) 15 x15) 16 x16) 18 x18) 8 x18) w)) (K (Exit.exit 0) (up ρ 9 x9) w)
theorem slices_IndexFunc_tree_Decl_tree_Decl_L0_eq (z : At) (K : Exit → Sl → World → Prop) (ρ : Sl) (w : World) : sx z Tryz.prog 19 slices_IndexFunc_tree_Decl_tree_Decl_L0 K ρ w = slices_IndexFunc_tree_Decl_tree_Decl_L0_F z K ρ w := by kernel_rfl
theorem slices_IndexFunc_tree_Decl_tree_Decl_L0_ok : dstOk 19 slices_IndexFunc_tree_Decl_tree_Decl_L0 = true := by kernel_rfl
noncomputable def slices_IndexFunc_tree_Decl_tree_Decl_R1_F (z : At) (K : Exit → Sl → World → Prop) (ρ : Sl) (w : World) : Prop :=
  K Exit.ret (up ρ 4 (Value.int IntKind.i64 (-1))) w
theorem slices_IndexFunc_tree_Decl_tree_Decl_R1_eq (z : At) (K : Exit → Sl → World → Prop) (ρ : Sl) (w : World) : sx z Tryz.prog 19 slices_IndexFunc_tree_Decl_tree_Decl_R1 K ρ w = slices_IndexFunc_tree_Decl_tree_Decl_R1_F z K ρ w := by kernel_rfl
noncomputable def slices_IndexFunc_tree_Decl_tree_Decl_F (a0 a1 : Value) (w : World) (R : Value → World → Prop) : Prop :=
  IK Tryz.prog Builtin.len #[22] 3 [false] [a0] w fun x7 w => W fn_ Tryz.prog 19 (Code.loop slices_IndexFunc_tree_Decl_tree_Decl_L0) (blkK 0 (seqK (sx fn_ Tryz.prog 19 slices_IndexFunc_tree_Decl_tree_Decl_R1 (retK Tryz.prog [ResultVar.tmp 4] R)) (retK Tryz.prog [ResultVar.tmp 4] R))) (up (up (up (up (rho0 [a0, a1]) 4 (Value.int IntKind.i64 0)) 6 a0) 7 x7) 8 (Value.int IntKind.i64 0)) w
theorem slices_IndexFunc_tree_Decl_tree_Decl_eq (a0 a1 : Value) (w : World) (R : Value → World → Prop) : sx fn_ Tryz.prog 19 slices_IndexFunc_tree_Decl_tree_Decl_b (retK Tryz.prog Tryz.f101.results.toList R) (rho0 [a0, a1]) w = slices_IndexFunc_tree_Decl_tree_Decl_F a0 a1 w R := by kernel_rfl
theorem slices_IndexFunc_tree_Decl_tree_Decl_calls {a0 a1 : Value} {w : World} {R : Value → World → Prop} (h : slices_IndexFunc_tree_Decl_tree_Decl_F a0 a1 w R) : Calls Tryz.prog 101 #[a0, a1] w fun e w' => ∃ v, e = .returned v ∧ R v w' :=
  Go.X.calls_of_sx (n := 19) (c := slices_IndexFunc_tree_Decl_tree_Decl_b) Tryz.func101 (by kernel_rfl) (by kernel_rfl) (Nat.le_of_ble_eq_true rfl) (by kernel_rfl) (Eq.mpr (slices_IndexFunc_tree_Decl_tree_Decl_eq a0 a1 w R) h)
/-- slices.ContainsFunc[[]dispatcher/tree.Stmt,dispatcher/tree.Stmt] -/
noncomputable def slices_ContainsFunc_tree_Stmt_tree_Stmt_b : Code := (Tryz.f74.body).getD .skip
noncomputable def slices_ContainsFunc_tree_Stmt_tree_Stmt_F (a0 a1 : Value) (w : World) (R : Value → World → Prop) : Prop :=
  CK Tryz.prog (Value.func (Fn.func 107) #[] #[]) [a0, a1] w fun x7 w => BK Tryz.prog BinOp.geq 3 (Operand.tmp 7) (Operand.const (Value.int IntKind.i64 0)) x7 (Value.int IntKind.i64 0) w fun x8 w => R x8 w
theorem slices_ContainsFunc_tree_Stmt_tree_Stmt_eq (a0 a1 : Value) (w : World) (R : Value → World → Prop) : sx fn_ Tryz.prog 9 slices_ContainsFunc_tree_Stmt_tree_Stmt_b (retK Tryz.prog Tryz.f74.results.toList R) (rho0 [a0, a1]) w = slices_ContainsFunc_tree_Stmt_tree_Stmt_F a0 a1 w R := by kernel_rfl
theorem slices_ContainsFunc_tree_Stmt_tree_Stmt_calls {a0 a1 : Value} {w : World} {R : Value → World → Prop} (h : slices_ContainsFunc_tree_Stmt_tree_Stmt_F a0 a1 w R) : Calls Tryz.prog 74 #[a0, a1] w fun e w' => ∃ v, e = .returned v ∧ R v w' :=
  Go.X.calls_of_sx (n := 9) (c := slices_ContainsFunc_tree_Stmt_tree_Stmt_b) Tryz.func74 (by kernel_rfl) (by kernel_rfl) (Nat.le_of_ble_eq_true rfl) (by kernel_rfl) (Eq.mpr (slices_ContainsFunc_tree_Stmt_tree_Stmt_eq a0 a1 w R) h)
/-- dispatcher/tree.mayStmts$1 -/
noncomputable def tree_mayStmts_1_b : Code := (Tryz.f102.body).getD .skip
noncomputable def tree_mayStmts_1_F (a0 : Value) (w : World) (R : Value → World → Prop) : Prop :=
  VK Tryz.prog (Instr.box 62 a0) w fun x1 w => VK Tryz.prog (Instr.loadAt 62 x1) w fun x3 w => CK Tryz.prog (Value.func (Fn.func 103) #[] #[]) [x3] w fun x4 w => VK Tryz.prog (Op.unary UnOp.not x4) w fun x5 w => R x5 w
theorem tree_mayStmts_1_eq (a0 : Value) (w : World) (R : Value → World → Prop) : sx fn_ Tryz.prog 6 tree_mayStmts_1_b (retK Tryz.prog Tryz.f102.results.toList R) (rho0 [a0]) w = tree_mayStmts_1_F a0 w R := by kernel_rfl
theorem tree_mayStmts_1_calls {a0 : Value} {w : World} {R : Value → World → Prop} (h : tree_mayStmts_1_F a0 w R) : Calls Tryz.prog 102 #[a0] w fun e w' => ∃ v, e = .returned v ∧ R v w' :=
  Go.X.calls_of_sx (n := 6) (c := tree_mayStmts_1_b) Tryz.func102 (by kernel_rfl) (by kernel_rfl) (Nat.le_of_ble_eq_true rfl) (by kernel_rfl) (Eq.mpr (tree_mayStmts_1_eq a0 w R) h)
/-- dispatcher/tree.mayStmt -/
noncomputable def tree_mayStmt_b : Code := (Tryz.f103.body).getD .skip
noncomputable def tree_mayStmt_R0 : Code := cAt [1, 1, 1, 1] tree_mayStmt_b
noncomputable def tree_mayStmt_R1 : Code := cAt [1, 1, 1, 0, 1, 0, 1] tree_mayStmt_b
noncomputable def tree_mayStmt_R2 : Code := cAt [1, 1, 1, 0, 1, 0, 1, 1, 1, 1, 1] tree_mayStmt_b
noncomputable def tree_mayStmt_R0_FR (R : Value → World → Prop) (ρ : Sl) (w : World) : Prop :=
  VK Tryz.prog (Instr.fieldAt 62 (ρ 1) 3) w fun x42_1 w => VK Tryz.prog (Instr.loadAt 9 x42_1) w fun x43_1 w => BK Tryz.prog BinOp.neq 9 (Operand.tmp 43) (Operand.const (Value.string { data := #[] })) x43_1 (Value.string { data := #[] }) w fun x44_1 w => BK Tryz.prog BinOp.eql 4 (Operand.tmp 41) (Operand.tmp 44) (ρ 3) x44_1 w fun x45_1 w => MG Tryz.prog x45_1 true (ρ 3) w fun x47_1 w => VG Tryz.prog x45_1 true (Op.unary UnOp.not x47_1) w fun x48_1 w => MG Tryz.prog x45_1 true x48_1 w fun x49_1 w => VG Tryz.prog x49_1 false (Instr.fieldAt 62 (ρ 1) 3) w fun x50_1 w => VG Tryz.prog x49_1 false (Instr.loadAt 9 x50_1) w fun x51_1 w => CG Tryz.prog x49_1 false (Value.func (Fn.func 68) #[] #[]) [x51_1] w fun x52_1 w => PG Tryz.prog x45_1 true x49_1 (Value.bool true) x52_1 w fun x53_1 w => PK Tryz.prog x45_1 x53_1 (Value.bool false) w fun x54_1 w => VG Tryz.prog x54_1 true (Instr.fieldAt 62 (ρ 1) 5) w fun x56_1 w => VG Tryz.prog x54_1 true (Instr.loadAt 60 x56_1) w fun x57_1 w => IG Tryz.prog x54_1 true Builtin.len #[60] 3 [false] [x57_1] w fun x58_1 w => MG Tryz.prog x54_1 true (ρ 4) w fun x59_1 w => BG Tryz.prog x54_1 true BinOp.geq 3 (Operand.tmp 58) (Operand.tmp 59) x58_1 x59_1 w fun x60_1 w => PK Tryz.prog x54_1 x60_1 (Value.bool false) w fun x61_1 w => VG Tryz.prog x61_1 true (Instr.fieldAt 62 (ρ 1) 5) w fun x63_1 w => VG Tryz.prog x61_1 true (Instr.loadAt 60 x63_1) w fun x64_1 w => IG Tryz.prog x61_1 true Builtin.len #[60] 3 [false] [x64_1] w fun x65_1 w => MG Tryz.prog x61_1 true (ρ 5) w fun x66_1 w => BG Tryz.prog x61_1 true BinOp.leq 3 (Operand.tmp 65) (Operand.tmp 66) x65_1 x66_1 w fun x67_1 w => PK Tryz.prog x61_1 x67_1 (Value.bool false) w fun x68_1 w => VG Tryz.prog x68_1 true (Instr.fieldAt 62 (ρ 1) 5) w fun x70_1 w => VG Tryz.prog x68_1 true (Instr.loadAt 60 x70_1) w fun x71_1 w => CG Tryz.prog x68_1 true (Value.func (Fn.func 122) #[] #[]) [x71_1, (Value.func (Fn.func 123) #[] #[])] w fun x72_1 w => VG Tryz.prog x68_1 true (Op.unary UnOp.not x72_1) w fun x73_1 w => PK Tryz.prog x68_1 x73_1 (Value.bool false) w fun x74_1 w => VG Tryz.prog x74_1 true (Instr.fieldAt 62 (ρ 1) 0) w fun x76_1 w => VG Tryz.prog x74_1 true (Instr.loadAt 5 x76_1) w fun x77_1 w => BG Tryz.prog x74_1 true BinOp.eql 5 (Operand.tmp 77) (Operand.const (Value.int IntKind.u8 8)) x77_1 (Value.int IntKind.u8 8) w fun x78_1 w => MG Tryz.prog x74_1 true x78_1 w fun x79_1 w => VG Tryz.prog x79_1 false (Instr.fieldAt 62 (ρ 1) 1) w fun x80_1 w => VG Tryz.prog x79_1 false (Instr.loadAt 5 x80_1) w fun x81_1 w => BG Tryz.prog x79_1 false BinOp.eql 5 (Operand.tmp 81) (Operand.const (Value.int IntKind.u8 0)) x81_1 (Value.int IntKind.u8 0) w fun x82_1 w => PG Tryz.prog x74_1 true x79_1 (Value.bool true) x82_1 w fun x83_1 w => PK Tryz.prog x74_1 x83_1 (Value.bool false) w fun x84_1 w => VG Tryz.prog x84_1 true (Instr.fieldAt 62 (ρ 1) 2) w fun x86_1 w => VG Tryz.prog x84_1 true (Instr.loadAt 5 x86_1) w fun x87_1 w => BG Tryz.prog x84_1 true BinOp.eql 5 (Operand.tmp 87) (Operand.const (Value.int IntKind.u8 0)) x87_1 (Value.int IntKind.u8 0) w fun x88_1 w => MG Tryz.prog x84_1 true x88_1 w fun x89_1 w => VG Tryz.prog x89_1 false (Instr.fieldAt 62 (ρ 1) 1) w fun x90_1 w => VG Tryz.prog x89_1 false (Instr.loadAt 5 x90_1) w fun x91_1 w => CG Tryz.prog x89_1 false (Value.func (Fn.func 125) #[] #[]) [x91_1] w fun x92_1 w => MG Tryz.prog x89_1 false x92_1 w fun x93_1 w => VG Tryz.prog x93_1 true (Instr.fieldAt 62 (ρ 1) 2) w fun x94_1 w => VG Tryz.prog x93_1 true (Instr.loadAt 5 x94_1) w fun x95_1 w => BG Tryz.prog x93_1 true BinOp.leq 5 (Operand.tmp 95) (Operand.const (Value.int IntKind.u8 2)) x95_1 (Value.int IntKind.u8 2) w fun x96_1 w => PG Tryz.prog x89_1 false x93_1 x96_1 (Value.bool false) w fun x97_1 w => PG Tryz.prog x84_1 true x89_1 (Value.bool true) x97_1 w fun x98_1 w => PK Tryz.prog x84_1 x98_1 (Value.bool false) w fun x99_1 w => VG Tryz.prog x99_1 true (Instr.fieldAt 62 (ρ 1) 4) w fun x101_1 w => VG Tryz.prog x99_1 true (Instr.loadAt 3 x101_1) w fun x102_1 w => BG Tryz.prog x99_1 true BinOp.geq 3 (Operand.tmp 102) (Operand.const (Value.int IntKind.i64 0)) x102_1 (Value.int IntKind.i64 0) w fun x103_1 w => PK Tryz.prog x99_1 x103_1 (Value.bool false) w fun x104_1 w => VG Tryz.prog x104_1 true (Instr.fieldAt 62 (ρ 1) 4) w fun x106_1 w => VG Tryz.prog x104_1 true (Instr.loadAt 3 x106_1) w fun x107_1 w => BG Tryz.prog x104_1 true BinOp.leq 3 (Operand.tmp 107) (Operand.const (Value.int IntKind.i64 1000)) x107_1 (Value.int IntKind.i64 1000) w fun x108_1 w => PK Tryz.prog x104_1 x108_1 (Value.bool false) w fun x109_1 w => VG Tryz.prog x109_1 true (Instr.fieldAt 62 (ρ 1) 0) w fun x111_1 w => VG Tryz.prog x109_1 true (Instr.loadAt 5 x111_1) w fun x112_1 w => BG Tryz.prog x109_1 true BinOp.eql 5 (Operand.tmp 112) (Operand.const (Value.int IntKind.u8 5)) x112_1 (Value.int IntKind.u8 5) w fun x113_1 w => MG Tryz.prog x109_1 true x113_1 w fun x114_1 w => VG Tryz.prog x114_1 false (Instr.fieldAt 62 (ρ 1) 4) w fun x115_1 w => VG Tryz.prog x114_1 false (Instr.loadAt 3 x115_1) w fun x116_1 w => BG Tryz.prog x114_1 false BinOp.eql 3 (Operand.tmp 116) (Operand.const (Value.int IntKind.i64 0)) x116_1 (Value.int IntKind.i64 0) w fun x117_1 w => PG Tryz.prog x109_1 true x114_1 (Value.bool true) x117_1 w fun x118_1 w => PK Tryz.prog x109_1 x118_1 (Value.bool false) w fun x119_1 w => VG Tryz.prog x119_1 true (Instr.fieldAt 62 (ρ 1) 0) w fun x121_1 w => VG Tryz.prog x119_1 true (Instr.loadAt 5 x121_1) w fun x122_1 w => BG Tryz.prog x119_1 true BinOp.eql 5 (Operand.tmp 122) (Operand.const (Value.int IntKind.u8 3)) x122_1 (Value.int IntKind.u8 3) w fun x123_1 w => MG Tryz.prog x119_1 true x123_1 w fun x124_1 w => VG Tryz.prog x124_1 false (Instr.fieldAt 62 (ρ 1) 7) w fun x125_1 w => VG Tryz.prog x124_1 false (Instr.loadAt 23 x125_1) w fun x126_1 w => IG Tryz.prog x124_1 false Builtin.len #[23] 3 [false] [x126_1] w fun x127_1 w => BG Tryz.prog x124_1 false BinOp.eql 3 (Operand.tmp 127) (Operand.const (Value.int IntKind.i64 0)) x127_1 (Value.int IntKind.i64 0) w fun x128_1 w => PG Tryz.prog x119_1 true x124_1 (Value.bool true) x128_1 w fun x129_1 w => PK Tryz.prog x119_1 x129_1 (Value.bool false) w fun x130_1 w => VG Tryz.prog x130_1 true (Instr.fieldAt 62 (ρ 1) 0) w fun x132_1 w => VG Tryz.prog x130_1 true (Instr.loadAt 5 x132_1) w fun x133_1 w => BG Tryz.prog x130_1 true BinOp.eql 5 (Operand.tmp 133) (Operand.const (Value.int IntKind.u8 3)) x133_1 (Value.int IntKind.u8 3) w fun x134_1 w => MG Tryz.prog x130_1 true x134_1 w fun x135_1 w => VG Tryz.prog x135_1 false (Instr.fieldAt 62 (ρ 1) 0) w fun x136_1 w => VG Tryz.prog x135_1 false (Instr.loadAt 5 x136_1) w fun x137_1 w => BG Tryz.prog x135_1 false BinOp.eql 5 (Operand.tmp 137) (Operand.const (Value.int IntKind.u8 4)) x137_1 (Value.int IntKind.u8 4) w fun x138_1 w => PG Tryz.prog x130_1 true x135_1 (Value.bool true) x138_1 w fun x139_1 w => MG Tryz.prog x130_1 true x139_1 w fun x140_1 w => VG Tryz.prog x140_1 false (Instr.fieldAt 62 (ρ 1) 0) w fun x141_1 w => VG Tryz.prog x140_1 false (Instr.loadAt 5 x141_1) w fun x142_1 w => BG Tryz.prog x140_1 false BinOp.eql 5 (Operand.tmp 142) (Operand.const (Value.int IntKind.u8 5)) x142_1 (Value.int IntKind.u8 5) w fun x143_1 w => PG Tryz.prog x130_1 true x140_1 (Value.bool true) x143_1 w fun x144_1 w => MG Tryz.prog x130_1 true x144_1 w fun x145_1 w => VG Tryz.prog x145_1 false (Instr.fieldAt 62 (ρ 1) 6) w fun x146_1 w => VG Tryz.prog x145_1 false (Instr.loadAt 23 x146_1) w fun x147_1 w => IG Tryz.prog x145_1 false Builtin.len #[23] 3 [false] [x147_1] w fun x148_1 w => BG Tryz.prog x145_1 false BinOp.eql 3 (Operand.tmp 148) (Operand.const (Value.int IntKind.i64 0)) x148_1 (Value.int IntKind.i64 0) w fun x149_1 w => PG Tryz.prog x130_1 true x145_1 (Value.bool true) x149_1 w fun x150_1 w => PK Tryz.prog x130_1 x150_1 (Value.bool false) w fun x151_1 w => VG Tryz.prog x151_1 true (Instr.fieldAt 62 (ρ 1) 6) w fun x153_1 w => VG Tryz.prog x151_1 true (Instr.loadAt 23 x153_1) w fun x154_1 w => CG Tryz.prog x151_1 true (Value.func (Fn.func 71) #[] #[]) [x154_1] w fun x155_1 w => PK Tryz.prog x151_1 x155_1 (Value.bool false) w fun x156_1 w => VG Tryz.prog x156_1 true (Instr.fieldAt 62 (ρ 1) 7) w fun x158_1 w => VG Tryz.prog x156_1 true (Instr.loadAt 23 x158_1) w fun x159_1 w => CG Tryz.prog x156_1 true (Value.func (Fn.func 71) #[] #[]) [x159_1] w fun x160_1 w => PK Tryz.prog x156_1 x160_1 (Value.bool false) w fun x161_1 w => R x161_1 w
theorem tree_mayStmt_R0_eqR (R : Value → World → Prop) (ρ : Sl) (w : World) : sx fn_ Tryz.prog 162 tree_mayStmt_R0 (retK Tryz.prog [ResultVar.tmp 2] R) ρ w = tree_mayStmt_R0_FR R ρ w := by kernel_rfl
noncomputable def tree_mayStmt_R1_F (z : At) (K : Exit → Sl → World → Prop) (ρ : Sl) (w : World) : Prop :=
  CondK (ρ 21) (K Exit.normal (up (up ρ 4 (Value.int IntKind.i64 1)) 5 (Value.int IntKind.i64 1)) w) (BK Tryz.prog BinOp.eql 5 (Operand.tmp 20) (Operand.const (Value.int IntKind.u8 2)) (ρ 20) (Value.int IntKind.u8 2) w fun x27 w => CondK x27 (K Exit.normal (up (up (up (up ρ 27 x27) 26 x27) 4 (Value.int IntKind.i64 2)) 5 (Value.int IntKind.i64 2)) w) (BK Tryz.prog BinOp.eql 5 (Operand.tmp 20) (Operand.const (Value.int IntKind.u8 5)) (ρ 20) (Value.int IntKind.u8 5) w fun x29 w => CondK x29 (sx z Tryz.prog 162 tree_mayStmt_R2 K (up (up (up (up ρ 27 x27) 26 x27) 29 x29) 28 x29) w) (BK Tryz.prog BinOp.eql 5 (Operand.tmp 20) (Operand.const (Value.int IntKind.u8 7)) (ρ 20) (Value.int IntKind.u8 7) w fun x30 w => sx z Tryz.prog 162 tree_mayStmt_R2 K (up (up (up (up (up (up ρ 27 x27) 26 x27) 29 x29) 28 x29) 30 x30) 28 x30) w)))
theorem tree_mayStmt_R1_eq (z : At) (K : Exit → Sl → World → Prop) (ρ : Sl) (w : World) : sx z Tryz.prog 162 tree_mayStmt_R1 K ρ w = tree_mayStmt_R1_F z K ρ w := by kernel_rfl
noncomputable def tree_mayStmt_R2_F (z : At) (K : Exit → Sl → World → Prop) (ρ : Sl) (w : World) : Prop :=
  CondK (ρ 28) (K Exit.normal ρ w) (BK Tryz.prog BinOp.eql 5 (Operand.tmp 20) (Operand.const (Value.int IntKind.u8 8)) (ρ 20) (Value.int IntKind.u8 8) w fun x32 w => CondK x32 (VK Tryz.prog (Instr.fieldAt 62 (ρ 1) 1) w fun x34 w => VK Tryz.prog (Instr.loadAt 5 x34) w fun x35 w => CK Tryz.prog (Value.func (Fn.func 121) #[] #[]) [x35] w fun x36 w => VK Tryz.prog (Instr.extract x36 0) w fun x37 w => VK Tryz.prog (Instr.extract x36 1) w fun x38 w => BK Tryz.prog BinOp.eql 3 (Operand.tmp 39) (Operand.const (Value.int IntKind.i64 0)) x38 (Value.int IntKind.i64 0) w fun x40 w => CondK x40 (K Exit.ret (up (up (up (up (up (up (up (up (up (up (up (up (up ρ 32 x32) 31 x32) 34 x34) 35 x35) 36 x36) 33 x36) 37 x37) 38 x38) 4 x37) 5 x38) 39 x38) 40 x40) 2 (Value.bool false)) w) (K Exit.normal (up (up (up (up (up (up (up (up (up (up (up (up ρ 32 x32) 31 x32) 34 x34) 35 x35) 36 x36) 33 x36) 37 x37) 38 x38) 4 x37) 5 x38) 39 x38) 40 x40) w)) (K Exit.ret (up (up (up ρ 32 x32) 31 x32) 2 (Value.bool false)) w))
theorem tree_mayStmt_R2_eq (z : At) (K : Exit → Sl → World → Prop) (ρ : Sl) (w : World) : sx z Tryz.prog 162 tree_mayStmt_R2 K ρ w = tree_mayStmt_R2_F z K ρ w := by kernel_rfl
noncomputable def tree_mayStmt_F (a0 : Value) (w : World) (R : Value → World → Prop) : Prop :=
  VK Tryz.prog (Instr.box 62 a0) w fun x1 w => VK Tryz.prog (Instr.fieldAt 62 x1 0) w fun x6 w => VK Tryz.prog (Instr.loadAt 5 x6) w fun x7 w => BK Tryz.prog BinOp.eql 5 (Operand.tmp 7) (Operand.const (Value.int IntKind.u8 1)) x7 (Value.int IntKind.u8 1) w fun x8 w => VG Tryz.prog x8 false (Instr.fieldAt 62 x1 0) w fun x10 w => VG Tryz.prog x8 false (Instr.loadAt 5 x10) w fun x11 w => BG Tryz.prog x8 false BinOp.eql 5 (Operand.tmp 11) (Operand.const (Value.int IntKind.u8 2)) x11 (Value.int IntKind.u8 2) w fun x12 w => PK Tryz.prog x8 (Value.bool true) x12 w fun x13 w => VG Tryz.prog x13 false (Instr.fieldAt 62 x1 0) w fun x15 w => VG Tryz.prog x13 false (Instr.loadAt 5 x15) w fun x16 w => BG Tryz.prog x13 false BinOp.eql 5 (Operand.tmp 16) (Operand.const (Value.int IntKind.u8 5)) x16 (Value.int IntKind.u8 5) w fun x17 w => PK Tryz.prog x13 (Value.bool true) x17 w fun x18 w => VK Tryz.prog (Instr.fieldAt 62 x1 0) w fun x19 w => VK Tryz.prog (Instr.loadAt 5 x19) w fun x20 w => BK Tryz.prog BinOp.eql 5 (Operand.tmp 20) (Operand.const (Value.int IntKind.u8 1)) x20 (Value.int IntKind.u8 1) w fun x22 w => CondK x22 (sx fn_ Tryz.prog 162 tree_mayStmt_R1 (blkK 0 (seqK (sx fn_ Tryz.prog 162 tree_mayStmt_R0 (retK Tryz.prog [ResultVar.tmp 2] R)) (retK Tryz.prog [ResultVar.tmp 2] R))) (up (up (up (up (up (up (up (up (up (up (up (up (up (up (up (up (up (up (up (up (up (up (rho0 [a0]) 1 x1) 2 (Value.bool false)) 6 x6) 7 x7) 8 x8) 9 x8) 10 x10) 11 x11) 12 x12) 13 x13) 14 x13) 15 x15) 16 x16) 17 x17) 18 x18) 3 x18) 4 (Value.int IntKind.i64 0)) 5 (Value.int IntKind.i64 0)) 19 x19) 20 x20) 22 x22) 21 x22) w) (BK Tryz.prog BinOp.eql 5 (Operand.tmp 20) (Operand.const (Value.int IntKind.u8 3)) x20 (Value.int IntKind.u8 3) w fun x23 w => CondK x23 (sx fn_ Tryz.prog 162 tree_mayStmt_R1 (blkK 0 (seqK (sx fn_ Tryz.prog 162 tree_mayStmt_R0 (retK Tryz.prog [ResultVar.tmp 2] R)) (retK Tryz.prog [ResultVar.tmp 2] R))) (up (up (up (up (up (up (up (up (up (up (up (up (up (up (up (up (up (up (up (up (up (up (up (up (rho0 [a0]) 1 x1) 2 (Value.bool false)) 6 x6) 7 x7) 8 x8) 9 x8) 10 x10) 11 x11) 12 x12) 13 x13) 14 x13) 15 x15) 16 x16) 17 x17) 18 x18) 3 x18) 4 (Value.int IntKind.i64 0)) 5 (Value.int IntKind.i64 0)) 19 x19) 20 x20) 22 x22) 21 x22) 23 x23) 21 x23) w) (BK Tryz.prog BinOp.eql 5 (Operand.tmp 20) (Operand.const (Value.int IntKind.u8 4)) x20 (Value.int IntKind.u8 4) w fun x24 w => CondK x24 (sx fn_ Tryz.prog 162 tree_mayStmt_R1 (blkK 0 (seqK (sx fn_ Tryz.prog 162 tree_mayStmt_R0 (retK Tryz.prog [ResultVar.tmp 2] R)) (retK Tryz.prog [ResultVar.tmp 2] R))) (up (up (up (up (up (up (up (up (up (up (up (up (up (up (up (up (up (up (up (up (up (up (up (up (up (up (rho0 [a0]) 1 x1) 2 (Value.bool false)) 6 x6) 7 x7) 8 x8) 9 x8) 10 x10) 11 x11) 12 x12) 13 x13) 14 x13) 15 x15) 16 x16) 17 x17) 18 x18) 3 x18) 4 (Value.int IntKind.i64 0)) 5 (Value.int IntKind.i64 0)) 19 x19) 20 x20) 22 x22) 21 x22) 23 x23) 21 x23) 24 x24) 21 x24) w) (BK Tryz.prog BinOp.eql 5 (Operand.tmp 20) (Operand.const (Value.int IntKind.u8 6)) x20 (Value.int IntKind.u8 6) w fun x25 w => sx fn_ Tryz.prog 162 tree_mayStmt_R1 (blkK 0 (seqK (sx fn_ Tryz.prog 162 tree_mayStmt_R0 (retK Tryz.prog [ResultVar.tmp 2] R)) (retK Tryz.prog [ResultVar.tmp 2] R))) (up (up (up (up (up (up (up (up (up (up (up (up (up (up (up (up (up (up (up (up (up (up (up (up (up (up (up (up (rho0 [a0]) 1 x1) 2 (Value.bool false)) 6 x6) 7 x7) 8 x8) 9 x8) 10 x10) 11 x11) 12 x12) 13 x13) 14 x13) 15 x15) 16 x16) 17 x17) 18 x18) 3 x18) 4 (Value.int IntKind.i64 0)) 5 (Value.int IntKind.i64 0)) 19 x19) 20 x20) 22 x22) 21 x22) 23 x23) 21 x23) 24 x24) 21 x24) 25 x25) 21 x25) w)))
theorem tree_mayStmt_eq (a0 : Value) (w : World) (R : Value → World → Prop) : sx fn_ Tryz.prog 162 tree_mayStmt_b (retK Tryz.prog Tryz.f103.results.toList R) (rho0 [a0]) w = tree_mayStmt_F a0 w R := by kernel_rfl
theorem tree_mayStmt_calls {a0 : Value} {w : World} {R : Value → World → Prop} (h : tree_mayStmt_F a0 w R) : Calls Tryz.prog 103 #[a0] w fun e w' => ∃ v, e = .returned v ∧ R v w' :=
  Go.X.calls_of_sx (n := 162) (c := tree_mayStmt_b) Tryz.func103 (by kernel_rfl) (by kernel_rfl) (Nat.le_of_ble_eq_true rfl) (by kernel_rfl) (Eq.mpr (tree_mayStmt_eq a0 w R) h)
/-- dispatcher/dispatcherref02.DeepStmts -/
noncomputable def dispatcherref02_DeepStmts_b : Code := (Tryz.f95.body).getD .skip
noncomputable def dispatcherref02_DeepStmts_L0 : Code := cAt [1, 1, 0, 1, 0, 0] dispatcherref02_DeepStmts_b
noncomputable def dispatcherref02_DeepStmts_R1 : Code := cAt [1, 1, 1] dispatcherref02_DeepStmts_b
noncomputable def dispatcherref02_DeepStmts_R2 : Code := cAt [1, 1, 0, 1, 0, 0, 1, 0, 0, 0] dispatcherref02_DeepStmts_b
noncomputable def dispatcherref02_DeepStmts_R3 : Code := cAt [1, 1, 0, 1, 0, 0, 1, 0, 0, 1] dispatcherref02_DeepStmts_b
noncomputable def dispatcherref02_DeepStmts_R4 : Code := cAt [1, 1, 0, 1, 0, 0, 1, 1] dispatcherref02_DeepStmts_b
noncomputable def dispatcherref02_DeepStmts_L5 : Code := cAt [1, 1, 0, 1, 0, 0, 1, 0, 0, 1, 1, 0, 0] dispatcherref02_DeepStmts_b
noncomputable def dispatcherref02_DeepStmts_L0_F (z : At) (K : Exit → Sl → World → Prop) (ρ : Sl) (w : World) : Prop :=
  IK Tryz.prog Builtin.len #[23] 3 [false] [(ρ 0)] w fun x10 w => BK Tryz.prog BinOp.lss 3 (Operand.tmp 8) (Operand.tmp 10) (ρ 6) x10 w fun x11 w => CondK x11 (W z Tryz.prog 55 dispatcherref02_DeepStmts_R2 (seqK (sx z Tryz.prog 55 dispatcherref02_DeepStmts_R3 (blkK 1 (seqK (sx z Tryz.prog 55 dispatcherref02_DeepStmts_R4 K) K))) (blkK 1 (seqK (sx z Tryz.prog 55 dispatcherref02_DeepStmts_R4 K) K))) (up (up (up (up ρ 8 (ρ 6)) 9 (ρ 0)) 10 x10) 11 x11) w) (K (Exit.exit 0) (up (up (up (up ρ 8 (ρ 6)) 9 (ρ 0)) 10 x10) 11 x11) w)
theorem dispatcherref02_DeepStmts_L0_eq (z : At) (K : Exit → Sl → World → Prop) (ρ : Sl) (w : World) : sx z Tryz.prog 55 dispatcherref02_DeepStmts_L0 K ρ w = dispatcherref02_DeepStmts_L0_F z K ρ w := by kernel_rfl
theorem dispatcherref02_DeepStmts_L0_ok : dstOk 55 dispatcherref02_DeepStmts_L0 = true := by kernel_rfl
noncomputable def dispatcherref02_DeepStmts_R1_F (z : At) (K : Exit → Sl → World → Prop) (ρ : Sl) (w : World) : Prop :=
  K Exit.ret (up (up ρ 54 (ρ 5)) 4 (ρ 5)) w
theorem dispatcherref02_DeepStmts_R1_eq (z : At) (K : Exit → Sl → World → Prop) (ρ : Sl) (w : World) : sx z Tryz.prog 55 dispatcherref02_DeepStmts_R1 K ρ w = dispatcherref02_DeepStmts_R1_F z K ρ w := by kernel_rfl
noncomputable def dispatcherref02_DeepStmts_R2_ops : Array Oper := opsOf dispatcherref02_DeepStmts_R2
def dispatcherref02_DeepStmts_R2_Q (C : World → Prop) (K : Exit → Sl → World → Prop) (ρ : Sl) : Prop :=
  QK Tryz.prog C (do pure (Next.value (← Instr.indexAt 23 (ρ 0) (ρ 6)))) fun x18 => QK Tryz.prog C (do pure (Next.value (← Instr.fieldAt 62 x18 6))) fun x19 => QK Tryz.prog C (do pure (Next.value (← Instr.loadAt 23 x19))) fun x20 => QK Tryz.prog C (do pure (Next.value (← (do eqGuard BinOp.add 3 (Operand.tmp 21) (Operand.const (Value.int IntKind.i64 1)) (ρ 1) (Value.int IntKind.i64 1); binOp BinOp.add 3 (ρ 1) (Value.int IntKind.i64 1))))) fun x22 => QK Tryz.prog C (do let d ← Deferred.ofValue (Value.func (Fn.func 95) #[] #[]) [x20, x22].toArray; invoke d.target d.args) fun x23 => QK Tryz.prog C (do pure (Next.value (← Instr.indexAt 23 (ρ 0) (ρ 6)))) fun x26 => QK Tryz.prog C (do pure (Next.value (← Instr.fieldAt 62 x26 7))) fun x27 => QK Tryz.prog C (do pure (Next.value (← Instr.loadAt 23 x27))) fun x28 => QK Tryz.prog C (do pure (Next.value (← (do eqGuard BinOp.add 3 (Operand.tmp 29) (Operand.const (Value.int IntKind.i64 1)) (ρ 1) (Value.int IntKind.i64 1); binOp BinOp.add 3 (ρ 1) (Value.int IntKind.i64 1))))) fun x30 => QK Tryz.prog C (do let d ← Deferred.ofValue (Value.func (Fn.func 95) #[] #[]) [x28, x30].toArray; invoke d.target d.args) fun x31 => QK Tryz.prog C (builtin Builtin.max #[3, 3, 3, 3] 3 [false, false, false, false].toArray [(ρ 5), (ρ 1), x23, x31].toArray) fun x32 => ∀ w', C w' → K Exit.normal (up (up (up (up (up (up (up (up (up (up (up (up (up (up (up (up (up (up (up (up ρ 14 (ρ 5)) 15 (ρ 1)) 16 (ρ 0)) 17 (ρ 6)) 18 x18) 19 x19) 20 x20) 21 (ρ 1)) 22 x22) 23 x23) 24 (ρ 0)) 25 (ρ 6)) 26 x26) 27 x27) 28 x28) 29 (ρ 1)) 30 x30) 31 x31) 32 x32) 5 x32) w'
theorem dispatcherref02_DeepStmts_R2_quiet {D : List Deferred} (C : World → Prop) {K : Exit → Sl → World → Prop} {ρ : Sl} {w : World} (hC : C { w with drawn := w.drawn + 1 }) (h : dispatcherref02_DeepStmts_R2_Q C K ρ) : W ⟨none, D⟩ Tryz.prog 55 dispatcherref02_DeepStmts_R2 K ρ w := by
  have e : dispatcherref02_DeepStmts_R2 = .region (idOf dispatcherref02_DeepStmts_R2) dispatcherref02_DeepStmts_R2_ops true := by kernel_rfl
  have q : sxq Tryz.prog C dispatcherref02_DeepStmts_R2_ops (fun ρ' => ∀ w', C w' → K .normal ρ' w') dispatcherref02_DeepStmts_R2_ops.toList ρ = dispatcherref02_DeepStmts_R2_Q C K ρ := by kernel_rfl
  rw [e]
  exact W_quiet C (by kernel_rfl) (by kernel_rfl) (by kernel_rfl) hC (Eq.mpr q h)
noncomputable def dispatcherref02_DeepStmts_R3_F (z : At) (K : Exit → Sl → World → Prop) (ρ : Sl) (w : World) : Prop :=
  W z Tryz.prog 55 (Code.loop dispatcherref02_DeepStmts_L5) (blkK 2 K) (up ρ 7 (Value.int IntKind.i64 0)) w
theorem dispatcherref02_DeepStmts_R3_eq (z : At) (K : Exit → Sl → World → Prop) (ρ : Sl) (w : World) : sx z Tryz.prog 55 dispatcherref02_DeepStmts_R3 K ρ w = dispatcherref02_DeepStmts_R3_F z K ρ w := by kernel_rfl
noncomputable def dispatcherref02_DeepStmts_R4_F (z : At) (K : Exit → Sl → World → Prop) (ρ : Sl) (w : World) : Prop :=
  BK Tryz.prog BinOp.add 3 (Operand.tmp 12) (Operand.const (Value.int IntKind.i64 1)) (ρ 6) (Value.int IntKind.i64 1) w fun x13 w => K Exit.normal (up (up (up ρ 12 (ρ 6)) 13 x13) 6 x13) w
theorem dispatcherref02_DeepStmts_R4_eq (z : At) (K : Exit → Sl → World → Prop) (ρ : Sl) (w : World) : sx z Tryz.prog 55 dispatcherref02_DeepStmts_R4 K ρ w = dispatcherref02_DeepStmts_R4_F z K ρ w := by kernel_rfl
noncomputable def dispatcherref02_DeepStmts_L5_F (z : At) (K : Exit → Sl → World → Prop) (ρ : Sl) (w : World) : Prop :=
  VK Tryz.prog (Instr.indexAt 23 (ρ 0) (ρ 6)) w fun x36 w => VK Tryz.prog (Instr.fieldAt 62 x36 5) w fun x37 w => VK Tryz.prog (Instr.loadAt 60 x37) w fun x38 w => IK Tryz.prog Builtin.len #[60] 3 [false] [x38] w fun x39 w => BK Tryz.prog BinOp.lss 3 (Operand.tmp 33) (Operand.tmp 39) (ρ 7) x39 w fun x40 w => CondK x40 (VK Tryz.prog (Instr.indexAt 23 (ρ 0) (ρ 6)) w fun x46 w => VK Tryz.prog (Instr.fieldAt 62 x46 5) w fun x47 w => VK Tryz.prog (Instr.loadAt 60 x47) w fun x48 w => VK Tryz.prog (Instr.indexAt 60 x48 (ρ 7)) w fun x50 w => VK Tryz.prog (Instr.loadAt 85 x50) w fun x51 w => CK Tryz.prog (Value.func (Fn.func 117) #[] #[]) [x51] w fun x52 w => IK Tryz.prog Builtin.max #[3, 3] 3 [false, false] [(ρ 5), x52] w fun x53 w => BK Tryz.prog BinOp.add 3 (Operand.tmp 41) (Operand.const (Value.int IntKind.i64 1)) (ρ 7) (Value.int IntKind.i64 1) w fun x42 w => K Exit.normal (up (up (up (up (up (up (up (up (up (up (up (up (up (up (up (up (up (up (up (up (up (up (up ρ 33 (ρ 7)) 34 (ρ 0)) 35 (ρ 6)) 36 x36) 37 x37) 38 x38) 39 x39) 40 x40) 43 (ρ 5)) 44 (ρ 0)) 45 (ρ 6)) 46 x46) 47 x47) 48 x48) 49 (ρ 7)) 50 x50) 51 x51) 52 x52) 53 x53) 5 x53) 41 (ρ 7)) 42 x42) 7 x42) w) (K (Exit.exit 2) (up (up (up (up (up (up (up (up ρ 33 (ρ 7)) 34 (ρ 0)) 35 (ρ 6)) 36 x36) 37 x37) 38 x38) 39 x39) 40 x40) w)
theorem dispatcherref02_DeepStmts_L5_eq (z : At) (K : Exit → Sl → World → Prop) (ρ : Sl) (w : World) : sx z Tryz.prog 55 dispatcherref02_DeepStmts_L5 K ρ w = dispatcherref02_DeepStmts_L5_F z K ρ w := by kernel_rfl
theorem dispatcherref02_DeepStmts_L5_ok : dstOk 55 dispatcherref02_DeepStmts_L5 = true := by kernel_rfl
noncomputable def dispatcherref02_DeepStmts_F (a0 a1 : Value) (w : World) (R : Value → World → Prop) : Prop :=
  W fn_ Tryz.prog 55 (Code.loop dispatcherref02_DeepStmts_L0) (blkK 0 (seqK (sx fn_ Tryz.prog 55 dispatcherref02_DeepStmts_R1 (retK Tryz.prog [ResultVar.tmp 4] R)) (retK Tryz.prog [ResultVar.tmp 4] R))) (up (up (up (rho0 [a0, a1]) 4 (Value.int IntKind.i64 0)) 5 (Value.int IntKind.i64 0)) 6 (Value.int IntKind.i64 0)) w
theorem dispatcherref02_DeepStmts_eq (a0 a1 : Value) (w : World) (R : Value → World → Prop) : sx fn_ Tryz.prog 55 dispatcherref02_DeepStmts_b (retK Tryz.prog Tryz.f95.results.toList R) (rho0 [a0, a1]) w = dispatcherref02_DeepStmts_F a0 a1 w R := by kernel_rfl
theorem dispatcherref02_DeepStmts_calls {a0 a1 : Value} {w : World} {R : Value → World → Prop} (h : dispatcherref02_DeepStmts_F a0 a1 w R) : Calls Tryz.prog 95 #[a0, a1] w fun e w' => ∃ v, e = .returned v ∧ R v w' :=
  Go.X.calls_of_sx (n := 55) (c := dispatcherref02_DeepStmts_b) Tryz.func95 (by kernel_rfl) (by kernel_rfl) (Nat.le_of_ble_eq_true rfl) (by kernel_rfl) (Eq.mpr (dispatcherref02_DeepStmts_eq a0 a1 w R) h)
/-- dispatcher/dispatcherref02.Args -/
noncomputable def dispatcherref02_Args_b : Code := (Tryz.f109.body).getD .skip
noncomputable def dispatcherref02_Args_R0 : Code := cAt [1, 0, 1, 0, 1] dispatcherref02_Args_b
noncomputable def dispatcherref02_Args_R1 : Code := cAt [1, 1] dispatcherref02_Args_b
noncomputable def dispatcherref02_Args_R2 : Code := cAt [1, 0, 1, 0, 1, 1, 1] dispatcherref02_Args_b
noncomputable def dispatcherref02_Args_R3 : Code := cAt [1, 0, 1, 0, 1, 1, 1, 1, 1, 1, 1] dispatcherref02_Args_b
noncomputable def dispatcherref02_Args_R4 : Code := cAt [1, 0, 1, 0, 1, 1, 1, 1, 1, 1, 1, 1, 1] dispatcherref02_Args_b
noncomputable def dispatcherref02_Args_R0_F (z : At) (K : Exit → Sl → World → Prop) (ρ : Sl) (w : World) : Prop :=
  CondK (ρ 5) (K Exit.ret (up (up ρ 2 (Value.int IntKind.i64 5)) 3 (Value.int IntKind.i64 5)) w) (BK Tryz.prog BinOp.eql 5 (Operand.tmp 4) (Operand.const (Value.int IntKind.u8 6)) (ρ 4) (Value.int IntKind.u8 6) w fun x12 w => CondK x12 (sx z Tryz.prog 32 dispatcherref02_Args_R2 K (up (up ρ 12 x12) 11 x12) w) (BK Tryz.prog BinOp.eql 5 (Operand.tmp 4) (Operand.const (Value.int IntKind.u8 7)) (ρ 4) (Value.int IntKind.u8 7) w fun x13 w => CondK x13 (sx z Tryz.prog 32 dispatcherref02_Args_R2 K (up (up (up (up ρ 12 x12) 11 x12) 13 x13) 11 x13) w) (BK Tryz.prog BinOp.eql 5 (Operand.tmp 4) (Operand.const (Value.int IntKind.u8 13)) (ρ 4) (Value.int IntKind.u8 13) w fun x14 w => CondK x14 (sx z Tryz.prog 32 dispatcherref02_Args_R2 K (up (up (up (up (up (up ρ 12 x12) 11 x12) 13 x13) 11 x13) 14 x14) 11 x14) w) (BK Tryz.prog BinOp.eql 5 (Operand.tmp 4) (Operand.const (Value.int IntKind.u8 14)) (ρ 4) (Value.int IntKind.u8 14) w fun x15 w => CondK x15 (sx z Tryz.prog 32 dispatcherref02_Args_R2 K (up (up (up (up (up (up (up (up ρ 12 x12) 11 x12) 13 x13) 11 x13) 14 x14) 11 x14) 15 x15) 11 x15) w) (BK Tryz.prog BinOp.eql 5 (Operand.tmp 4) (Operand.const (Value.int IntKind.u8 16)) (ρ 4) (Value.int IntKind.u8 16) w fun x16 w => CondK x16 (sx z Tryz.prog 32 dispatcherref02_Args_R2 K (up (up (up (up (up (up (up (up (up (up ρ 12 x12) 11 x12) 13 x13) 11 x13) 14 x14) 11 x14) 15 x15) 11 x15) 16 x16) 11 x16) w) (BK Tryz.prog BinOp.eql 5 (Operand.tmp 4) (Operand.const (Value.int IntKind.u8 19)) (ρ 4) (Value.int IntKind.u8 19) w fun x17 w => CondK x17 (sx z Tryz.prog 32 dispatcherref02_Args_R2 K (up (up (up (up (up (up (up (up (up (up (up (up ρ 12 x12) 11 x12) 13 x13) 11 x13) 14 x14) 11 x14) 15 x15) 11 x15) 16 x16) 11 x16) 17 x17) 11 x17) w) (BK Tryz.prog BinOp.eql 5 (Operand.tmp 4) (Operand.const (Value.int IntKind.u8 17)) (ρ 4) (Value.int IntKind.u8 17) w fun x18 w => CondK x18 (sx z Tryz.prog 32 dispatcherref02_Args_R2 K (up (up (up (up (up (up (up (up (up (up (up (up (up (up ρ 12 x12) 11 x12) 13 x13) 11 x13) 14 x14) 11 x14) 15 x15) 11 x15) 16 x16) 11 x16) 17 x17) 11 x17) 18 x18) 11 x18) w) (BK Tryz.prog BinOp.eql 5 (Operand.tmp 4) (Operand.const (Value.int IntKind.u8 21)) (ρ 4) (Value.int IntKind.u8 21) w fun x19 w => sx z Tryz.prog 32 dispatcherref02_Args_R2 K (up (up (up (up (up (up (up (up (up (up (up (up (up (up (up (up ρ 12 x12) 11 x12) 13 x13) 11 x13) 14 x14) 11 x14) 15 x15) 11 x15) 16 x16) 11 x16) 17 x17) 11 x17) 18 x18) 11 x18) 19 x19) 11 x19) w))))))))
theorem dispatcherref02_Args_R0_eq (z : At) (K : Exit → Sl → World → Prop) (ρ : Sl) (w : World) : sx z Tryz.prog 32 dispatcherref02_Args_R0 K ρ w = dispatcherref02_Args_R0_F z K ρ w := by kernel_rfl
noncomputable def dispatcherref02_Args_R1_F (z : At) (K : Exit → Sl → World → Prop) (ρ : Sl) (w : World) : Prop :=
  K Exit.ret (up (up ρ 2 (Value.int IntKind.i64 0)) 3 (Value.int IntKind.i64 0)) w
theorem dispatcherref02_Args_R1_eq (z : At) (K : Exit → Sl → World → Prop) (ρ : Sl) (w : World) : sx z Tryz.prog 32 dispatcherref02_Args_R1 K ρ w = dispatcherref02_Args_R1_F z K ρ w := by kernel_rfl
noncomputable def dispatcherref02_Args_R2_F (z : At) (K : Exit → Sl → World → Prop) (ρ : Sl) (w : World) : Prop :=
  CondK (ρ 11) (K Exit.ret (up (up ρ 2 (Value.int IntKind.i64 3)) 3 (Value.int IntKind.i64 3)) w) (BK Tryz.prog BinOp.eql 5 (Operand.tmp 4) (Operand.const (Value.int IntKind.u8 18)) (ρ 4) (Value.int IntKind.u8 18) w fun x21 w => CondK x21 (K Exit.ret (up (up (up (up ρ 21 x21) 20 x21) 2 (Value.int IntKind.i64 2)) 3 (Value.int IntKind.i64 2)) w) (BK Tryz.prog BinOp.eql 5 (Operand.tmp 4) (Operand.const (Value.int IntKind.u8 8)) (ρ 4) (Value.int IntKind.u8 8) w fun x23 w => CondK x23 (sx z Tryz.prog 32 dispatcherref02_Args_R3 K (up (up (up (up ρ 21 x21) 20 x21) 23 x23) 22 x23) w) (BK Tryz.prog BinOp.eql 5 (Operand.tmp 4) (Operand.const (Value.int IntKind.u8 11)) (ρ 4) (Value.int IntKind.u8 11) w fun x24 w => CondK x24 (sx z Tryz.prog 32 dispatcherref02_Args_R3 K (up (up (up (up (up (up ρ 21 x21) 20 x21) 23 x23) 22 x23) 24 x24) 22 x24) w) (BK Tryz.prog BinOp.eql 5 (Operand.tmp 4) (Operand.const (Value.int IntKind.u8 15)) (ρ 4) (Value.int IntKind.u8 15) w fun x25 w => CondK x25 (sx z Tryz.prog 32 dispatcherref02_Args_R3 K (up (up (up (up (up (up (up (up ρ 21 x21) 20 x21) 23 x23) 22 x23) 24 x24) 22 x24) 25 x25) 22 x25) w) (BK Tryz.prog BinOp.eql 5 (Operand.tmp 4) (Operand.const (Value.int IntKind.u8 20)) (ρ 4) (Value.int IntKind.u8 20) w fun x26 w => CondK x26 (sx z Tryz.prog 32 dispatcherref02_Args_R3 K (up (up (up (up (up (up (up (up (up (up ρ 21 x21) 20 x21) 23 x23) 22 x23) 24 x24) 22 x24) 25 x25) 22 x25) 26 x26) 22 x26) w) (BK Tryz.prog BinOp.eql 5 (Operand.tmp 4) (Operand.const (Value.int IntKind.u8 22)) (ρ 4) (Value.int IntKind.u8 22) w fun x27 w => sx z Tryz.prog 32 dispatcherref02_Args_R3 K (up (up (up (up (up (up (up (up (up (up (up (up ρ 21 x21) 20 x21) 23 x23) 22 x23) 24 x24) 22 x24) 25 x25) 22 x25) 26 x26) 22 x26) 27 x27) 22 x27) w))))))
theorem dispatcherref02_Args_R2_eq (z : At) (K : Exit → Sl → World → Prop) (ρ : Sl) (w : World) : sx z Tryz.prog 32 dispatcherref02_Args_R2 K ρ w = dispatcherref02_Args_R2_F z K ρ w := by kernel_rfl
noncomputable def dispatcherref02_Args_R3_F (z : At) (K : Exit → Sl → World → Prop) (ρ : Sl) (w : World) : Prop :=
  CondK (ρ 22) (K Exit.ret (up (up ρ 2 (Value.int IntKind.i64 1)) 3 (Value.int IntKind.i64 1)) w) (BK Tryz.prog BinOp.eql 5 (Operand.tmp 4) (Operand.const (Value.int IntKind.u8 9)) (ρ 4) (Value.int IntKind.u8 9) w fun x29 w => CondK x29 (sx z Tryz.prog 32 dispatcherref02_Args_R4 K (up (up ρ 29 x29) 28 x29) w) (BK Tryz.prog BinOp.eql 5 (Operand.tmp 4) (Operand.const (Value.int IntKind.u8 10)) (ρ 4) (Value.int IntKind.u8 10) w fun x30 w => CondK x30 (sx z Tryz.prog 32 dispatcherref02_Args_R4 K (up (up (up (up ρ 29 x29) 28 x29) 30 x30) 28 x30) w) (BK Tryz.prog BinOp.eql 5 (Operand.tmp 4) (Operand.const (Value.int IntKind.u8 12)) (ρ 4) (Value.int IntKind.u8 12) w fun x31 w => sx z Tryz.prog 32 dispatcherref02_Args_R4 K (up (up (up (up (up (up ρ 29 x29) 28 x29) 30 x30) 28 x30) 31 x31) 28 x31) w)))
theorem dispatcherref02_Args_R3_eq (z : At) (K : Exit → Sl → World → Prop) (ρ : Sl) (w : World) : sx z Tryz.prog 32 dispatcherref02_Args_R3 K ρ w = dispatcherref02_Args_R3_F z K ρ w := by kernel_rfl
noncomputable def dispatcherref02_Args_R4_F (z : At) (K : Exit → Sl → World → Prop) (ρ : Sl) (w : World) : Prop :=
  CondK (ρ 28) (K Exit.ret (up (up ρ 2 (Value.int IntKind.i64 1)) 3 (Value.int IntKind.i64 8)) w) (K Exit.normal ρ w)
theorem dispatcherref02_Args_R4_eq (z : At) (K : Exit → Sl → World → Prop) (ρ : Sl) (w : World) : sx z Tryz.prog 32 dispatcherref02_Args_R4 K ρ w = dispatcherref02_Args_R4_F z K ρ w := by kernel_rfl
noncomputable def dispatcherref02_Args_F (a0 : Value) (w : World) (R : Value → World → Prop) : Prop :=
  BK Tryz.prog BinOp.eql 5 (Operand.tmp 4) (Operand.const (Value.int IntKind.u8 1)) a0 (Value.int IntKind.u8 1) w fun x6 w => CondK x6 (sx fn_ Tryz.prog 32 dispatcherref02_Args_R0 (blkK 0 (seqK (sx fn_ Tryz.prog 32 dispatcherref02_Args_R1 (retK Tryz.prog [ResultVar.tmp 2, ResultVar.tmp 3] R)) (retK Tryz.prog [ResultVar.tmp 2, ResultVar.tmp 3] R))) (up (up (up (up (up (rho0 [a0]) 2 (Value.int IntKind.i64 0)) 3 (Value.int IntKind.i64 0)) 4 a0) 6 x6) 5 x6) w) (BK Tryz.prog BinOp.eql 5 (Operand.tmp 4) (Operand.const (Value.int IntKind.u8 2)) a0 (Value.int IntKind.u8 2) w fun x7 w => CondK x7 (sx fn_ Tryz.prog 32 dispatcherref02_Args_R0 (blkK 0 (seqK (sx fn_ Tryz.prog 32 dispatcherref02_Args_R1 (retK Tryz.prog [ResultVar.tmp 2, ResultVar.tmp 3] R)) (retK Tryz.prog [ResultVar.tmp 2, ResultVar.tmp 3] R))) (up (up (up (up (up (up (up (rho0 [a0]) 2 (Value.int IntKind.i64 0)) 3 (Value.int IntKind.i64 0)) 4 a0) 6 x6) 5 x6) 7 x7) 5 x7) w) (BK Tryz.prog BinOp.eql 5 (Operand.tmp 4) (Operand.const (Value.int IntKind.u8 3)) a0 (Value.int IntKind.u8 3) w fun x8 w => CondK x8 (sx fn_ Tryz.prog 32 dispatcherref02_Args_R0 (blkK 0 (seqK (sx fn_ Tryz.prog 32 dispatcherref02_Args_R1 (retK Tryz.prog [ResultVar.tmp 2, ResultVar.tmp 3] R)) (retK Tryz.prog [ResultVar.tmp 2, ResultVar.tmp 3] R))) (up (up (up (up (up (up (up (up (up (rho0 [a0]) 2 (Value.int IntKind.i64 0)) 3 (Value.int IntKind.i64 0)) 4 a0) 6 x6) 5 x6) 7 x7) 5 x7) 8 x8) 5 x8) w) (BK Tryz.prog BinOp.eql 5 (Operand.tmp 4) (Operand.const (Value.int IntKind.u8 4)) a0 (Value.int IntKind.u8 4) w fun x9 w => CondK x9 (sx fn_ Tryz.prog 32 dispatcherref02_Args_R0 (blkK 0 (seqK (sx fn_ Tryz.prog 32 dispatcherref02_Args_R1 (retK Tryz.prog [ResultVar.tmp 2, ResultVar.tmp 3] R)) (retK Tryz.prog [ResultVar.tmp 2, ResultVar.tmp 3] R))) (up (up (up (up (up (up (up (up (up (up (up (rho0 [a0]) 2 (Value.int IntKind.i64 0)) 3 (Value.int IntKind.i64 0)) 4 a0) 6 x6) 5 x6) 7 x7) 5 x7) 8 x8) 5 x8) 9 x9) 5 x9) w) (BK Tryz.prog BinOp.eql 5 (Operand.tmp 4) (Operand.const (Value.int IntKind.u8 5)) a0 (Value.int IntKind.u8 5) w fun x10 w => sx fn_ Tryz.prog 32 dispatcherref02_Args_R0 (blkK 0 (seqK (sx fn_ Tryz.prog 32 dispatcherref02_Args_R1 (retK Tryz.prog [ResultVar.tmp 2, ResultVar.tmp 3] R)) (retK Tryz.prog [ResultVar.tmp 2, ResultVar.tmp 3] R))) (up (up (up (up (up (up (up (up (up (up (up (up (up (rho0 [a0]) 2 (Value.int IntKind.i64 0)) 3 (Value.int IntKind.i64 0)) 4 a0) 6 x6) 5 x6) 7 x7) 5 x7) 8 x8) 5 x8) 9 x9) 5 x9) 10 x10) 5 x10) w))))
theorem dispatcherref02_Args_eq (a0 : Value) (w : World) (R : Value → World → Prop) : sx fn_ Tryz.prog 32 dispatcherref02_Args_b (retK Tryz.prog Tryz.f109.results.toList R) (rho0 [a0]) w = dispatcherref02_Args_F a0 w R := by kernel_rfl
theorem dispatcherref02_Args_calls {a0 : Value} {w : World} {R : Value → World → Prop} (h : dispatcherref02_Args_F a0 w R) : Calls Tryz.prog 109 #[a0] w fun e w' => ∃ v, e = .returned v ∧ R v w' :=
  Go.X.calls_of_sx (n := 32) (c := dispatcherref02_Args_b) Tryz.func109 (by kernel_rfl) (by kernel_rfl) (Nat.le_of_ble_eq_true rfl) (by kernel_rfl) (Eq.mpr (dispatcherref02_Args_eq a0 w R) h)
/-- dispatcher/dispatcherref02.fields -/
noncomputable def dispatcherref02_fields_b : Code := (Tryz.f110.body).getD .skip
noncomputable def dispatcherref02_fields_F (a0 : Value) (w : World) (R : Value → World → Prop) : Prop :=
  VK Tryz.prog (Instr.box 62 a0) w fun x1 w => VK Tryz.prog (Instr.fieldAt 62 x1 0) w fun x5 w => VK Tryz.prog (Instr.loadAt 5 x5) w fun x6 w => BK Tryz.prog BinOp.eql 5 (Operand.tmp 6) (Operand.const (Value.int IntKind.u8 1)) x6 (Value.int IntKind.u8 1) w fun x7 w => VG Tryz.prog x7 false (Instr.fieldAt 62 x1 0) w fun x9 w => VG Tryz.prog x7 false (Instr.loadAt 5 x9) w fun x10 w => BG Tryz.prog x7 false BinOp.eql 5 (Operand.tmp 10) (Operand.const (Value.int IntKind.u8 2)) x10 (Value.int IntKind.u8 2) w fun x11 w => PK Tryz.prog x7 (Value.bool true) x11 w fun x12 w => VG Tryz.prog x12 false (Instr.fieldAt 62 x1 0) w fun x14 w => VG Tryz.prog x12 false (Instr.loadAt 5 x14) w fun x15 w => BG Tryz.prog x12 false BinOp.eql 5 (Operand.tmp 15) (Operand.const (Value.int IntKind.u8 5)) x15 (Value.int IntKind.u8 5) w fun x16 w => PK Tryz.prog x12 (Value.bool true) x16 w fun x17 w => VK Tryz.prog (Instr.fieldAt 62 x1 0) w fun x18 w => VK Tryz.prog (Instr.loadAt 5 x18) w fun x19 w => BK Tryz.prog BinOp.eql 5 (Operand.tmp 19) (Operand.const (Value.int IntKind.u8 3)) x19 (Value.int IntKind.u8 3) w fun x20 w => VG Tryz.prog x20 false (Instr.fieldAt 62 x1 0) w fun x22 w => VG Tryz.prog x20 false (Instr.loadAt 5 x22) w fun x23 w => BG Tryz.prog x20 false BinOp.eql 5 (Operand.tmp 23) (Operand.const (Value.int IntKind.u8 4)) x23 (Value.int IntKind.u8 4) w fun x24 w => PK Tryz.prog x20 (Value.bool true) x24 w fun x25 w => VG Tryz.prog x25 false (Instr.fieldAt 62 x1 0) w fun x27 w => VG Tryz.prog x25 false (Instr.loadAt 5 x27) w fun x28 w => BG Tryz.prog x25 false BinOp.eql 5 (Operand.tmp 28) (Operand.const (Value.int IntKind.u8 5)) x28 (Value.int IntKind.u8 5) w fun x29 w => PK Tryz.prog x25 (Value.bool true) x29 w fun x30 w => VG Tryz.prog x17 true (Instr.fieldAt 62 x1 3) w fun x33 w => VG Tryz.prog x17 true (Instr.loadAt 9 x33) w fun x34 w => CG Tryz.prog x17 true (Value.func (Fn.func 80) #[] #[]) [x34] w fun x35 w => VG Tryz.prog x17 true (Op.unary UnOp.not x35) w fun x36 w => PK Tryz.prog x17 x36 (Value.bool false) w fun x37 w => MG Tryz.prog x37 false x17 w fun x39 w => VG Tryz.prog x37 false (Op.unary UnOp.not x39) w fun x40 w => MG Tryz.prog x37 false x40 w fun x41 w => VG Tryz.prog x41 true (Instr.fieldAt 62 x1 3) w fun x42 w => VG Tryz.prog x41 true (Instr.loadAt 9 x42) w fun x43 w => BG Tryz.prog x41 true BinOp.neq 9 (Operand.tmp 43) (Operand.const (Value.string { data := #[] })) x43 (Value.string { data := #[] }) w fun x44 w => PG Tryz.prog x37 false x41 x44 (Value.bool false) w fun x45 w => PK Tryz.prog x37 (Value.bool true) x45 w fun x46 w => MG Tryz.prog x46 false x30 w fun x48 w => VG Tryz.prog x46 false (Op.unary UnOp.not x48) w fun x49 w => MG Tryz.prog x46 false x49 w fun x50 w => VG Tryz.prog x50 true (Instr.fieldAt 62 x1 6) w fun x51 w => VG Tryz.prog x50 true (Instr.loadAt 23 x51) w fun x52 w => IG Tryz.prog x50 true Builtin.len #[23] 3 [false] [x52] w fun x53 w => BG Tryz.prog x50 true BinOp.gtr 3 (Operand.tmp 53) (Operand.const (Value.int IntKind.i64 0)) x53 (Value.int IntKind.i64 0) w fun x54 w => PG Tryz.prog x46 false x50 x54 (Value.bool false) w fun x55 w => PK Tryz.prog x46 (Value.bool true) x55 w fun x56 w => VG Tryz.prog x56 false (Instr.fieldAt 62 x1 0) w fun x58 w => VG Tryz.prog x56 false (Instr.loadAt 5 x58) w fun x59 w => BG Tryz.prog x56 false BinOp.neq 5 (Operand.tmp 59) (Operand.const (Value.int IntKind.u8 3)) x59 (Value.int IntKind.u8 3) w fun x60 w => MG Tryz.prog x56 false x60 w fun x61 w => VG Tryz.prog x61 true (Instr.fieldAt 62 x1 7) w fun x62 w => VG Tryz.prog x61 true (Instr.loadAt 23 x62) w fun x63 w => IG Tryz.prog x61 true Builtin.len #[23] 3 [false] [x63] w fun x64 w => BG Tryz.prog x61 true BinOp.gtr 3 (Operand.tmp 64) (Operand.const (Value.int IntKind.i64 0)) x64 (Value.int IntKind.i64 0) w fun x65 w => PG Tryz.prog x56 false x61 x65 (Value.bool false) w fun x66 w => PK Tryz.prog x56 (Value.bool true) x66 w fun x67 w => CondK x67 (R (Value.bool false) w) (VK Tryz.prog (Instr.fieldAt 62 x1 0) w fun x68 w => VK Tryz.prog (Instr.loadAt 5 x68) w fun x69 w => BK Tryz.prog BinOp.neq 5 (Operand.tmp 69) (Operand.const (Value.int IntKind.u8 8)) x69 (Value.int IntKind.u8 8) w fun x70 w => VG Tryz.prog x70 true (Instr.fieldAt 62 x1 1) w fun x72 w => VG Tryz.prog x70 true (Instr.loadAt 5 x72) w fun x73 w => BG Tryz.prog x70 true BinOp.neq 5 (Operand.tmp 73) (Operand.const (Value.int IntKind.u8 0)) x73 (Value.int IntKind.u8 0) w fun x74 w => MG Tryz.prog x70 true x74 w fun x75 w => VG Tryz.prog x75 false (Instr.fieldAt 62 x1 2) w fun x76 w => VG Tryz.prog x75 false (Instr.loadAt 5 x76) w fun x77 w => BG Tryz.prog x75 false BinOp.neq 5 (Operand.tmp 77) (Operand.const (Value.int IntKind.u8 0)) x77 (Value.int IntKind.u8 0) w fun x78 w => PG Tryz.prog x70 true x75 (Value.bool true) x78 w fun x79 w => PK Tryz.prog x70 x79 (Value.bool false) w fun x80 w => VG Tryz.prog x80 false (Instr.fieldAt 62 x1 0) w fun x82 w => VG Tryz.prog x80 false (Instr.loadAt 5 x82) w fun x83 w => BG Tryz.prog x80 false BinOp.eql 5 (Operand.tmp 83) (Operand.const (Value.int IntKind.u8 8)) x83 (Value.int IntKind.u8 8) w fun x84 w => MG Tryz.prog x80 false x84 w fun x85 w => VG Tryz.prog x85 true (Instr.fieldAt 62 x1 2) w fun x86 w => VG Tryz.prog x85 true (Instr.loadAt 5 x86) w fun x87 w => BG Tryz.prog x85 true BinOp.gtr 5 (Operand.tmp 87) (Operand.const (Value.int IntKind.u8 0)) x87 (Value.int IntKind.u8 0) w fun x88 w => PG Tryz.prog x80 false x85 x88 (Value.bool false) w fun x89 w => MG Tryz.prog x80 false x89 w fun x90 w => VG Tryz.prog x90 true (Instr.fieldAt 62 x1 1) w fun x91 w => VG Tryz.prog x90 true (Instr.loadAt 5 x91) w fun x92 w => CG Tryz.prog x90 true (Value.func (Fn.func 115) #[] #[]) [x92] w fun x93 w => VG Tryz.prog x90 true (Op.unary UnOp.not x93) w fun x94 w => MG Tryz.prog x90 true x94 w fun x95 w => VG Tryz.prog x95 false (Instr.fieldAt 62 x1 2) w fun x96 w => VG Tryz.prog x95 false (Instr.loadAt 5 x96) w fun x97 w => BG Tryz.prog x95 false BinOp.gtr 5 (Operand.tmp 97) (Operand.const (Value.int IntKind.u8 2)) x97 (Value.int IntKind.u8 2) w fun x98 w => PG Tryz.prog x90 true x95 (Value.bool true) x98 w fun x99 w => PG Tryz.prog x80 false x90 x99 (Value.bool false) w fun x100 w => PK Tryz.prog x80 (Value.bool true) x100 w fun x101 w => CondK x101 (R (Value.bool false) w) (VK Tryz.prog (Instr.fieldAt 62 x1 4) w fun x102 w => VK Tryz.prog (Instr.loadAt 3 x102) w fun x103 w => BK Tryz.prog BinOp.eql 3 (Operand.tmp 103) (Operand.const (Value.int IntKind.i64 0)) x103 (Value.int IntKind.i64 0) w fun x104 w => VG Tryz.prog x104 false (Instr.fieldAt 62 x1 0) w fun x106 w => VG Tryz.prog x104 false (Instr.loadAt 5 x106) w fun x107 w => BG Tryz.prog x104 false BinOp.eql 5 (Operand.tmp 107) (Operand.const (Value.int IntKind.u8 5)) x107 (Value.int IntKind.u8 5) w fun x108 w => MG Tryz.prog x104 false x108 w fun x109 w => VG Tryz.prog x109 true (Instr.fieldAt 62 x1 4) w fun x110 w => VG Tryz.prog x109 true (Instr.loadAt 3 x110) w fun x111 w => BG Tryz.prog x109 true BinOp.gtr 3 (Operand.tmp 111) (Operand.const (Value.int IntKind.i64 0)) x111 (Value.int IntKind.i64 0) w fun x112 w => PG Tryz.prog x104 false x109 x112 (Value.bool false) w fun x113 w => MG Tryz.prog x104 false x113 w fun x114 w => VG Tryz.prog x114 true (Instr.fieldAt 62 x1 4) w fun x115 w => VG Tryz.prog x114 true (Instr.loadAt 3 x115) w fun x116 w => BG Tryz.prog x114 true BinOp.leq 3 (Operand.tmp 116) (Operand.const (Value.int IntKind.i64 1000)) x116 (Value.int IntKind.i64 1000) w fun x117 w => PG Tryz.prog x104 false x114 x117 (Value.bool false) w fun x118 w => PK Tryz.prog x104 (Value.bool true) x118 w fun x119 w => R x119 w))
theorem dispatcherref02_fields_eq (a0 : Value) (w : World) (R : Value → World → Prop) : sx fn_ Tryz.prog 120 dispatcherref02_fields_b (retK Tryz.prog Tryz.f110.results.toList R) (rho0 [a0]) w = dispatcherref02_fields_F a0 w R := by kernel_rfl
theorem dispatcherref02_fields_calls {a0 : Value} {w : World} {R : Value → World → Prop} (h : dispatcherref02_fields_F a0 w R) : Calls Tryz.prog 110 #[a0] w fun e w' => ∃ v, e = .returned v ∧ R v w' :=
  Go.X.calls_of_sx (n := 120) (c := dispatcherref02_fields_b) Tryz.func110 (by kernel_rfl) (by kernel_rfl) (Nat.le_of_ble_eq_true rfl) (by kernel_rfl) (Eq.mpr (dispatcherref02_fields_eq a0 w R) h)
/-- dispatcher/dispatcherref02.MayExpr -/
noncomputable def dispatcherref02_MayExpr_b : Code := (Tryz.f111.body).getD .skip
noncomputable def dispatcherref02_MayExpr_R0 : Code := cAt [1, 0, 0] dispatcherref02_MayExpr_b
noncomputable def dispatcherref02_MayExpr_R1 : Code := cAt [1, 0, 1] dispatcherref02_MayExpr_b
noncomputable def dispatcherref02_MayExpr_R2 : Code := cAt [1, 1] dispatcherref02_MayExpr_b
noncomputable def dispatcherref02_MayExpr_L3 : Code := cAt [1, 1, 0, 1, 0, 0] dispatcherref02_MayExpr_b
noncomputable def dispatcherref02_MayExpr_R4 : Code := cAt [1, 1, 1] dispatcherref02_MayExpr_b
noncomputable def dispatcherref02_MayExpr_R5 : Code := cAt [1, 1, 1, 1, 1, 0, 1, 0, 1] dispatcherref02_MayExpr_b
noncomputable def dispatcherref02_MayExpr_R6 : Code := cAt [1, 1, 1, 1, 1, 1] dispatcherref02_MayExpr_b
noncomputable def dispatcherref02_MayExpr_R0_ops : Array Oper := opsOf dispatcherref02_MayExpr_R0
def dispatcherref02_MayExpr_R0_Q (C : World → Prop) (K : Exit → Sl → World → Prop) (ρ : Sl) : Prop :=
  QK Tryz.prog C (do pure (Next.value (← Instr.fieldAt 85 (ρ 1) 0))) fun x4 => QK Tryz.prog C (do pure (Next.value (← Instr.loadAt 5 x4))) fun x5 => QK Tryz.prog C (do pure (Next.value (← (do eqGuard BinOp.lss 5 (Operand.tmp 5) (Operand.const (Value.int IntKind.u8 1)) x5 (Value.int IntKind.u8 1); binOp BinOp.lss 5 x5 (Value.int IntKind.u8 1))))) fun x6 => QG Tryz.prog C x6 false  (do pure (Next.value (← Instr.fieldAt 85 (ρ 1) 0))) fun x8 => QG Tryz.prog C x6 false  (do pure (Next.value (← Instr.loadAt 5 x8))) fun x9 => QG Tryz.prog C x6 false  (do pure (Next.value (← (do eqGuard BinOp.gtr 5 (Operand.tmp 9) (Operand.const (Value.int IntKind.u8 20)) x9 (Value.int IntKind.u8 20); binOp BinOp.gtr 5 x9 (Value.int IntKind.u8 20))))) fun x10 => QK Tryz.prog C (do pure (Next.value (if ← asBool x6 then (Value.bool true) else x10))) fun x11 => QG Tryz.prog C x11 false  (do pure (Next.value (← Instr.fieldAt 85 (ρ 1) 3))) fun x13 => QG Tryz.prog C x11 false  (do pure (Next.value (← Instr.loadAt 60 x13))) fun x14 => QG Tryz.prog C x11 false  (builtin Builtin.len #[60] 3 [false].toArray [x14].toArray) fun x15 => QG Tryz.prog C x11 false  (do pure (Next.value (← Instr.fieldAt 85 (ρ 1) 0))) fun x16 => QG Tryz.prog C x11 false  (do pure (Next.value (← Instr.loadAt 5 x16))) fun x17 => QG Tryz.prog C x11 false  (do let d ← Deferred.ofValue (Value.func (Fn.func 127) #[] #[]) [x17].toArray; invoke d.target d.args) fun x18 => QG Tryz.prog C x11 false  (do pure (Next.value (← (do eqGuard BinOp.neq 3 (Operand.tmp 15) (Operand.tmp 18) x15 x18; binOp BinOp.neq 3 x15 x18)))) fun x19 => QK Tryz.prog C (do pure (Next.value (if ← asBool x11 then (Value.bool true) else x19))) fun x20 => ∀ w', C w' → K Exit.normal (up (up (up (up (up (up (up (up (up (up (up (up (up (up (up (up (up ρ 4 x4) 5 x5) 6 x6) 7 x6) 8 x8) 9 x9) 10 x10) 11 x11) 12 x11) 13 x13) 14 x14) 15 x15) 16 x16) 17 x17) 18 x18) 19 x19) 20 x20) w'
theorem dispatcherref02_MayExpr_R0_quiet {D : List Deferred} (C : World → Prop) {K : Exit → Sl → World → Prop} {ρ : Sl} {w : World} (hC : C { w with drawn := w.drawn + 1 }) (h : dispatcherref02_MayExpr_R0_Q C K ρ) : W ⟨none, D⟩ Tryz.prog 70 dispatcherref02_MayExpr_R0 K ρ w := by
  have e : dispatcherref02_MayExpr_R0 = .region (idOf dispatcherref02_MayExpr_R0) dispatcherref02_MayExpr_R0_ops true := by kernel_rfl
  have q : sxq Tryz.prog C dispatcherref02_MayExpr_R0_ops (fun ρ' => ∀ w', C w' → K .normal ρ' w') dispatcherref02_MayExpr_R0_ops.toList ρ = dispatcherref02_MayExpr_R0_Q C K ρ := by kernel_rfl
  rw [e]
  exact W_quiet C (by kernel_rfl) (by kernel_rfl) (by kernel_rfl) hC (Eq.mpr q h)
noncomputable def dispatcherref02_MayExpr_R1_F (z : At) (K : Exit → Sl → World → Prop) (ρ : Sl) (w : World) : Prop :=
  CondK (ρ 20) (K Exit.ret (up ρ 2 (Value.bool false)) w) (K Exit.normal ρ w)
theorem dispatcherref02_MayExpr_R1_eq (z : At) (K : Exit → Sl → World → Prop) (ρ : Sl) (w : World) : sx z Tryz.prog 70 dispatcherref02_MayExpr_R1 K ρ w = dispatcherref02_MayExpr_R1_F z K ρ w := by kernel_rfl
noncomputable def dispatcherref02_MayExpr_R2_F (z : At) (K : Exit → Sl → World → Prop) (ρ : Sl) (w : World) : Prop :=
  W z Tryz.prog 70 (Code.loop dispatcherref02_MayExpr_L3) (blkK 0 (seqK (sx z Tryz.prog 70 dispatcherref02_MayExpr_R4 K) K)) (up ρ 3 (Value.int IntKind.i64 0)) w
theorem dispatcherref02_MayExpr_R2_eq (z : At) (K : Exit → Sl → World → Prop) (ρ : Sl) (w : World) : sx z Tryz.prog 70 dispatcherref02_MayExpr_R2 K ρ w = dispatcherref02_MayExpr_R2_F z K ρ w := by kernel_rfl
noncomputable def dispatcherref02_MayExpr_L3_F (z : At) (K : Exit → Sl → World → Prop) (ρ : Sl) (w : World) : Prop :=
  VK Tryz.prog (Instr.fieldAt 85 (ρ 1) 3) w fun x22 w => VK Tryz.prog (Instr.loadAt 60 x22) w fun x23 w => IK Tryz.prog Builtin.len #[60] 3 [false] [x23] w fun x24 w => BK Tryz.prog BinOp.lss 3 (Operand.tmp 21) (Operand.tmp 24) (ρ 3) x24 w fun x25 w => CondK x25 (VK Tryz.prog (Instr.fieldAt 85 (ρ 1) 3) w fun x28 w => VK Tryz.prog (Instr.loadAt 60 x28) w fun x29 w => VK Tryz.prog (Instr.indexAt 60 x29 (ρ 3)) w fun x31 w => VK Tryz.prog (Instr.loadAt 85 x31) w fun x32 w => CK Tryz.prog (Value.func (Fn.func 111) #[] #[]) [x32] w fun x33 w => VK Tryz.prog (Op.unary UnOp.not x33) w fun x34 w => CondK x34 (K Exit.ret (up (up (up (up (up (up (up (up (up (up (up (up (up ρ 21 (ρ 3)) 22 x22) 23 x23) 24 x24) 25 x25) 28 x28) 29 x29) 30 (ρ 3)) 31 x31) 32 x32) 33 x33) 34 x34) 2 (Value.bool false)) w) (BK Tryz.prog BinOp.add 3 (Operand.tmp 26) (Operand.const (Value.int IntKind.i64 1)) (ρ 3) (Value.int IntKind.i64 1) w fun x27 w => K Exit.normal (up (up (up (up (up (up (up (up (up (up (up (up (up (up (up ρ 21 (ρ 3)) 22 x22) 23 x23) 24 x24) 25 x25) 28 x28) 29 x29) 30 (ρ 3)) 31 x31) 32 x32) 33 x33) 34 x34) 26 (ρ 3)) 27 x27) 3 x27) w)) (K (Exit.exit 0) (up (up (up (up (up ρ 21 (ρ 3)) 22 x22) 23 x23) 24 x24) 25 x25) w)
theorem dispatcherref02_MayExpr_L3_eq (z : At) (K : Exit → Sl → World → Prop) (ρ : Sl) (w : World) : sx z Tryz.prog 70 dispatcherref02_MayExpr_L3 K ρ w = dispatcherref02_MayExpr_L3_F z K ρ w := by kernel_rfl
theorem dispatcherref02_MayExpr_L3_ok : dstOk 70 dispatcherref02_MayExpr_L3 = true := by kernel_rfl
noncomputable def dispatcherref02_MayExpr_R4_F (z : At) (K : Exit → Sl → World → Prop) (ρ : Sl) (w : World) : Prop :=
  VK Tryz.prog (Instr.fieldAt 85 (ρ 1) 0) w fun x35 w => VK Tryz.prog (Instr.loadAt 5 x35) w fun x36 w => BK Tryz.prog BinOp.eql 5 (Operand.tmp 36) (Operand.const (Value.int IntKind.u8 1)) x36 (Value.int IntKind.u8 1) w fun x37 w => CondK x37 (VK Tryz.prog (Instr.fieldAt 85 (ρ 1) 1) w fun x38 w => VK Tryz.prog (Instr.loadAt 2 x38) w fun x39 w => BK Tryz.prog BinOp.geq 2 (Operand.tmp 39) (Operand.const (Value.int IntKind.i64 0)) x39 (Value.int IntKind.i64 0) w fun x40 w => VG Tryz.prog x40 true (Instr.fieldAt 85 (ρ 1) 1) w fun x42 w => VG Tryz.prog x40 true (Instr.loadAt 2 x42) w fun x43 w => BG Tryz.prog x40 true BinOp.lss 2 (Operand.tmp 43) (Operand.const (Value.int IntKind.i64 1000000000000000000)) x43 (Value.int IntKind.i64 1000000000000000000) w fun x44 w => PK Tryz.prog x40 x44 (Value.bool false) w fun x45 w => VG Tryz.prog x45 true (Instr.fieldAt 85 (ρ 1) 2) w fun x47 w => VG Tryz.prog x45 true (Instr.loadAt 9 x47) w fun x48 w => BG Tryz.prog x45 true BinOp.eql 9 (Operand.tmp 48) (Operand.const (Value.string { data := #[] })) x48 (Value.string { data := #[] }) w fun x49 w => PK Tryz.prog x45 x49 (Value.bool false) w fun x50 w => K Exit.ret (up (up (up (up (up (up (up (up (up (up (up (up (up (up (up (up (up ρ 35 x35) 36 x36) 37 x37) 38 x38) 39 x39) 40 x40) 41 x40) 42 x42) 43 x43) 44 x44) 45 x45) 46 x45) 47 x47) 48 x48) 49 x49) 50 x50) 2 x50) w) (VK Tryz.prog (Instr.fieldAt 85 (ρ 1) 1) w fun x51 w => VK Tryz.prog (Instr.loadAt 2 x51) w fun x52 w => BK Tryz.prog BinOp.neq 2 (Operand.tmp 52) (Operand.const (Value.int IntKind.i64 0)) x52 (Value.int IntKind.i64 0) w fun x53 w => CondK x53 (K Exit.ret (up (up (up (up (up (up (up ρ 35 x35) 36 x36) 37 x37) 51 x51) 52 x52) 53 x53) 2 (Value.bool false)) w) (VK Tryz.prog (Instr.fieldAt 85 (ρ 1) 0) w fun x54 w => VK Tryz.prog (Instr.loadAt 5 x54) w fun x55 w => BK Tryz.prog BinOp.eql 5 (Operand.tmp 55) (Operand.const (Value.int IntKind.u8 2)) x55 (Value.int IntKind.u8 2) w fun x57 w => CondK x57 (sx z Tryz.prog 70 dispatcherref02_MayExpr_R5 (blkK 2 (seqK (sx z Tryz.prog 70 dispatcherref02_MayExpr_R6 K) K)) (up (up (up (up (up (up (up (up (up (up ρ 35 x35) 36 x36) 37 x37) 51 x51) 52 x52) 53 x53) 54 x54) 55 x55) 57 x57) 56 x57) w) (BK Tryz.prog BinOp.eql 5 (Operand.tmp 55) (Operand.const (Value.int IntKind.u8 3)) x55 (Value.int IntKind.u8 3) w fun x58 w => sx z Tryz.prog 70 dispatcherref02_MayExpr_R5 (blkK 2 (seqK (sx z Tryz.prog 70 dispatcherref02_MayExpr_R6 K) K)) (up (up (up (up (up (up (up (up (up (up (up (up ρ 35 x35) 36 x36) 37 x37) 51 x51) 52 x52) 53 x53) 54 x54) 55 x55) 57 x57) 56 x57) 58 x58) 56 x58) w)))
theorem dispatcherref02_MayExpr_R4_eq (z : At) (K : Exit → Sl → World → Prop) (ρ : Sl) (w : World) : sx z Tryz.prog 70 dispatcherref02_MayExpr_R4 K ρ w = dispatcherref02_MayExpr_R4_F z K ρ w := by kernel_rfl
noncomputable def dispatcherref02_MayExpr_R5_F (z : At) (K : Exit → Sl → World → Prop) (ρ : Sl) (w : World) : Prop :=
  CondK (ρ 56) (VK Tryz.prog (Instr.fieldAt 85 (ρ 1) 2) w fun x59 w => VK Tryz.prog (Instr.loadAt 9 x59) w fun x60 w => CK Tryz.prog (Value.func (Fn.func 80) #[] #[]) [x60] w fun x61 w => K Exit.ret (up (up (up (up ρ 59 x59) 60 x60) 61 x61) 2 x61) w) (BK Tryz.prog BinOp.eql 5 (Operand.tmp 55) (Operand.const (Value.int IntKind.u8 5)) (ρ 55) (Value.int IntKind.u8 5) w fun x63 w => CondK x63 (VK Tryz.prog (Instr.fieldAt 85 (ρ 1) 2) w fun x64 w => VK Tryz.prog (Instr.loadAt 9 x64) w fun x65 w => CK Tryz.prog (Value.func (Fn.func 128) #[] #[]) [x65] w fun x66 w => K Exit.ret (up (up (up (up (up (up ρ 63 x63) 62 x63) 64 x64) 65 x65) 66 x66) 2 x66) w) (K Exit.normal (up (up ρ 63 x63) 62 x63) w))
theorem dispatcherref02_MayExpr_R5_eq (z : At) (K : Exit → Sl → World → Prop) (ρ : Sl) (w : World) : sx z Tryz.prog 70 dispatcherref02_MayExpr_R5 K ρ w = dispatcherref02_MayExpr_R5_F z K ρ w := by kernel_rfl
noncomputable def dispatcherref02_MayExpr_R6_F (z : At) (K : Exit → Sl → World → Prop) (ρ : Sl) (w : World) : Prop :=
  VK Tryz.prog (Instr.fieldAt 85 (ρ 1) 2) w fun x67 w => VK Tryz.prog (Instr.loadAt 9 x67) w fun x68 w => BK Tryz.prog BinOp.eql 9 (Operand.tmp 68) (Operand.const (Value.string { data := #[] })) x68 (Value.string { data := #[] }) w fun x69 w => K Exit.ret (up (up (up (up ρ 67 x67) 68 x68) 69 x69) 2 x69) w
theorem dispatcherref02_MayExpr_R6_eq (z : At) (K : Exit → Sl → World → Prop) (ρ : Sl) (w : World) : sx z Tryz.prog 70 dispatcherref02_MayExpr_R6 K ρ w = dispatcherref02_MayExpr_R6_F z K ρ w := by kernel_rfl
noncomputable def dispatcherref02_MayExpr_F (a0 : Value) (w : World) (R : Value → World → Prop) : Prop :=
  VK Tryz.prog (Instr.box 85 a0) w fun x1 w => W fn_ Tryz.prog 70 dispatcherref02_MayExpr_R0 (seqK (sx fn_ Tryz.prog 70 dispatcherref02_MayExpr_R1 (seqK (sx fn_ Tryz.prog 70 dispatcherref02_MayExpr_R2 (retK Tryz.prog [ResultVar.tmp 2] R)) (retK Tryz.prog [ResultVar.tmp 2] R))) (seqK (sx fn_ Tryz.prog 70 dispatcherref02_MayExpr_R2 (retK Tryz.prog [ResultVar.tmp 2] R)) (retK Tryz.prog [ResultVar.tmp 2] R))) (up (up (rho0 [a0]) 1 x1) 2 (Value.bool false)) w
theorem dispatcherref02_MayExpr_eq (a0 : Value) (w : World) (R : Value → World → Prop) : sx fn_ Tryz.prog 70 dispatcherref02_MayExpr_b (retK Tryz.prog Tryz.f111.results.toList R) (rho0 [a0]) w = dispatcherref02_MayExpr_F a0 w R := by kernel_rfl
theorem dispatcherref02_MayExpr_calls {a0 : Value} {w : World} {R : Value → World → Prop} (h : dispatcherref02_MayExpr_F a0 w R) : Calls Tryz.prog 111 #[a0] w fun e w' => ∃ v, e = .returned v ∧ R v w' :=
  Go.X.calls_of_sx (n := 70) (c := dispatcherref02_MayExpr_b) Tryz.func111 (by kernel_rfl) (by kernel_rfl) (Nat.le_of_ble_eq_true rfl) (by kernel_rfl) (Eq.mpr (dispatcherref02_MayExpr_eq a0 w R) h)
/-- dispatcher/scan.digit -/
noncomputable def scan_digit_b : Code := (Tryz.f118.body).getD .skip
noncomputable def scan_digit_F (a0 : Value) (w : World) (R : Value → World → Prop) : Prop :=
  BK Tryz.prog BinOp.geq 21 (Operand.tmp 3) (Operand.const (Value.int IntKind.i32 48)) a0 (Value.int IntKind.i32 48) w fun x4 w => MG Tryz.prog x4 true a0 w fun x6 w => BG Tryz.prog x4 true BinOp.leq 21 (Operand.tmp 6) (Operand.const (Value.int IntKind.i32 57)) x6 (Value.int IntKind.i32 57) w fun x7 w => PK Tryz.prog x4 x7 (Value.bool false) w fun x8 w => R x8 w
theorem scan_digit_eq (a0 : Value) (w : World) (R : Value → World → Prop) : sx fn_ Tryz.prog 9 scan_digit_b (retK Tryz.prog Tryz.f118.results.toList R) (rho0 [a0]) w = scan_digit_F a0 w R := by kernel_rfl
theorem scan_digit_calls {a0 : Value} {w : World} {R : Value → World → Prop} (h : scan_digit_F a0 w R) : Calls Tryz.prog 118 #[a0] w fun e w' => ∃ v, e = .returned v ∧ R v w' :=
  Go.X.calls_of_sx (n := 9) (c := scan_digit_b) Tryz.func118 (by kernel_rfl) (by kernel_rfl) (Nat.le_of_ble_eq_true rfl) (by kernel_rfl) (Eq.mpr (scan_digit_eq a0 w R) h)
/-- slices.Contains[[]string,string] -/
noncomputable def slices_Contains_string_string_b : Code := (Tryz.f119.body).getD .skip
noncomputable def slices_Contains_string_string_F (a0 a1 : Value) (w : World) (R : Value → World → Prop) : Prop :=
  CK Tryz.prog (Value.func (Fn.func 130) #[] #[]) [a0, a1] w fun x7 w => BK Tryz.prog BinOp.geq 3 (Operand.tmp 7) (Operand.const (Value.int IntKind.i64 0)) x7 (Value.int IntKind.i64 0) w fun x8 w => R x8 w
theorem slices_Contains_string_string_eq (a0 a1 : Value) (w : World) (R : Value → World → Prop) : sx fn_ Tryz.prog 9 slices_Contains_string_string_b (retK Tryz.prog Tryz.f119.results.toList R) (rho0 [a0, a1]) w = slices_Contains_string_string_F a0 a1 w R := by kernel_rfl
theorem slices_Contains_string_string_calls {a0 a1 : Value} {w : World} {R : Value → World → Prop} (h : slices_Contains_string_string_F a0 a1 w R) : Calls Tryz.prog 119 #[a0, a1] w fun e w' => ∃ v, e = .returned v ∧ R v w' :=
  Go.X.calls_of_sx (n := 9) (c := slices_Contains_string_string_b) Tryz.func119 (by kernel_rfl) (by kernel_rfl) (Nat.le_of_ble_eq_true rfl) (by kernel_rfl) (Eq.mpr (slices_Contains_string_string_eq a0 a1 w R) h)
/-- dispatcher/tree.deepExpr -/
noncomputable def tree_deepExpr_b : Code := (Tryz.f120.body).getD .skip
noncomputable def tree_deepExpr_L0 : Code := cAt [1, 1, 0, 1, 0, 0] tree_deepExpr_b
noncomputable def tree_deepExpr_R1 : Code := cAt [1, 1, 1] tree_deepExpr_b
noncomputable def tree_deepExpr_L0_F (z : At) (K : Exit → Sl → World → Prop) (ρ : Sl) (w : World) : Prop :=
  BK Tryz.prog BinOp.lss 3 (Operand.tmp 9) (Operand.tmp 8) (ρ 9) (ρ 8) w fun x10 w => CondK x10 (VK Tryz.prog (Instr.indexAt 60 (ρ 7) (ρ 9)) w fun x11 w => VK Tryz.prog (Instr.loadAt 85 x11) w fun x12 w => VK Tryz.prog (Instr.alloc 85 true (.tuple #[])) w fun x5 w => UK Tryz.prog (Instr.storeAt 85 x5 x12) w fun _ w => VK Tryz.prog (Instr.loadAt 85 x5) w fun x14 w => CK Tryz.prog (Value.func (Fn.func 120) #[] #[]) [x14] w fun x15 w => IK Tryz.prog Builtin.max #[3, 3] 3 [false, false] [(ρ 3), x15] w fun x16 w => BK Tryz.prog BinOp.add 3 (Operand.tmp 9) (Operand.const (Value.int IntKind.i64 1)) (ρ 9) (Value.int IntKind.i64 1) w fun x17 w => K Exit.normal (up (up (up (up (up (up (up (up (up (up (up ρ 10 x10) 11 x11) 12 x12) 5 x5) 13 (ρ 3)) 14 x14) 15 x15) 16 x16) 3 x16) 17 x17) 9 x17) w) (K (Exit.exit 0) (up ρ 10 x10) w)
theorem tree_deepExpr_L0_eq (z : At) (K : Exit → Sl → World → Prop) (ρ : Sl) (w : World) : sx z Tryz.prog 20 tree_deepExpr_L0 K ρ w = tree_deepExpr_L0_F z K ρ w := by kernel_rfl
theorem tree_deepExpr_L0_ok : dstOk 20 tree_deepExpr_L0 = true := by kernel_rfl
noncomputable def tree_deepExpr_R1_F (z : At) (K : Exit → Sl → World → Prop) (ρ : Sl) (w : World) : Prop :=
  BK Tryz.prog BinOp.add 3 (Operand.tmp 18) (Operand.const (Value.int IntKind.i64 1)) (ρ 3) (Value.int IntKind.i64 1) w fun x19 w => K Exit.ret (up (up (up ρ 18 (ρ 3)) 19 x19) 2 x19) w
theorem tree_deepExpr_R1_eq (z : At) (K : Exit → Sl → World → Prop) (ρ : Sl) (w : World) : sx z Tryz.prog 20 tree_deepExpr_R1 K ρ w = tree_deepExpr_R1_F z K ρ w := by kernel_rfl
noncomputable def tree_deepExpr_F (a0 : Value) (w : World) (R : Value → World → Prop) : Prop :=
  VK Tryz.prog (Instr.box 85 a0) w fun x1 w => VK Tryz.prog (Instr.fieldAt 85 x1 3) w fun x6 w => VK Tryz.prog (Instr.loadAt 60 x6) w fun x7 w => IK Tryz.prog Builtin.len #[60] 3 [false] [x7] w fun x8 w => W fn_ Tryz.prog 20 (Code.loop tree_deepExpr_L0) (blkK 0 (seqK (sx fn_ Tryz.prog 20 tree_deepExpr_R1 (retK Tryz.prog [ResultVar.tmp 2] R)) (retK Tryz.prog [ResultVar.tmp 2] R))) (up (up (up (up (up (up (up (rho0 [a0]) 1 x1) 2 (Value.int IntKind.i64 0)) 3 (Value.int IntKind.i64 0)) 6 x6) 7 x7) 8 x8) 9 (Value.int IntKind.i64 0)) w
theorem tree_deepExpr_eq (a0 : Value) (w : World) (R : Value → World → Prop) : sx fn_ Tryz.prog 20 tree_deepExpr_b (retK Tryz.prog Tryz.f120.results.toList R) (rho0 [a0]) w = tree_deepExpr_F a0 w R := by kernel_rfl
theorem tree_deepExpr_calls {a0 : Value} {w : World} {R : Value → World → Prop} (h : tree_deepExpr_F a0 w R) : Calls Tryz.prog 120 #[a0] w fun e w' => ∃ v, e = .returned v ∧ R v w' :=
  Go.X.calls_of_sx (n := 20) (c := tree_deepExpr_b) Tryz.func120 (by kernel_rfl) (by kernel_rfl) (Nat.le_of_ble_eq_true rfl) (by kernel_rfl) (Eq.mpr (tree_deepExpr_eq a0 w R) h)
/-- slices.IndexFunc[[]dispatcher/tree.Stmt,dispatcher/tree.Stmt] -/
noncomputable def slices_IndexFunc_tree_Stmt_tree_Stmt_b : Code := (Tryz.f107.body).getD .skip
noncomputable def slices_IndexFunc_tree_Stmt_tree_Stmt_L0 : Code := cAt [1, 0, 1, 0, 0] slices_IndexFunc_tree_Stmt_tree_Stmt_b
noncomputable def slices_IndexFunc_tree_Stmt_tree_Stmt_R1 : Code := cAt [1, 1] slices_IndexFunc_tree_Stmt_tree_Stmt_b
noncomputable def slices_IndexFunc_tree_Stmt_tree_Stmt_L0_F (z : At) (K : Exit → Sl → World → Prop) (ρ : Sl) (w : World) : Prop :=
  BK Tryz.prog BinOp.lss 3 (Operand.tmp 8) (Operand.tmp 7) (ρ 8) (ρ 7) w fun x9 w => CondK x9 (VK Tryz.prog (Instr.indexAt 23 (ρ 0) (ρ 8)) w fun x14 w => VK Tryz.prog (Instr.loadAt 62 x14) w fun x15 w => CK Tryz.prog (ρ 1) [x15] w fun x16 w => CondK x16 (K Exit.ret (up (up (up (up (up (up (up (up (up (up (up ρ 9 x9) 10 (ρ 8)) 5 (ρ 8)) 11 (ρ 1)) 12 (ρ 0)) 13 (ρ 8)) 14 x14) 15 x15) 16 x16) 17 (ρ 8)) 4 (ρ 8)) w) (BK Tryz.prog BinOp.add 3 (Operand.tmp 8) (Operand.const (Value.int IntKind.i64 1)) (ρ 8) (Value.int IntKind.i64 1) w fun x18 w => K Exit.normal (up (up (up (up (up (up (up (up (up (up (up ρ 9 x9) 10 (ρ 8)) 5 (ρ 8)) 11 (ρ 1)) 12 (ρ 0)) 13 (ρ 8)) 14 x14) 15 x15) 16 x16) 18 x18) 8 x18) w)) (K (Exit.exit 0) (up ρ 9 x9) w)
theorem slices_IndexFunc_tree_Stmt_tree_Stmt_L0_eq (z : At) (K : Exit → Sl → World → Prop) (ρ : Sl) (w : World) : sx z Tryz.prog 19 slices_IndexFunc_tree_Stmt_tree_Stmt_L0 K ρ w = slices_IndexFunc_tree_Stmt_tree_Stmt_L0_F z K ρ w := by kernel_rfl
theorem slices_IndexFunc_tree_Stmt_tree_Stmt_L0_ok : dstOk 19 slices_IndexFunc_tree_Stmt_tree_Stmt_L0 = true := by kernel_rfl
noncomputable def slices_IndexFunc_tree_Stmt_tree_Stmt_R1_F (z : At) (K : Exit → Sl → World → Prop) (ρ : Sl) (w : World) : Prop :=
  K Exit.ret (up ρ 4 (Value.int IntKind.i64 (-1))) w
theorem slices_IndexFunc_tree_Stmt_tree_Stmt_R1_eq (z : At) (K : Exit → Sl → World → Prop) (ρ : Sl) (w : World) : sx z Tryz.prog 19 slices_IndexFunc_tree_Stmt_tree_Stmt_R1 K ρ w = slices_IndexFunc_tree_Stmt_tree_Stmt_R1_F z K ρ w := by kernel_rfl
noncomputable def slices_IndexFunc_tree_Stmt_tree_Stmt_F (a0 a1 : Value) (w : World) (R : Value → World → Prop) : Prop :=
  IK Tryz.prog Builtin.len #[23] 3 [false] [a0] w fun x7 w => W fn_ Tryz.prog 19 (Code.loop slices_IndexFunc_tree_Stmt_tree_Stmt_L0) (blkK 0 (seqK (sx fn_ Tryz.prog 19 slices_IndexFunc_tree_Stmt_tree_Stmt_R1 (retK Tryz.prog [ResultVar.tmp 4] R)) (retK Tryz.prog [ResultVar.tmp 4] R))) (up (up (up (up (rho0 [a0, a1]) 4 (Value.int IntKind.i64 0)) 6 a0) 7 x7) 8 (Value.int IntKind.i64 0)) w
theorem slices_IndexFunc_tree_Stmt_tree_Stmt_eq (a0 a1 : Value) (w : World) (R : Value → World → Prop) : sx fn_ Tryz.prog 19 slices_IndexFunc_tree_Stmt_tree_Stmt_b (retK Tryz.prog Tryz.f107.results.toList R) (rho0 [a0, a1]) w = slices_IndexFunc_tree_Stmt_tree_Stmt_F a0 a1 w R := by kernel_rfl
theorem slices_IndexFunc_tree_Stmt_tree_Stmt_calls {a0 a1 : Value} {w : World} {R : Value → World → Prop} (h : slices_IndexFunc_tree_Stmt_tree_Stmt_F a0 a1 w R) : Calls Tryz.prog 107 #[a0, a1] w fun e w' => ∃ v, e = .returned v ∧ R v w' :=
  Go.X.calls_of_sx (n := 19) (c := slices_IndexFunc_tree_Stmt_tree_Stmt_b) Tryz.func107 (by kernel_rfl) (by kernel_rfl) (Nat.le_of_ble_eq_true rfl) (by kernel_rfl) (Eq.mpr (slices_IndexFunc_tree_Stmt_tree_Stmt_eq a0 a1 w R) h)
/-- dispatcher/tree.Args -/
noncomputable def tree_Args_b : Code := (Tryz.f121.body).getD .skip
noncomputable def tree_Args_F (a0 : Value) (w : World) (R : Value → World → Prop) : Prop :=
  BK Tryz.prog BinOp.lss 5 (Operand.tmp 5) (Operand.const (Value.int IntKind.u8 1)) a0 (Value.int IntKind.u8 1) w fun x6 w => MG Tryz.prog x6 false a0 w fun x8 w => VG Tryz.prog x6 false (convert 5 3 x8) w fun x9 w => BG Tryz.prog x6 false BinOp.gtr 3 (Operand.tmp 9) (Operand.const (Value.int IntKind.i64 22)) x9 (Value.int IntKind.i64 22) w fun x10 w => PK Tryz.prog x6 (Value.bool true) x10 w fun x11 w => CondK x11 (R (Value.tuple #[(Value.int IntKind.i64 0), (Value.int IntKind.i64 0)]) w) (BK Tryz.prog BinOp.sub 5 (Operand.tmp 12) (Operand.const (Value.int IntKind.u8 1)) a0 (Value.int IntKind.u8 1) w fun x13 w => VK Tryz.prog (Instr.indexAt 149 (Value.pointer (some ⟨1, 0, none⟩)) x13) w fun x14 w => VK Tryz.prog (Instr.loadAt 3 x14) w fun x15 w => BK Tryz.prog BinOp.geq 3 (Operand.tmp 16) (Operand.const (Value.int IntKind.i64 0)) x15 (Value.int IntKind.i64 0) w fun x17 w => CondK x17 (R (Value.tuple #[x15, x15]) w) (R (Value.tuple #[(Value.int IntKind.i64 1), (Value.int IntKind.i64 8)]) w))
theorem tree_Args_eq (a0 : Value) (w : World) (R : Value → World → Prop) : sx fn_ Tryz.prog 20 tree_Args_b (retK Tryz.prog Tryz.f121.results.toList R) (rho0 [a0]) w = tree_Args_F a0 w R := by kernel_rfl
theorem tree_Args_calls {a0 : Value} {w : World} {R : Value → World → Prop} (h : tree_Args_F a0 w R) : Calls Tryz.prog 121 #[a0] w fun e w' => ∃ v, e = .returned v ∧ R v w' :=
  Go.X.calls_of_sx (n := 20) (c := tree_Args_b) Tryz.func121 (by kernel_rfl) (by kernel_rfl) (Nat.le_of_ble_eq_true rfl) (by kernel_rfl) (Eq.mpr (tree_Args_eq a0 w R) h)
/-- slices.ContainsFunc[[]dispatcher/tree.Expr,dispatcher/tree.Expr] -/
noncomputable def slices_ContainsFunc_tree_Expr_tree_Expr_b : Code := (Tryz.f122.body).getD .skip
noncomputable def slices_ContainsFunc_tree_Expr_tree_Expr_F (a0 a1 : Value) (w : World) (R : Value → World → Prop) : Prop :=
  CK Tryz.prog (Value.func (Fn.func 131) #[] #[]) [a0, a1] w fun x7 w => BK Tryz.prog BinOp.geq 3 (Operand.tmp 7) (Operand.const (Value.int IntKind.i64 0)) x7 (Value.int IntKind.i64 0) w fun x8 w => R x8 w
theorem slices_ContainsFunc_tree_Expr_tree_Expr_eq (a0 a1 : Value) (w : World) (R : Value → World → Prop) : sx fn_ Tryz.prog 9 slices_ContainsFunc_tree_Expr_tree_Expr_b (retK Tryz.prog Tryz.f122.results.toList R) (rho0 [a0, a1]) w = slices_ContainsFunc_tree_Expr_tree_Expr_F a0 a1 w R := by kernel_rfl
theorem slices_ContainsFunc_tree_Expr_tree_Expr_calls {a0 a1 : Value} {w : World} {R : Value → World → Prop} (h : slices_ContainsFunc_tree_Expr_tree_Expr_F a0 a1 w R) : Calls Tryz.prog 122 #[a0, a1] w fun e w' => ∃ v, e = .returned v ∧ R v w' :=
  Go.X.calls_of_sx (n := 9) (c := slices_ContainsFunc_tree_Expr_tree_Expr_b) Tryz.func122 (by kernel_rfl) (by kernel_rfl) (Nat.le_of_ble_eq_true rfl) (by kernel_rfl) (Eq.mpr (slices_ContainsFunc_tree_Expr_tree_Expr_eq a0 a1 w R) h)
/-- dispatcher/tree.mayStmt$1 -/
noncomputable def tree_mayStmt_1_b : Code := (Tryz.f123.body).getD .skip
noncomputable def tree_mayStmt_1_F (a0 : Value) (w : World) (R : Value → World → Prop) : Prop :=
  VK Tryz.prog (Instr.box 85 a0) w fun x1 w => VK Tryz.prog (Instr.loadAt 85 x1) w fun x3 w => CK Tryz.prog (Value.func (Fn.func 124) #[] #[]) [x3] w fun x4 w => VK Tryz.prog (Op.unary UnOp.not x4) w fun x5 w => R x5 w
theorem tree_mayStmt_1_eq (a0 : Value) (w : World) (R : Value → World → Prop) : sx fn_ Tryz.prog 6 tree_mayStmt_1_b (retK Tryz.prog Tryz.f123.results.toList R) (rho0 [a0]) w = tree_mayStmt_1_F a0 w R := by kernel_rfl
theorem tree_mayStmt_1_calls {a0 : Value} {w : World} {R : Value → World → Prop} (h : tree_mayStmt_1_F a0 w R) : Calls Tryz.prog 123 #[a0] w fun e w' => ∃ v, e = .returned v ∧ R v w' :=
  Go.X.calls_of_sx (n := 6) (c := tree_mayStmt_1_b) Tryz.func123 (by kernel_rfl) (by kernel_rfl) (Nat.le_of_ble_eq_true rfl) (by kernel_rfl) (Eq.mpr (tree_mayStmt_1_eq a0 w R) h)
/-- dispatcher/tree.mayExpr -/
noncomputable def tree_mayExpr_b : Code := (Tryz.f124.body).getD .skip
noncomputable def tree_mayExpr_R0 : Code := cAt [1, 1, 0] tree_mayExpr_b
noncomputable def tree_mayExpr_R1 : Code := cAt [1, 1, 1] tree_mayExpr_b
noncomputable def tree_mayExpr_R2 : Code := cAt [1, 1, 1, 1] tree_mayExpr_b
noncomputable def tree_mayExpr_R3 : Code := cAt [1, 1, 1, 0, 1, 0, 1, 1, 1] tree_mayExpr_b
noncomputable def tree_mayExpr_R4 : Code := cAt [1, 1, 1, 0, 1, 0, 1, 1, 1, 1, 1, 0, 1] tree_mayExpr_b
noncomputable def tree_mayExpr_R0_ops : Array Oper := opsOf tree_mayExpr_R0
def tree_mayExpr_R0_Q (C : World → Prop) (K : Exit → Sl → World → Prop) (ρ : Sl) : Prop :=
  QK Tryz.prog C (do pure (Next.value (← Instr.fieldAt 85 (ρ 1) 0))) fun x8 => QK Tryz.prog C (do pure (Next.value (← Instr.loadAt 5 x8))) fun x9 => QK Tryz.prog C (do pure (Next.value (← (do eqGuard BinOp.geq 5 (Operand.tmp 9) (Operand.const (Value.int IntKind.u8 1)) x9 (Value.int IntKind.u8 1); binOp BinOp.geq 5 x9 (Value.int IntKind.u8 1))))) fun x10 => QG Tryz.prog C x10 true  (do pure (Next.value (← Instr.fieldAt 85 (ρ 1) 0))) fun x12 => QG Tryz.prog C x10 true  (do pure (Next.value (← Instr.loadAt 5 x12))) fun x13 => QG Tryz.prog C x10 true  (do pure (Next.value (← (do eqGuard BinOp.leq 5 (Operand.tmp 13) (Operand.const (Value.int IntKind.u8 20)) x13 (Value.int IntKind.u8 20); binOp BinOp.leq 5 x13 (Value.int IntKind.u8 20))))) fun x14 => QK Tryz.prog C (do pure (Next.value (if ← asBool x10 then x14 else (Value.bool false)))) fun x15 => QG Tryz.prog C x15 true  (do pure (Next.value (← Instr.fieldAt 85 (ρ 1) 3))) fun x17 => QG Tryz.prog C x15 true  (do pure (Next.value (← Instr.loadAt 60 x17))) fun x18 => QG Tryz.prog C x15 true  (builtin Builtin.len #[60] 3 [false].toArray [x18].toArray) fun x19 => QG Tryz.prog C x15 true  (do pure (Next.value (← Instr.fieldAt 85 (ρ 1) 0))) fun x20 => QG Tryz.prog C x15 true  (do pure (Next.value (← Instr.loadAt 5 x20))) fun x21 => QG Tryz.prog C x15 true  (do let d ← Deferred.ofValue (Value.func (Fn.func 132) #[] #[]) [x21].toArray; invoke d.target d.args) fun x22 => QG Tryz.prog C x15 true  (do pure (Next.value (← (do eqGuard BinOp.eql 3 (Operand.tmp 19) (Operand.tmp 22) x19 x22; binOp BinOp.eql 3 x19 x22)))) fun x23 => QK Tryz.prog C (do pure (Next.value (if ← asBool x15 then x23 else (Value.bool false)))) fun x24 => ∀ w', C w' → K Exit.normal (up (up (up (up (up (up (up (up (up (up (up (up (up (up (up (up (up (up ρ 8 x8) 9 x9) 10 x10) 11 x10) 12 x12) 13 x13) 14 x14) 15 x15) 16 x15) 17 x17) 18 x18) 19 x19) 20 x20) 21 x21) 22 x22) 23 x23) 24 x24) 4 x24) w'
theorem tree_mayExpr_R0_quiet {D : List Deferred} (C : World → Prop) {K : Exit → Sl → World → Prop} {ρ : Sl} {w : World} (hC : C { w with drawn := w.drawn + 1 }) (h : tree_mayExpr_R0_Q C K ρ) : W ⟨none, D⟩ Tryz.prog 88 tree_mayExpr_R0 K ρ w := by
  have e : tree_mayExpr_R0 = .region (idOf tree_mayExpr_R0) tree_mayExpr_R0_ops true := by kernel_rfl
  have q : sxq Tryz.prog C tree_mayExpr_R0_ops (fun ρ' => ∀ w', C w' → K .normal ρ' w') tree_mayExpr_R0_ops.toList ρ = tree_mayExpr_R0_Q C K ρ := by kernel_rfl
  rw [e]
  exact W_quiet C (by kernel_rfl) (by kernel_rfl) (by kernel_rfl) hC (Eq.mpr q h)
noncomputable def tree_mayExpr_R1_F (z : At) (K : Exit → Sl → World → Prop) (ρ : Sl) (w : World) : Prop :=
  VK Tryz.prog (Instr.fieldAt 85 (ρ 1) 0) w fun x25 w => VK Tryz.prog (Instr.loadAt 5 x25) w fun x26 w => BK Tryz.prog BinOp.eql 5 (Operand.tmp 26) (Operand.const (Value.int IntKind.u8 1)) x26 (Value.int IntKind.u8 1) w fun x28 w => CondK x28 (VK Tryz.prog (Instr.fieldAt 85 (ρ 1) 1) w fun x29 w => VK Tryz.prog (Instr.loadAt 2 x29) w fun x30 w => VK Tryz.prog (Instr.fieldAt 85 (ρ 3) 1) w fun x31 w => UK Tryz.prog (Instr.storeAt 2 x31 x30) w fun _ w => VG Tryz.prog (ρ 4) true (Instr.fieldAt 85 (ρ 1) 1) w fun x34 w => VG Tryz.prog (ρ 4) true (Instr.loadAt 2 x34) w fun x35 w => BG Tryz.prog (ρ 4) true BinOp.geq 2 (Operand.tmp 35) (Operand.const (Value.int IntKind.i64 0)) x35 (Value.int IntKind.i64 0) w fun x36 w => PK Tryz.prog (ρ 4) x36 (Value.bool false) w fun x37 w => VG Tryz.prog x37 true (Instr.fieldAt 85 (ρ 1) 1) w fun x39 w => VG Tryz.prog x37 true (Instr.loadAt 2 x39) w fun x40 w => BG Tryz.prog x37 true BinOp.lss 2 (Operand.tmp 40) (Operand.const (Value.int IntKind.i64 1000000000000000000)) x40 (Value.int IntKind.i64 1000000000000000000) w fun x41 w => PK Tryz.prog x37 x41 (Value.bool false) w fun x42 w => sx z Tryz.prog 88 tree_mayExpr_R2 K (up (up (up (up (up (up (up (up (up (up (up (up (up (up (up (up (up (up (up ρ 25 x25) 26 x26) 28 x28) 27 x28) 29 x29) 30 x30) 31 x31) 32 (ρ 4)) 33 (ρ 4)) 34 x34) 35 x35) 36 x36) 37 x37) 38 x37) 39 x39) 40 x40) 41 x41) 42 x42) 4 x42) w) (BK Tryz.prog BinOp.eql 5 (Operand.tmp 26) (Operand.const (Value.int IntKind.u8 2)) x26 (Value.int IntKind.u8 2) w fun x44 w => CondK x44 (sx z Tryz.prog 88 tree_mayExpr_R3 (blkK 0 (seqK (sx z Tryz.prog 88 tree_mayExpr_R2 K) K)) (up (up (up (up (up (up ρ 25 x25) 26 x26) 28 x28) 27 x28) 44 x44) 43 x44) w) (BK Tryz.prog BinOp.eql 5 (Operand.tmp 26) (Operand.const (Value.int IntKind.u8 3)) x26 (Value.int IntKind.u8 3) w fun x45 w => sx z Tryz.prog 88 tree_mayExpr_R3 (blkK 0 (seqK (sx z Tryz.prog 88 tree_mayExpr_R2 K) K)) (up (up (up (up (up (up (up (up ρ 25 x25) 26 x26) 28 x28) 27 x28) 44 x44) 43 x44) 45 x45) 43 x45) w))
theorem tree_mayExpr_R1_eq (z : At) (K : Exit → Sl → World → Prop) (ρ : Sl) (w : World) : sx z Tryz.prog 88 tree_mayExpr_R1 K ρ w = tree_mayExpr_R1_F z K ρ w := by kernel_rfl
noncomputable def tree_mayExpr_R2_F (z : At) (K : Exit → Sl → World → Prop) (ρ : Sl) (w : World) : Prop :=
  VG Tryz.prog (ρ 4) true (Instr.fieldAt 85 (ρ 3) 1) w fun x69 w => VG Tryz.prog (ρ 4) true (Instr.loadAt 2 x69) w fun x70 w => VG Tryz.prog (ρ 4) true (Instr.fieldAt 85 (ρ 1) 1) w fun x71 w => VG Tryz.prog (ρ 4) true (Instr.loadAt 2 x71) w fun x72 w => BG Tryz.prog (ρ 4) true BinOp.eql 2 (Operand.tmp 70) (Operand.tmp 72) x70 x72 w fun x73 w => PK Tryz.prog (ρ 4) x73 (Value.bool false) w fun x74 w => VG Tryz.prog x74 true (Instr.fieldAt 85 (ρ 3) 2) w fun x76 w => VG Tryz.prog x74 true (Instr.loadAt 9 x76) w fun x77 w => VG Tryz.prog x74 true (Instr.fieldAt 85 (ρ 1) 2) w fun x78 w => VG Tryz.prog x74 true (Instr.loadAt 9 x78) w fun x79 w => BG Tryz.prog x74 true BinOp.eql 9 (Operand.tmp 77) (Operand.tmp 79) x77 x79 w fun x80 w => PK Tryz.prog x74 x80 (Value.bool false) w fun x81 w => VG Tryz.prog x81 true (Instr.fieldAt 85 (ρ 1) 3) w fun x83 w => VG Tryz.prog x81 true (Instr.loadAt 60 x83) w fun x84 w => CG Tryz.prog x81 true (Value.func (Fn.func 122) #[] #[]) [x84, (Value.func (Fn.func 133) #[] #[])] w fun x85 w => VG Tryz.prog x81 true (Op.unary UnOp.not x85) w fun x86 w => PK Tryz.prog x81 x86 (Value.bool false) w fun x87 w => K Exit.ret (up (up (up (up (up (up (up (up (up (up (up (up (up (up (up (up (up (up (up (up (up (up ρ 67 (ρ 4)) 68 (ρ 4)) 69 x69) 70 x70) 71 x71) 72 x72) 73 x73) 74 x74) 75 x74) 76 x76) 77 x77) 78 x78) 79 x79) 80 x80) 81 x81) 82 x81) 83 x83) 84 x84) 85 x85) 86 x86) 87 x87) 2 x87) w
theorem tree_mayExpr_R2_eq (z : At) (K : Exit → Sl → World → Prop) (ρ : Sl) (w : World) : sx z Tryz.prog 88 tree_mayExpr_R2 K ρ w = tree_mayExpr_R2_F z K ρ w := by kernel_rfl
noncomputable def tree_mayExpr_R3_F (z : At) (K : Exit → Sl → World → Prop) (ρ : Sl) (w : World) : Prop :=
  CondK (ρ 43) (VK Tryz.prog (Instr.fieldAt 85 (ρ 1) 2) w fun x46 w => VK Tryz.prog (Instr.loadAt 9 x46) w fun x47 w => VK Tryz.prog (Instr.fieldAt 85 (ρ 3) 2) w fun x48 w => UK Tryz.prog (Instr.storeAt 9 x48 x47) w fun _ w => VG Tryz.prog (ρ 4) true (Instr.fieldAt 85 (ρ 1) 2) w fun x51 w => VG Tryz.prog (ρ 4) true (Instr.loadAt 9 x51) w fun x52 w => CG Tryz.prog (ρ 4) true (Value.func (Fn.func 68) #[] #[]) [x52] w fun x53 w => PK Tryz.prog (ρ 4) x53 (Value.bool false) w fun x54 w => K Exit.normal (up (up (up (up (up (up (up (up (up (up ρ 46 x46) 47 x47) 48 x48) 49 (ρ 4)) 50 (ρ 4)) 51 x51) 52 x52) 53 x53) 54 x54) 4 x54) w) (BK Tryz.prog BinOp.eql 5 (Operand.tmp 26) (Operand.const (Value.int IntKind.u8 5)) (ρ 26) (Value.int IntKind.u8 5) w fun x56 w => CondK x56 (VK Tryz.prog (Instr.fieldAt 85 (ρ 1) 2) w fun x57 w => VK Tryz.prog (Instr.loadAt 9 x57) w fun x58 w => VK Tryz.prog (Instr.fieldAt 85 (ρ 3) 2) w fun x59 w => UK Tryz.prog (Instr.storeAt 9 x59 x58) w fun _ w => W z Tryz.prog 88 tree_mayExpr_R4 K (up (up (up (up (up ρ 56 x56) 55 x56) 57 x57) 58 x58) 59 x59) w) (K Exit.normal (up (up ρ 56 x56) 55 x56) w))
theorem tree_mayExpr_R3_eq (z : At) (K : Exit → Sl → World → Prop) (ρ : Sl) (w : World) : sx z Tryz.prog 88 tree_mayExpr_R3 K ρ w = tree_mayExpr_R3_F z K ρ w := by kernel_rfl
noncomputable def tree_mayExpr_R4_ops : Array Oper := opsOf tree_mayExpr_R4
def tree_mayExpr_R4_Q (C : World → Prop) (K : Exit → Sl → World → Prop) (ρ : Sl) : Prop :=
  QG Tryz.prog C (ρ 4) true  (do pure (Next.value (← Instr.sliceAt 151 (Value.pointer (some ⟨2, 0, none⟩)) none none none))) fun x62 => QG Tryz.prog C (ρ 4) true  (do pure (Next.value (← Instr.fieldAt 85 (ρ 1) 2))) fun x63 => QG Tryz.prog C (ρ 4) true  (do pure (Next.value (← Instr.loadAt 9 x63))) fun x64 => QG Tryz.prog C (ρ 4) true  (do let d ← Deferred.ofValue (Value.func (Fn.func 119) #[] #[]) [x62, x64].toArray; invoke d.target d.args) fun x65 => QK Tryz.prog C (do pure (Next.value (if ← asBool (ρ 4) then x65 else (Value.bool false)))) fun x66 => ∀ w', C w' → K Exit.normal (up (up (up (up (up (up (up (up ρ 60 (ρ 4)) 61 (ρ 4)) 62 x62) 63 x63) 64 x64) 65 x65) 66 x66) 4 x66) w'
theorem tree_mayExpr_R4_quiet {D : List Deferred} (C : World → Prop) {K : Exit → Sl → World → Prop} {ρ : Sl} {w : World} (hC : C { w with drawn := w.drawn + 1 }) (h : tree_mayExpr_R4_Q C K ρ) : W ⟨none, D⟩ Tryz.prog 88 tree_mayExpr_R4 K ρ w := by
  have e : tree_mayExpr_R4 = .region (idOf tree_mayExpr_R4) tree_mayExpr_R4_ops true := by kernel_rfl
  have q : sxq Tryz.prog C tree_mayExpr_R4_ops (fun ρ' => ∀ w', C w' → K .normal ρ' w') tree_mayExpr_R4_ops.toList ρ = tree_mayExpr_R4_Q C K ρ := by kernel_rfl
  rw [e]
  exact W_quiet C (by kernel_rfl) (by kernel_rfl) (by kernel_rfl) hC (Eq.mpr q h)
noncomputable def tree_mayExpr_F (a0 : Value) (w : World) (R : Value → World → Prop) : Prop :=
  VK Tryz.prog (Instr.box 85 a0) w fun x1 w => VK Tryz.prog (Instr.fieldAt 85 x1 0) w fun x5 w => VK Tryz.prog (Instr.loadAt 5 x5) w fun x6 w => VK Tryz.prog (Instr.build 85 [(0, x6)].toArray) w fun x7 w => VK Tryz.prog (Instr.alloc 85 true (.tuple #[])) w fun x3 w => UK Tryz.prog (Instr.storeAt 85 x3 x7) w fun _ w => W fn_ Tryz.prog 88 tree_mayExpr_R0 (seqK (sx fn_ Tryz.prog 88 tree_mayExpr_R1 (retK Tryz.prog [ResultVar.tmp 2] R)) (retK Tryz.prog [ResultVar.tmp 2] R)) (up (up (up (up (up (up (rho0 [a0]) 1 x1) 2 (Value.bool false)) 5 x5) 6 x6) 7 x7) 3 x3) w
theorem tree_mayExpr_eq (a0 : Value) (w : World) (R : Value → World → Prop) : sx fn_ Tryz.prog 88 tree_mayExpr_b (retK Tryz.prog Tryz.f124.results.toList R) (rho0 [a0]) w = tree_mayExpr_F a0 w R := by kernel_rfl
theorem tree_mayExpr_calls {a0 : Value} {w : World} {R : Value → World → Prop} (h : tree_mayExpr_F a0 w R) : Calls Tryz.prog 124 #[a0] w fun e w' => ∃ v, e = .returned v ∧ R v w' :=
  Go.X.calls_of_sx (n := 88) (c := tree_mayExpr_b) Tryz.func124 (by kernel_rfl) (by kernel_rfl) (Nat.le_of_ble_eq_true rfl) (by kernel_rfl) (Eq.mpr (tree_mayExpr_eq a0 w R) h)
/-- dispatcher/tree.reduces -/
noncomputable def tree_reduces_b : Code := (Tryz.f125.body).getD .skip
noncomputable def tree_reduces_F (a0 : Value) (w : World) (R : Value → World → Prop) : Prop :=
  BK Tryz.prog BinOp.eql 5 (Operand.tmp 3) (Operand.const (Value.int IntKind.u8 17)) a0 (Value.int IntKind.u8 17) w fun x4 w => MG Tryz.prog x4 false a0 w fun x6 w => BG Tryz.prog x4 false BinOp.eql 5 (Operand.tmp 6) (Operand.const (Value.int IntKind.u8 18)) x6 (Value.int IntKind.u8 18) w fun x7 w => PK Tryz.prog x4 (Value.bool true) x7 w fun x8 w => R x8 w
theorem tree_reduces_eq (a0 : Value) (w : World) (R : Value → World → Prop) : sx fn_ Tryz.prog 9 tree_reduces_b (retK Tryz.prog Tryz.f125.results.toList R) (rho0 [a0]) w = tree_reduces_F a0 w R := by kernel_rfl
theorem tree_reduces_calls {a0 : Value} {w : World} {R : Value → World → Prop} (h : tree_reduces_F a0 w R) : Calls Tryz.prog 125 #[a0] w fun e w' => ∃ v, e = .returned v ∧ R v w' :=
  Go.X.calls_of_sx (n := 9) (c := tree_reduces_b) Tryz.func125 (by kernel_rfl) (by kernel_rfl) (Nat.le_of_ble_eq_true rfl) (by kernel_rfl) (Eq.mpr (tree_reduces_eq a0 w R) h)
/-- dispatcher/dispatcherref02.DeepExpr -/
noncomputable def dispatcherref02_DeepExpr_b : Code := (Tryz.f117.body).getD .skip
noncomputable def dispatcherref02_DeepExpr_L0 : Code := cAt [1, 1, 0, 1, 0, 0] dispatcherref02_DeepExpr_b
noncomputable def dispatcherref02_DeepExpr_R1 : Code := cAt [1, 1, 1] dispatcherref02_DeepExpr_b
noncomputable def dispatcherref02_DeepExpr_L0_F (z : At) (K : Exit → Sl → World → Prop) (ρ : Sl) (w : World) : Prop :=
  VK Tryz.prog (Instr.fieldAt 85 (ρ 1) 3) w fun x6 w => VK Tryz.prog (Instr.loadAt 60 x6) w fun x7 w => IK Tryz.prog Builtin.len #[60] 3 [false] [x7] w fun x8 w => BK Tryz.prog BinOp.lss 3 (Operand.tmp 5) (Operand.tmp 8) (ρ 4) x8 w fun x9 w => CondK x9 (VK Tryz.prog (Instr.fieldAt 85 (ρ 1) 3) w fun x13 w => VK Tryz.prog (Instr.loadAt 60 x13) w fun x14 w => VK Tryz.prog (Instr.indexAt 60 x14 (ρ 4)) w fun x16 w => VK Tryz.prog (Instr.loadAt 85 x16) w fun x17 w => CK Tryz.prog (Value.func (Fn.func 117) #[] #[]) [x17] w fun x18 w => BK Tryz.prog BinOp.add 3 (Operand.const (Value.int IntKind.i64 1)) (Operand.tmp 18) (Value.int IntKind.i64 1) x18 w fun x19 w => IK Tryz.prog Builtin.max #[3, 3] 3 [false, false] [(ρ 3), x19] w fun x20 w => BK Tryz.prog BinOp.add 3 (Operand.tmp 10) (Operand.const (Value.int IntKind.i64 1)) (ρ 4) (Value.int IntKind.i64 1) w fun x11 w => K Exit.normal (up (up (up (up (up (up (up (up (up (up (up (up (up (up (up (up (up (up ρ 5 (ρ 4)) 6 x6) 7 x7) 8 x8) 9 x9) 12 (ρ 3)) 13 x13) 14 x14) 15 (ρ 4)) 16 x16) 17 x17) 18 x18) 19 x19) 20 x20) 3 x20) 10 (ρ 4)) 11 x11) 4 x11) w) (K (Exit.exit 0) (up (up (up (up (up ρ 5 (ρ 4)) 6 x6) 7 x7) 8 x8) 9 x9) w)
theorem dispatcherref02_DeepExpr_L0_eq (z : At) (K : Exit → Sl → World → Prop) (ρ : Sl) (w : World) : sx z Tryz.prog 22 dispatcherref02_DeepExpr_L0 K ρ w = dispatcherref02_DeepExpr_L0_F z K ρ w := by kernel_rfl
theorem dispatcherref02_DeepExpr_L0_ok : dstOk 22 dispatcherref02_DeepExpr_L0 = true := by kernel_rfl
noncomputable def dispatcherref02_DeepExpr_R1_F (z : At) (K : Exit → Sl → World → Prop) (ρ : Sl) (w : World) : Prop :=
  K Exit.ret (up (up ρ 21 (ρ 3)) 2 (ρ 3)) w
theorem dispatcherref02_DeepExpr_R1_eq (z : At) (K : Exit → Sl → World → Prop) (ρ : Sl) (w : World) : sx z Tryz.prog 22 dispatcherref02_DeepExpr_R1 K ρ w = dispatcherref02_DeepExpr_R1_F z K ρ w := by kernel_rfl
noncomputable def dispatcherref02_DeepExpr_F (a0 : Value) (w : World) (R : Value → World → Prop) : Prop :=
  VK Tryz.prog (Instr.box 85 a0) w fun x1 w => W fn_ Tryz.prog 22 (Code.loop dispatcherref02_DeepExpr_L0) (blkK 0 (seqK (sx fn_ Tryz.prog 22 dispatcherref02_DeepExpr_R1 (retK Tryz.prog [ResultVar.tmp 2] R)) (retK Tryz.prog [ResultVar.tmp 2] R))) (up (up (up (up (rho0 [a0]) 1 x1) 2 (Value.int IntKind.i64 0)) 3 (Value.int IntKind.i64 1)) 4 (Value.int IntKind.i64 0)) w
theorem dispatcherref02_DeepExpr_eq (a0 : Value) (w : World) (R : Value → World → Prop) : sx fn_ Tryz.prog 22 dispatcherref02_DeepExpr_b (retK Tryz.prog Tryz.f117.results.toList R) (rho0 [a0]) w = dispatcherref02_DeepExpr_F a0 w R := by kernel_rfl
theorem dispatcherref02_DeepExpr_calls {a0 : Value} {w : World} {R : Value → World → Prop} (h : dispatcherref02_DeepExpr_F a0 w R) : Calls Tryz.prog 117 #[a0] w fun e w' => ∃ v, e = .returned v ∧ R v w' :=
  Go.X.calls_of_sx (n := 22) (c := dispatcherref02_DeepExpr_b) Tryz.func117 (by kernel_rfl) (by kernel_rfl) (Nat.le_of_ble_eq_true rfl) (by kernel_rfl) (Eq.mpr (dispatcherref02_DeepExpr_eq a0 w R) h)
/-- dispatcher/dispatcherref02.Reduces -/
noncomputable def dispatcherref02_Reduces_b : Code := (Tryz.f115.body).getD .skip
noncomputable def dispatcherref02_Reduces_F (a0 : Value) (w : World) (R : Value → World → Prop) : Prop :=
  BK Tryz.prog BinOp.eql 5 (Operand.tmp 3) (Operand.const (Value.int IntKind.u8 17)) a0 (Value.int IntKind.u8 17) w fun x4 w => MG Tryz.prog x4 false a0 w fun x6 w => BG Tryz.prog x4 false BinOp.eql 5 (Operand.tmp 6) (Operand.const (Value.int IntKind.u8 18)) x6 (Value.int IntKind.u8 18) w fun x7 w => PK Tryz.prog x4 (Value.bool true) x7 w fun x8 w => R x8 w
theorem dispatcherref02_Reduces_eq (a0 : Value) (w : World) (R : Value → World → Prop) : sx fn_ Tryz.prog 9 dispatcherref02_Reduces_b (retK Tryz.prog Tryz.f115.results.toList R) (rho0 [a0]) w = dispatcherref02_Reduces_F a0 w R := by kernel_rfl
theorem dispatcherref02_Reduces_calls {a0 : Value} {w : World} {R : Value → World → Prop} (h : dispatcherref02_Reduces_F a0 w R) : Calls Tryz.prog 115 #[a0] w fun e w' => ∃ v, e = .returned v ∧ R v w' :=
  Go.X.calls_of_sx (n := 9) (c := dispatcherref02_Reduces_b) Tryz.func115 (by kernel_rfl) (by kernel_rfl) (Nat.le_of_ble_eq_true rfl) (by kernel_rfl) (Eq.mpr (dispatcherref02_Reduces_eq a0 w R) h)
/-- dispatcher/dispatcherref02.Sides -/
noncomputable def dispatcherref02_Sides_b : Code := (Tryz.f127.body).getD .skip
noncomputable def dispatcherref02_Sides_R0 : Code := cAt [1, 0, 1, 0, 1] dispatcherref02_Sides_b
noncomputable def dispatcherref02_Sides_R1 : Code := cAt [1, 1] dispatcherref02_Sides_b
noncomputable def dispatcherref02_Sides_R2 : Code := cAt [1, 0, 1, 0, 1, 1, 1] dispatcherref02_Sides_b
noncomputable def dispatcherref02_Sides_R0_F (z : At) (K : Exit → Sl → World → Prop) (ρ : Sl) (w : World) : Prop :=
  CondK (ρ 4) (K Exit.ret (up ρ 2 (Value.int IntKind.i64 1)) w) (BK Tryz.prog BinOp.eql 5 (Operand.tmp 3) (Operand.const (Value.int IntKind.u8 8)) (ρ 3) (Value.int IntKind.u8 8) w fun x10 w => CondK x10 (sx z Tryz.prog 23 dispatcherref02_Sides_R2 K (up (up ρ 10 x10) 9 x10) w) (BK Tryz.prog BinOp.eql 5 (Operand.tmp 3) (Operand.const (Value.int IntKind.u8 9)) (ρ 3) (Value.int IntKind.u8 9) w fun x11 w => CondK x11 (sx z Tryz.prog 23 dispatcherref02_Sides_R2 K (up (up (up (up ρ 10 x10) 9 x10) 11 x11) 9 x11) w) (BK Tryz.prog BinOp.eql 5 (Operand.tmp 3) (Operand.const (Value.int IntKind.u8 10)) (ρ 3) (Value.int IntKind.u8 10) w fun x12 w => CondK x12 (sx z Tryz.prog 23 dispatcherref02_Sides_R2 K (up (up (up (up (up (up ρ 10 x10) 9 x10) 11 x11) 9 x11) 12 x12) 9 x12) w) (BK Tryz.prog BinOp.eql 5 (Operand.tmp 3) (Operand.const (Value.int IntKind.u8 11)) (ρ 3) (Value.int IntKind.u8 11) w fun x13 w => CondK x13 (sx z Tryz.prog 23 dispatcherref02_Sides_R2 K (up (up (up (up (up (up (up (up ρ 10 x10) 9 x10) 11 x11) 9 x11) 12 x12) 9 x12) 13 x13) 9 x13) w) (BK Tryz.prog BinOp.eql 5 (Operand.tmp 3) (Operand.const (Value.int IntKind.u8 12)) (ρ 3) (Value.int IntKind.u8 12) w fun x14 w => CondK x14 (sx z Tryz.prog 23 dispatcherref02_Sides_R2 K (up (up (up (up (up (up (up (up (up (up ρ 10 x10) 9 x10) 11 x11) 9 x11) 12 x12) 9 x12) 13 x13) 9 x13) 14 x14) 9 x14) w) (BK Tryz.prog BinOp.eql 5 (Operand.tmp 3) (Operand.const (Value.int IntKind.u8 13)) (ρ 3) (Value.int IntKind.u8 13) w fun x15 w => CondK x15 (sx z Tryz.prog 23 dispatcherref02_Sides_R2 K (up (up (up (up (up (up (up (up (up (up (up (up ρ 10 x10) 9 x10) 11 x11) 9 x11) 12 x12) 9 x12) 13 x13) 9 x13) 14 x14) 9 x14) 15 x15) 9 x15) w) (BK Tryz.prog BinOp.eql 5 (Operand.tmp 3) (Operand.const (Value.int IntKind.u8 14)) (ρ 3) (Value.int IntKind.u8 14) w fun x16 w => CondK x16 (sx z Tryz.prog 23 dispatcherref02_Sides_R2 K (up (up (up (up (up (up (up (up (up (up (up (up (up (up ρ 10 x10) 9 x10) 11 x11) 9 x11) 12 x12) 9 x12) 13 x13) 9 x13) 14 x14) 9 x14) 15 x15) 9 x15) 16 x16) 9 x16) w) (BK Tryz.prog BinOp.eql 5 (Operand.tmp 3) (Operand.const (Value.int IntKind.u8 15)) (ρ 3) (Value.int IntKind.u8 15) w fun x17 w => CondK x17 (sx z Tryz.prog 23 dispatcherref02_Sides_R2 K (up (up (up (up (up (up (up (up (up (up (up (up (up (up (up (up ρ 10 x10) 9 x10) 11 x11) 9 x11) 12 x12) 9 x12) 13 x13) 9 x13) 14 x14) 9 x14) 15 x15) 9 x15) 16 x16) 9 x16) 17 x17) 9 x17) w) (BK Tryz.prog BinOp.eql 5 (Operand.tmp 3) (Operand.const (Value.int IntKind.u8 16)) (ρ 3) (Value.int IntKind.u8 16) w fun x18 w => CondK x18 (sx z Tryz.prog 23 dispatcherref02_Sides_R2 K (up (up (up (up (up (up (up (up (up (up (up (up (up (up (up (up (up (up ρ 10 x10) 9 x10) 11 x11) 9 x11) 12 x12) 9 x12) 13 x13) 9 x13) 14 x14) 9 x14) 15 x15) 9 x15) 16 x16) 9 x16) 17 x17) 9 x17) 18 x18) 9 x18) w) (BK Tryz.prog BinOp.eql 5 (Operand.tmp 3) (Operand.const (Value.int IntKind.u8 17)) (ρ 3) (Value.int IntKind.u8 17) w fun x19 w => CondK x19 (sx z Tryz.prog 23 dispatcherref02_Sides_R2 K (up (up (up (up (up (up (up (up (up (up (up (up (up (up (up (up (up (up (up (up ρ 10 x10) 9 x10) 11 x11) 9 x11) 12 x12) 9 x12) 13 x13) 9 x13) 14 x14) 9 x14) 15 x15) 9 x15) 16 x16) 9 x16) 17 x17) 9 x17) 18 x18) 9 x18) 19 x19) 9 x19) w) (BK Tryz.prog BinOp.eql 5 (Operand.tmp 3) (Operand.const (Value.int IntKind.u8 18)) (ρ 3) (Value.int IntKind.u8 18) w fun x20 w => CondK x20 (sx z Tryz.prog 23 dispatcherref02_Sides_R2 K (up (up (up (up (up (up (up (up (up (up (up (up (up (up (up (up (up (up (up (up (up (up ρ 10 x10) 9 x10) 11 x11) 9 x11) 12 x12) 9 x12) 13 x13) 9 x13) 14 x14) 9 x14) 15 x15) 9 x15) 16 x16) 9 x16) 17 x17) 9 x17) 18 x18) 9 x18) 19 x19) 9 x19) 20 x20) 9 x20) w) (BK Tryz.prog BinOp.eql 5 (Operand.tmp 3) (Operand.const (Value.int IntKind.u8 19)) (ρ 3) (Value.int IntKind.u8 19) w fun x21 w => CondK x21 (sx z Tryz.prog 23 dispatcherref02_Sides_R2 K (up (up (up (up (up (up (up (up (up (up (up (up (up (up (up (up (up (up (up (up (up (up (up (up ρ 10 x10) 9 x10) 11 x11) 9 x11) 12 x12) 9 x12) 13 x13) 9 x13) 14 x14) 9 x14) 15 x15) 9 x15) 16 x16) 9 x16) 17 x17) 9 x17) 18 x18) 9 x18) 19 x19) 9 x19) 20 x20) 9 x20) 21 x21) 9 x21) w) (BK Tryz.prog BinOp.eql 5 (Operand.tmp 3) (Operand.const (Value.int IntKind.u8 20)) (ρ 3) (Value.int IntKind.u8 20) w fun x22 w => sx z Tryz.prog 23 dispatcherref02_Sides_R2 K (up (up (up (up (up (up (up (up (up (up (up (up (up (up (up (up (up (up (up (up (up (up (up (up (up (up ρ 10 x10) 9 x10) 11 x11) 9 x11) 12 x12) 9 x12) 13 x13) 9 x13) 14 x14) 9 x14) 15 x15) 9 x15) 16 x16) 9 x16) 17 x17) 9 x17) 18 x18) 9 x18) 19 x19) 9 x19) 20 x20) 9 x20) 21 x21) 9 x21) 22 x22) 9 x22) w)))))))))))))
theorem dispatcherref02_Sides_R0_eq (z : At) (K : Exit → Sl → World → Prop) (ρ : Sl) (w : World) : sx z Tryz.prog 23 dispatcherref02_Sides_R0 K ρ w = dispatcherref02_Sides_R0_F z K ρ w := by kernel_rfl
noncomputable def dispatcherref02_Sides_R1_F (z : At) (K : Exit → Sl → World → Prop) (ρ : Sl) (w : World) : Prop :=
  K Exit.ret (up ρ 2 (Value.int IntKind.i64 0)) w
theorem dispatcherref02_Sides_R1_eq (z : At) (K : Exit → Sl → World → Prop) (ρ : Sl) (w : World) : sx z Tryz.prog 23 dispatcherref02_Sides_R1 K ρ w = dispatcherref02_Sides_R1_F z K ρ w := by kernel_rfl
noncomputable def dispatcherref02_Sides_R2_F (z : At) (K : Exit → Sl → World → Prop) (ρ : Sl) (w : World) : Prop :=
  CondK (ρ 9) (K Exit.ret (up ρ 2 (Value.int IntKind.i64 2)) w) (K Exit.normal ρ w)
theorem dispatcherref02_Sides_R2_eq (z : At) (K : Exit → Sl → World → Prop) (ρ : Sl) (w : World) : sx z Tryz.prog 23 dispatcherref02_Sides_R2 K ρ w = dispatcherref02_Sides_R2_F z K ρ w := by kernel_rfl
noncomputable def dispatcherref02_Sides_F (a0 : Value) (w : World) (R : Value → World → Prop) : Prop :=
  BK Tryz.prog BinOp.eql 5 (Operand.tmp 3) (Operand.const (Value.int IntKind.u8 3)) a0 (Value.int IntKind.u8 3) w fun x5 w => CondK x5 (sx fn_ Tryz.prog 23 dispatcherref02_Sides_R0 (blkK 0 (seqK (sx fn_ Tryz.prog 23 dispatcherref02_Sides_R1 (retK Tryz.prog [ResultVar.tmp 2] R)) (retK Tryz.prog [ResultVar.tmp 2] R))) (up (up (up (up (rho0 [a0]) 2 (Value.int IntKind.i64 0)) 3 a0) 5 x5) 4 x5) w) (BK Tryz.prog BinOp.eql 5 (Operand.tmp 3) (Operand.const (Value.int IntKind.u8 4)) a0 (Value.int IntKind.u8 4) w fun x6 w => CondK x6 (sx fn_ Tryz.prog 23 dispatcherref02_Sides_R0 (blkK 0 (seqK (sx fn_ Tryz.prog 23 dispatcherref02_Sides_R1 (retK Tryz.prog [ResultVar.tmp 2] R)) (retK Tryz.prog [ResultVar.tmp 2] R))) (up (up (up (up (up (up (rho0 [a0]) 2 (Value.int IntKind.i64 0)) 3 a0) 5 x5) 4 x5) 6 x6) 4 x6) w) (BK Tryz.prog BinOp.eql 5 (Operand.tmp 3) (Operand.const (Value.int IntKind.u8 6)) a0 (Value.int IntKind.u8 6) w fun x7 w => CondK x7 (sx fn_ Tryz.prog 23 dispatcherref02_Sides_R0 (blkK 0 (seqK (sx fn_ Tryz.prog 23 dispatcherref02_Sides_R1 (retK Tryz.prog [ResultVar.tmp 2] R)) (retK Tryz.prog [ResultVar.tmp 2] R))) (up (up (up (up (up (up (up (up (rho0 [a0]) 2 (Value.int IntKind.i64 0)) 3 a0) 5 x5) 4 x5) 6 x6) 4 x6) 7 x7) 4 x7) w) (BK Tryz.prog BinOp.eql 5 (Operand.tmp 3) (Operand.const (Value.int IntKind.u8 7)) a0 (Value.int IntKind.u8 7) w fun x8 w => sx fn_ Tryz.prog 23 dispatcherref02_Sides_R0 (blkK 0 (seqK (sx fn_ Tryz.prog 23 dispatcherref02_Sides_R1 (retK Tryz.prog [ResultVar.tmp 2] R)) (retK Tryz.prog [ResultVar.tmp 2] R))) (up (up (up (up (up (up (up (up (up (up (rho0 [a0]) 2 (Value.int IntKind.i64 0)) 3 a0) 5 x5) 4 x5) 6 x6) 4 x6) 7 x7) 4 x7) 8 x8) 4 x8) w)))
theorem dispatcherref02_Sides_eq (a0 : Value) (w : World) (R : Value → World → Prop) : sx fn_ Tryz.prog 23 dispatcherref02_Sides_b (retK Tryz.prog Tryz.f127.results.toList R) (rho0 [a0]) w = dispatcherref02_Sides_F a0 w R := by kernel_rfl
theorem dispatcherref02_Sides_calls {a0 : Value} {w : World} {R : Value → World → Prop} (h : dispatcherref02_Sides_F a0 w R) : Calls Tryz.prog 127 #[a0] w fun e w' => ∃ v, e = .returned v ∧ R v w' :=
  Go.X.calls_of_sx (n := 23) (c := dispatcherref02_Sides_b) Tryz.func127 (by kernel_rfl) (by kernel_rfl) (Nat.le_of_ble_eq_true rfl) (by kernel_rfl) (Eq.mpr (dispatcherref02_Sides_eq a0 w R) h)
/-- dispatcher/dispatcherref02.Plain -/
noncomputable def dispatcherref02_Plain_b : Code := (Tryz.f128.body).getD .skip
noncomputable def dispatcherref02_Plain_R0 : Code := cAt [1, 0, 1, 0, 1] dispatcherref02_Plain_b
noncomputable def dispatcherref02_Plain_R1 : Code := cAt [1, 1] dispatcherref02_Plain_b
noncomputable def dispatcherref02_Plain_R0_F (z : At) (K : Exit → Sl → World → Prop) (ρ : Sl) (w : World) : Prop :=
  CondK (ρ 4) (K Exit.ret (up ρ 2 (Value.bool true)) w) (K Exit.normal ρ w)
theorem dispatcherref02_Plain_R0_eq (z : At) (K : Exit → Sl → World → Prop) (ρ : Sl) (w : World) : sx z Tryz.prog 15 dispatcherref02_Plain_R0 K ρ w = dispatcherref02_Plain_R0_F z K ρ w := by kernel_rfl
noncomputable def dispatcherref02_Plain_R1_F (z : At) (K : Exit → Sl → World → Prop) (ρ : Sl) (w : World) : Prop :=
  K Exit.ret (up ρ 2 (Value.bool false)) w
theorem dispatcherref02_Plain_R1_eq (z : At) (K : Exit → Sl → World → Prop) (ρ : Sl) (w : World) : sx z Tryz.prog 15 dispatcherref02_Plain_R1 K ρ w = dispatcherref02_Plain_R1_F z K ρ w := by kernel_rfl
noncomputable def dispatcherref02_Plain_F (a0 : Value) (w : World) (R : Value → World → Prop) : Prop :=
  BK Tryz.prog BinOp.eql 9 (Operand.tmp 3) (Operand.const (Value.string { data := #[114, 97, 110, 107] })) a0 (Value.string { data := #[114, 97, 110, 107] }) w fun x5 w => CondK x5 (sx fn_ Tryz.prog 15 dispatcherref02_Plain_R0 (blkK 0 (seqK (sx fn_ Tryz.prog 15 dispatcherref02_Plain_R1 (retK Tryz.prog [ResultVar.tmp 2] R)) (retK Tryz.prog [ResultVar.tmp 2] R))) (up (up (up (up (rho0 [a0]) 2 (Value.bool false)) 3 a0) 5 x5) 4 x5) w) (BK Tryz.prog BinOp.eql 9 (Operand.tmp 3) (Operand.const (Value.string { data := #[115, 105, 122, 101] })) a0 (Value.string { data := #[115, 105, 122, 101] }) w fun x6 w => CondK x6 (sx fn_ Tryz.prog 15 dispatcherref02_Plain_R0 (blkK 0 (seqK (sx fn_ Tryz.prog 15 dispatcherref02_Plain_R1 (retK Tryz.prog [ResultVar.tmp 2] R)) (retK Tryz.prog [ResultVar.tmp 2] R))) (up (up (up (up (up (up (rho0 [a0]) 2 (Value.bool false)) 3 a0) 5 x5) 4 x5) 6 x6) 4 x6) w) (BK Tryz.prog BinOp.eql 9 (Operand.tmp 3) (Operand.const (Value.string { data := #[97, 110, 121] })) a0 (Value.string { data := #[97, 110, 121] }) w fun x7 w => CondK x7 (sx fn_ Tryz.prog 15 dispatcherref02_Plain_R0 (blkK 0 (seqK (sx fn_ Tryz.prog 15 dispatcherref02_Plain_R1 (retK Tryz.prog [ResultVar.tmp 2] R)) (retK Tryz.prog [ResultVar.tmp 2] R))) (up (up (up (up (up (up (up (up (rho0 [a0]) 2 (Value.bool false)) 3 a0) 5 x5) 4 x5) 6 x6) 4 x6) 7 x7) 4 x7) w) (BK Tryz.prog BinOp.eql 9 (Operand.tmp 3) (Operand.const (Value.string { data := #[118, 97, 108, 117, 101] })) a0 (Value.string { data := #[118, 97, 108, 117, 101] }) w fun x8 w => CondK x8 (sx fn_ Tryz.prog 15 dispatcherref02_Plain_R0 (blkK 0 (seqK (sx fn_ Tryz.prog 15 dispatcherref02_Plain_R1 (retK Tryz.prog [ResultVar.tmp 2] R)) (retK Tryz.prog [ResultVar.tmp 2] R))) (up (up (up (up (up (up (up (up (up (up (rho0 [a0]) 2 (Value.bool false)) 3 a0) 5 x5) 4 x5) 6 x6) 4 x6) 7 x7) 4 x7) 8 x8) 4 x8) w) (BK Tryz.prog BinOp.eql 9 (Operand.tmp 3) (Operand.const (Value.string { data := #[112, 101, 101, 114] })) a0 (Value.string { data := #[112, 101, 101, 114] }) w fun x9 w => CondK x9 (sx fn_ Tryz.prog 15 dispatcherref02_Plain_R0 (blkK 0 (seqK (sx fn_ Tryz.prog 15 dispatcherref02_Plain_R1 (retK Tryz.prog [ResultVar.tmp 2] R)) (retK Tryz.prog [ResultVar.tmp 2] R))) (up (up (up (up (up (up (up (up (up (up (up (up (rho0 [a0]) 2 (Value.bool false)) 3 a0) 5 x5) 4 x5) 6 x6) 4 x6) 7 x7) 4 x7) 8 x8) 4 x8) 9 x9) 4 x9) w) (BK Tryz.prog BinOp.eql 9 (Operand.tmp 3) (Operand.const (Value.string { data := #[116, 97, 103] })) a0 (Value.string { data := #[116, 97, 103] }) w fun x10 w => CondK x10 (sx fn_ Tryz.prog 15 dispatcherref02_Plain_R0 (blkK 0 (seqK (sx fn_ Tryz.prog 15 dispatcherref02_Plain_R1 (retK Tryz.prog [ResultVar.tmp 2] R)) (retK Tryz.prog [ResultVar.tmp 2] R))) (up (up (up (up (up (up (up (up (up (up (up (up (up (up (rho0 [a0]) 2 (Value.bool false)) 3 a0) 5 x5) 4 x5) 6 x6) 4 x6) 7 x7) 4 x7) 8 x8) 4 x8) 9 x9) 4 x9) 10 x10) 4 x10) w) (BK Tryz.prog BinOp.eql 9 (Operand.tmp 3) (Operand.const (Value.string { data := #[102, 108, 97, 103] })) a0 (Value.string { data := #[102, 108, 97, 103] }) w fun x11 w => CondK x11 (sx fn_ Tryz.prog 15 dispatcherref02_Plain_R0 (blkK 0 (seqK (sx fn_ Tryz.prog 15 dispatcherref02_Plain_R1 (retK Tryz.prog [ResultVar.tmp 2] R)) (retK Tryz.prog [ResultVar.tmp 2] R))) (up (up (up (up (up (up (up (up (up (up (up (up (up (up (up (up (rho0 [a0]) 2 (Value.bool false)) 3 a0) 5 x5) 4 x5) 6 x6) 4 x6) 7 x7) 4 x7) 8 x8) 4 x8) 9 x9) 4 x9) 10 x10) 4 x10) 11 x11) 4 x11) w) (BK Tryz.prog BinOp.eql 9 (Operand.tmp 3) (Operand.const (Value.string { data := #[105, 110, 100, 101, 120] })) a0 (Value.string { data := #[105, 110, 100, 101, 120] }) w fun x12 w => CondK x12 (sx fn_ Tryz.prog 15 dispatcherref02_Plain_R0 (blkK 0 (seqK (sx fn_ Tryz.prog 15 dispatcherref02_Plain_R1 (retK Tryz.prog [ResultVar.tmp 2] R)) (retK Tryz.prog [ResultVar.tmp 2] R))) (up (up (up (up (up (up (up (up (up (up (up (up (up (up (up (up (up (up (rho0 [a0]) 2 (Value.bool false)) 3 a0) 5 x5) 4 x5) 6 x6) 4 x6) 7 x7) 4 x7) 8 x8) 4 x8) 9 x9) 4 x9) 10 x10) 4 x10) 11 x11) 4 x11) 12 x12) 4 x12) w) (BK Tryz.prog BinOp.eql 9 (Operand.tmp 3) (Operand.const (Value.string { data := #[114, 101, 113] })) a0 (Value.string { data := #[114, 101, 113] }) w fun x13 w => CondK x13 (sx fn_ Tryz.prog 15 dispatcherref02_Plain_R0 (blkK 0 (seqK (sx fn_ Tryz.prog 15 dispatcherref02_Plain_R1 (retK Tryz.prog [ResultVar.tmp 2] R)) (retK Tryz.prog [ResultVar.tmp 2] R))) (up (up (up (up (up (up (up (up (up (up (up (up (up (up (up (up (up (up (up (up (rho0 [a0]) 2 (Value.bool false)) 3 a0) 5 x5) 4 x5) 6 x6) 4 x6) 7 x7) 4 x7) 8 x8) 4 x8) 9 x9) 4 x9) 10 x10) 4 x10) 11 x11) 4 x11) 12 x12) 4 x12) 13 x13) 4 x13) w) (BK Tryz.prog BinOp.eql 9 (Operand.tmp 3) (Operand.const (Value.string { data := #[99, 111, 109, 109] })) a0 (Value.string { data := #[99, 111, 109, 109] }) w fun x14 w => sx fn_ Tryz.prog 15 dispatcherref02_Plain_R0 (blkK 0 (seqK (sx fn_ Tryz.prog 15 dispatcherref02_Plain_R1 (retK Tryz.prog [ResultVar.tmp 2] R)) (retK Tryz.prog [ResultVar.tmp 2] R))) (up (up (up (up (up (up (up (up (up (up (up (up (up (up (up (up (up (up (up (up (up (up (rho0 [a0]) 2 (Value.bool false)) 3 a0) 5 x5) 4 x5) 6 x6) 4 x6) 7 x7) 4 x7) 8 x8) 4 x8) 9 x9) 4 x9) 10 x10) 4 x10) 11 x11) 4 x11) 12 x12) 4 x12) 13 x13) 4 x13) 14 x14) 4 x14) w)))))))))
theorem dispatcherref02_Plain_eq (a0 : Value) (w : World) (R : Value → World → Prop) : sx fn_ Tryz.prog 15 dispatcherref02_Plain_b (retK Tryz.prog Tryz.f128.results.toList R) (rho0 [a0]) w = dispatcherref02_Plain_F a0 w R := by kernel_rfl
theorem dispatcherref02_Plain_calls {a0 : Value} {w : World} {R : Value → World → Prop} (h : dispatcherref02_Plain_F a0 w R) : Calls Tryz.prog 128 #[a0] w fun e w' => ∃ v, e = .returned v ∧ R v w' :=
  Go.X.calls_of_sx (n := 15) (c := dispatcherref02_Plain_b) Tryz.func128 (by kernel_rfl) (by kernel_rfl) (Nat.le_of_ble_eq_true rfl) (by kernel_rfl) (Eq.mpr (dispatcherref02_Plain_eq a0 w R) h)
/-- slices.Index[[]string,string] -/
noncomputable def slices_Index_string_string_b : Code := (Tryz.f130.body).getD .skip
noncomputable def slices_Index_string_string_L0 : Code := cAt [1, 0, 1, 0, 0] slices_Index_string_string_b
noncomputable def slices_Index_string_string_R1 : Code := cAt [1, 1] slices_Index_string_string_b
noncomputable def slices_Index_string_string_L0_F (z : At) (K : Exit → Sl → World → Prop) (ρ : Sl) (w : World) : Prop :=
  BK Tryz.prog BinOp.lss 3 (Operand.tmp 8) (Operand.tmp 7) (ρ 8) (ρ 7) w fun x9 w => CondK x9 (VK Tryz.prog (Instr.indexAt 111 (ρ 0) (ρ 8)) w fun x14 w => VK Tryz.prog (Instr.loadAt 9 x14) w fun x15 w => BK Tryz.prog BinOp.eql 9 (Operand.tmp 11) (Operand.tmp 15) (ρ 1) x15 w fun x16 w => CondK x16 (K Exit.ret (up (up (up (up (up (up (up (up (up (up (up ρ 9 x9) 10 (ρ 8)) 5 (ρ 8)) 11 (ρ 1)) 12 (ρ 0)) 13 (ρ 8)) 14 x14) 15 x15) 16 x16) 17 (ρ 8)) 4 (ρ 8)) w) (BK Tryz.prog BinOp.add 3 (Operand.tmp 8) (Operand.const (Value.int IntKind.i64 1)) (ρ 8) (Value.int IntKind.i64 1) w fun x18 w => K Exit.normal (up (up (up (up (up (up (up (up (up (up (up ρ 9 x9) 10 (ρ 8)) 5 (ρ 8)) 11 (ρ 1)) 12 (ρ 0)) 13 (ρ 8)) 14 x14) 15 x15) 16 x16) 18 x18) 8 x18) w)) (K (Exit.exit 0) (up ρ 9 x9) w)
theorem slices_Index_string_string_L0_eq (z : At) (K : Exit → Sl → World → Prop) (ρ : Sl) (w : World) : sx z Tryz.prog 19 slices_Index_string_string_L0 K ρ w = slices_Index_string_string_L0_F z K ρ w := by kernel_rfl
theorem slices_Index_string_string_L0_ok : dstOk 19 slices_Index_string_string_L0 = true := by kernel_rfl
noncomputable def slices_Index_string_string_R1_F (z : At) (K : Exit → Sl → World → Prop) (ρ : Sl) (w : World) : Prop :=
  K Exit.ret (up ρ 4 (Value.int IntKind.i64 (-1))) w
theorem slices_Index_string_string_R1_eq (z : At) (K : Exit → Sl → World → Prop) (ρ : Sl) (w : World) : sx z Tryz.prog 19 slices_Index_string_string_R1 K ρ w = slices_Index_string_string_R1_F z K ρ w := by kernel_rfl
noncomputable def slices_Index_string_string_F (a0 a1 : Value) (w : World) (R : Value → World → Prop) : Prop :=
  IK Tryz.prog Builtin.len #[111] 3 [false] [a0] w fun x7 w => W fn_ Tryz.prog 19 (Code.loop slices_Index_string_string_L0) (blkK 0 (seqK (sx fn_ Tryz.prog 19 slices_Index_string_string_R1 (retK Tryz.prog [ResultVar.tmp 4] R)) (retK Tryz.prog [ResultVar.tmp 4] R))) (up (up (up (up (rho0 [a0, a1]) 4 (Value.int IntKind.i64 0)) 6 a0) 7 x7) 8 (Value.int IntKind.i64 0)) w
theorem slices_Index_string_string_eq (a0 a1 : Value) (w : World) (R : Value → World → Prop) : sx fn_ Tryz.prog 19 slices_Index_string_string_b (retK Tryz.prog Tryz.f130.results.toList R) (rho0 [a0, a1]) w = slices_Index_string_string_F a0 a1 w R := by kernel_rfl
theorem slices_Index_string_string_calls {a0 a1 : Value} {w : World} {R : Value → World → Prop} (h : slices_Index_string_string_F a0 a1 w R) : Calls Tryz.prog 130 #[a0, a1] w fun e w' => ∃ v, e = .returned v ∧ R v w' :=
  Go.X.calls_of_sx (n := 19) (c := slices_Index_string_string_b) Tryz.func130 (by kernel_rfl) (by kernel_rfl) (Nat.le_of_ble_eq_true rfl) (by kernel_rfl) (Eq.mpr (slices_Index_string_string_eq a0 a1 w R) h)
/-- slices.IndexFunc[[]dispatcher/tree.Expr,dispatcher/tree.Expr] -/
noncomputable def slices_IndexFunc_tree_Expr_tree_Expr_b : Code := (Tryz.f131.body).getD .skip
noncomputable def slices_IndexFunc_tree_Expr_tree_Expr_L0 : Code := cAt [1, 0, 1, 0, 0] slices_IndexFunc_tree_Expr_tree_Expr_b
noncomputable def slices_IndexFunc_tree_Expr_tree_Expr_R1 : Code := cAt [1, 1] slices_IndexFunc_tree_Expr_tree_Expr_b
noncomputable def slices_IndexFunc_tree_Expr_tree_Expr_L0_F (z : At) (K : Exit → Sl → World → Prop) (ρ : Sl) (w : World) : Prop :=
  BK Tryz.prog BinOp.lss 3 (Operand.tmp 8) (Operand.tmp 7) (ρ 8) (ρ 7) w fun x9 w => CondK x9 (VK Tryz.prog (Instr.indexAt 60 (ρ 0) (ρ 8)) w fun x14 w => VK Tryz.prog (Instr.loadAt 85 x14) w fun x15 w => CK Tryz.prog (ρ 1) [x15] w fun x16 w => CondK x16 (K Exit.ret (up (up (up (up (up (up (up (up (up (up (up ρ 9 x9) 10 (ρ 8)) 5 (ρ 8)) 11 (ρ 1)) 12 (ρ 0)) 13 (ρ 8)) 14 x14) 15 x15) 16 x16) 17 (ρ 8)) 4 (ρ 8)) w) (BK Tryz.prog BinOp.add 3 (Operand.tmp 8) (Operand.const (Value.int IntKind.i64 1)) (ρ 8) (Value.int IntKind.i64 1) w fun x18 w => K Exit.normal (up (up (up (up (up (up (up (up (up (up (up ρ 9 x9) 10 (ρ 8)) 5 (ρ 8)) 11 (ρ 1)) 12 (ρ 0)) 13 (ρ 8)) 14 x14) 15 x15) 16 x16) 18 x18) 8 x18) w)) (K (Exit.exit 0) (up ρ 9 x9) w)
theorem slices_IndexFunc_tree_Expr_tree_Expr_L0_eq (z : At) (K : Exit → Sl → World → Prop) (ρ : Sl) (w : World) : sx z Tryz.prog 19 slices_IndexFunc_tree_Expr_tree_Expr_L0 K ρ w = slices_IndexFunc_tree_Expr_tree_Expr_L0_F z K ρ w := by kernel_rfl
theorem slices_IndexFunc_tree_Expr_tree_Expr_L0_ok : dstOk 19 slices_IndexFunc_tree_Expr_tree_Expr_L0 = true := by kernel_rfl
noncomputable def slices_IndexFunc_tree_Expr_tree_Expr_R1_F (z : At) (K : Exit → Sl → World → Prop) (ρ : Sl) (w : World) : Prop :=
  K Exit.ret (up ρ 4 (Value.int IntKind.i64 (-1))) w
theorem slices_IndexFunc_tree_Expr_tree_Expr_R1_eq (z : At) (K : Exit → Sl → World → Prop) (ρ : Sl) (w : World) : sx z Tryz.prog 19 slices_IndexFunc_tree_Expr_tree_Expr_R1 K ρ w = slices_IndexFunc_tree_Expr_tree_Expr_R1_F z K ρ w := by kernel_rfl
noncomputable def slices_IndexFunc_tree_Expr_tree_Expr_F (a0 a1 : Value) (w : World) (R : Value → World → Prop) : Prop :=
  IK Tryz.prog Builtin.len #[60] 3 [false] [a0] w fun x7 w => W fn_ Tryz.prog 19 (Code.loop slices_IndexFunc_tree_Expr_tree_Expr_L0) (blkK 0 (seqK (sx fn_ Tryz.prog 19 slices_IndexFunc_tree_Expr_tree_Expr_R1 (retK Tryz.prog [ResultVar.tmp 4] R)) (retK Tryz.prog [ResultVar.tmp 4] R))) (up (up (up (up (rho0 [a0, a1]) 4 (Value.int IntKind.i64 0)) 6 a0) 7 x7) 8 (Value.int IntKind.i64 0)) w
theorem slices_IndexFunc_tree_Expr_tree_Expr_eq (a0 a1 : Value) (w : World) (R : Value → World → Prop) : sx fn_ Tryz.prog 19 slices_IndexFunc_tree_Expr_tree_Expr_b (retK Tryz.prog Tryz.f131.results.toList R) (rho0 [a0, a1]) w = slices_IndexFunc_tree_Expr_tree_Expr_F a0 a1 w R := by kernel_rfl
theorem slices_IndexFunc_tree_Expr_tree_Expr_calls {a0 a1 : Value} {w : World} {R : Value → World → Prop} (h : slices_IndexFunc_tree_Expr_tree_Expr_F a0 a1 w R) : Calls Tryz.prog 131 #[a0, a1] w fun e w' => ∃ v, e = .returned v ∧ R v w' :=
  Go.X.calls_of_sx (n := 19) (c := slices_IndexFunc_tree_Expr_tree_Expr_b) Tryz.func131 (by kernel_rfl) (by kernel_rfl) (Nat.le_of_ble_eq_true rfl) (by kernel_rfl) (Eq.mpr (slices_IndexFunc_tree_Expr_tree_Expr_eq a0 a1 w R) h)
/-- dispatcher/tree.sides -/
noncomputable def tree_sides_b : Code := (Tryz.f132.body).getD .skip
noncomputable def tree_sides_F (a0 : Value) (w : World) (R : Value → World → Prop) : Prop :=
  BK Tryz.prog BinOp.geq 5 (Operand.tmp 4) (Operand.const (Value.int IntKind.u8 8)) a0 (Value.int IntKind.u8 8) w fun x5 w => MG Tryz.prog x5 true a0 w fun x7 w => BG Tryz.prog x5 true BinOp.leq 5 (Operand.tmp 7) (Operand.const (Value.int IntKind.u8 20)) x7 (Value.int IntKind.u8 20) w fun x8 w => PK Tryz.prog x5 x8 (Value.bool false) w fun x9 w => CondK x9 (R (Value.int IntKind.i64 2) w) (BK Tryz.prog BinOp.eql 5 (Operand.tmp 11) (Operand.const (Value.int IntKind.u8 3)) a0 (Value.int IntKind.u8 3) w fun x12 w => MG Tryz.prog x12 false a0 w fun x14 w => BG Tryz.prog x12 false BinOp.eql 5 (Operand.tmp 14) (Operand.const (Value.int IntKind.u8 4)) x14 (Value.int IntKind.u8 4) w fun x15 w => PK Tryz.prog x12 (Value.bool true) x15 w fun x16 w => MG Tryz.prog x16 false a0 w fun x18 w => BG Tryz.prog x16 false BinOp.eql 5 (Operand.tmp 18) (Operand.const (Value.int IntKind.u8 6)) x18 (Value.int IntKind.u8 6) w fun x19 w => PK Tryz.prog x16 (Value.bool true) x19 w fun x20 w => MG Tryz.prog x20 false a0 w fun x22 w => BG Tryz.prog x20 false BinOp.eql 5 (Operand.tmp 22) (Operand.const (Value.int IntKind.u8 7)) x22 (Value.int IntKind.u8 7) w fun x23 w => PK Tryz.prog x20 (Value.bool true) x23 w fun x24 w => CondK x24 (R (Value.int IntKind.i64 1) w) (R (Value.int IntKind.i64 0) w))
theorem tree_sides_eq (a0 : Value) (w : World) (R : Value → World → Prop) : sx fn_ Tryz.prog 25 tree_sides_b (retK Tryz.prog Tryz.f132.results.toList R) (rho0 [a0]) w = tree_sides_F a0 w R := by kernel_rfl
theorem tree_sides_calls {a0 : Value} {w : World} {R : Value → World → Prop} (h : tree_sides_F a0 w R) : Calls Tryz.prog 132 #[a0] w fun e w' => ∃ v, e = .returned v ∧ R v w' :=
  Go.X.calls_of_sx (n := 25) (c := tree_sides_b) Tryz.func132 (by kernel_rfl) (by kernel_rfl) (Nat.le_of_ble_eq_true rfl) (by kernel_rfl) (Eq.mpr (tree_sides_eq a0 w R) h)
/-- dispatcher/tree.mayExpr$1 -/
noncomputable def tree_mayExpr_1_b : Code := (Tryz.f133.body).getD .skip
noncomputable def tree_mayExpr_1_F (a0 : Value) (w : World) (R : Value → World → Prop) : Prop :=
  VK Tryz.prog (Instr.box 85 a0) w fun x1 w => VK Tryz.prog (Instr.loadAt 85 x1) w fun x3 w => CK Tryz.prog (Value.func (Fn.func 124) #[] #[]) [x3] w fun x4 w => VK Tryz.prog (Op.unary UnOp.not x4) w fun x5 w => R x5 w
theorem tree_mayExpr_1_eq (a0 : Value) (w : World) (R : Value → World → Prop) : sx fn_ Tryz.prog 6 tree_mayExpr_1_b (retK Tryz.prog Tryz.f133.results.toList R) (rho0 [a0]) w = tree_mayExpr_1_F a0 w R := by kernel_rfl
theorem tree_mayExpr_1_calls {a0 : Value} {w : World} {R : Value → World → Prop} (h : tree_mayExpr_1_F a0 w R) : Calls Tryz.prog 133 #[a0] w fun e w' => ∃ v, e = .returned v ∧ R v w' :=
  Go.X.calls_of_sx (n := 6) (c := tree_mayExpr_1_b) Tryz.func133 (by kernel_rfl) (by kernel_rfl) (Nat.le_of_ble_eq_true rfl) (by kernel_rfl) (Eq.mpr (tree_mayExpr_1_eq a0 w R) h)
/-- dispatcher/bound.expr -/
noncomputable def bound_expr_b : Code := (Tryz.f76.body).getD .skip
noncomputable def bound_expr_R0 : Code := cAt [1, 1, 1] bound_expr_b
noncomputable def bound_expr_L1 : Code := cAt [1, 1, 1, 0, 1, 0, 0] bound_expr_b
noncomputable def bound_expr_R2 : Code := cAt [1, 1, 1, 1] bound_expr_b
noncomputable def bound_expr_R0_F (z : At) (K : Exit → Sl → World → Prop) (ρ : Sl) (w : World) : Prop :=
  VK Tryz.prog (Instr.fieldAt 85 (ρ 1) 3) w fun x14 w => VK Tryz.prog (Instr.loadAt 60 x14) w fun x15 w => IK Tryz.prog Builtin.len #[60] 3 [false] [x15] w fun x16 w => W z Tryz.prog 27 (Code.loop bound_expr_L1) (blkK 0 (seqK (sx z Tryz.prog 27 bound_expr_R2 K) K)) (up (up (up (up ρ 14 x14) 15 x15) 16 x16) 17 (Value.int IntKind.i64 0)) w
theorem bound_expr_R0_eq (z : At) (K : Exit → Sl → World → Prop) (ρ : Sl) (w : World) : sx z Tryz.prog 27 bound_expr_R0 K ρ w = bound_expr_R0_F z K ρ w := by kernel_rfl
noncomputable def bound_expr_L1_F (z : At) (K : Exit → Sl → World → Prop) (ρ : Sl) (w : World) : Prop :=
  BK Tryz.prog BinOp.lss 3 (Operand.tmp 17) (Operand.tmp 16) (ρ 17) (ρ 16) w fun x18 w => CondK x18 (VK Tryz.prog (Instr.indexAt 60 (ρ 15) (ρ 17)) w fun x19 w => VK Tryz.prog (Instr.loadAt 85 x19) w fun x20 w => VK Tryz.prog (Instr.alloc 85 true (.tuple #[])) w fun x5 w => UK Tryz.prog (Instr.storeAt 85 x5 x20) w fun _ w => VK Tryz.prog (Instr.loadAt 85 x5) w fun x22 w => CK Tryz.prog (Value.func (Fn.func 76) #[] #[]) [x22] w fun x23 w => BK Tryz.prog BinOp.add 3 (Operand.tmp 21) (Operand.tmp 23) (ρ 3) x23 w fun x24 w => BK Tryz.prog BinOp.add 3 (Operand.tmp 17) (Operand.const (Value.int IntKind.i64 1)) (ρ 17) (Value.int IntKind.i64 1) w fun x25 w => K Exit.normal (up (up (up (up (up (up (up (up (up (up (up ρ 18 x18) 19 x19) 20 x20) 5 x5) 21 (ρ 3)) 22 x22) 23 x23) 24 x24) 3 x24) 25 x25) 17 x25) w) (K (Exit.exit 0) (up ρ 18 x18) w)
theorem bound_expr_L1_eq (z : At) (K : Exit → Sl → World → Prop) (ρ : Sl) (w : World) : sx z Tryz.prog 27 bound_expr_L1 K ρ w = bound_expr_L1_F z K ρ w := by kernel_rfl
theorem bound_expr_L1_ok : dstOk 27 bound_expr_L1 = true := by kernel_rfl
noncomputable def bound_expr_R2_F (z : At) (K : Exit → Sl → World → Prop) (ρ : Sl) (w : World) : Prop :=
  K Exit.ret (up (up ρ 26 (ρ 3)) 2 (ρ 3)) w
theorem bound_expr_R2_eq (z : At) (K : Exit → Sl → World → Prop) (ρ : Sl) (w : World) : sx z Tryz.prog 27 bound_expr_R2 K ρ w = bound_expr_R2_F z K ρ w := by kernel_rfl
noncomputable def bound_expr_F (a0 : Value) (w : World) (R : Value → World → Prop) : Prop :=
  VK Tryz.prog (Instr.box 85 a0) w fun x1 w => VK Tryz.prog (Instr.fieldAt 85 x1 0) w fun x6 w => VK Tryz.prog (Instr.loadAt 5 x6) w fun x7 w => BK Tryz.prog BinOp.eql 5 (Operand.tmp 7) (Operand.const (Value.int IntKind.u8 19)) x7 (Value.int IntKind.u8 19) w fun x8 w => VG Tryz.prog x8 false (Instr.fieldAt 85 x1 0) w fun x10 w => VG Tryz.prog x8 false (Instr.loadAt 5 x10) w fun x11 w => BG Tryz.prog x8 false BinOp.eql 5 (Operand.tmp 11) (Operand.const (Value.int IntKind.u8 20)) x11 (Value.int IntKind.u8 20) w fun x12 w => PK Tryz.prog x8 (Value.bool true) x12 w fun x13 w => CondK x13 (sx fn_ Tryz.prog 27 bound_expr_R0 (retK Tryz.prog [ResultVar.tmp 2] R) (up (up (up (up (up (up (up (up (up (up (up (up (rho0 [a0]) 1 x1) 2 (Value.int IntKind.i64 0)) 3 (Value.int IntKind.i64 1)) 6 x6) 7 x7) 8 x8) 9 x8) 10 x10) 11 x11) 12 x12) 13 x13) 3 (Value.int IntKind.i64 3)) w) (sx fn_ Tryz.prog 27 bound_expr_R0 (retK Tryz.prog [ResultVar.tmp 2] R) (up (up (up (up (up (up (up (up (up (up (up (rho0 [a0]) 1 x1) 2 (Value.int IntKind.i64 0)) 3 (Value.int IntKind.i64 1)) 6 x6) 7 x7) 8 x8) 9 x8) 10 x10) 11 x11) 12 x12) 13 x13) w)
theorem bound_expr_eq (a0 : Value) (w : World) (R : Value → World → Prop) : sx fn_ Tryz.prog 27 bound_expr_b (retK Tryz.prog Tryz.f76.results.toList R) (rho0 [a0]) w = bound_expr_F a0 w R := by kernel_rfl
theorem bound_expr_calls {a0 : Value} {w : World} {R : Value → World → Prop} (h : bound_expr_F a0 w R) : Calls Tryz.prog 76 #[a0] w fun e w' => ∃ v, e = .returned v ∧ R v w' :=
  Go.X.calls_of_sx (n := 27) (c := bound_expr_b) Tryz.func76 (by kernel_rfl) (by kernel_rfl) (Nat.le_of_ble_eq_true rfl) (by kernel_rfl) (Eq.mpr (bound_expr_eq a0 w R) h)
/-- dispatcher/dispatcherref09.expr -/
noncomputable def dispatcherref09_expr_b : Code := (Tryz.f83.body).getD .skip
noncomputable def dispatcherref09_expr_R0 : Code := cAt [1, 0, 1, 0, 1] dispatcherref09_expr_b
noncomputable def dispatcherref09_expr_R1 : Code := cAt [1, 1] dispatcherref09_expr_b
noncomputable def dispatcherref09_expr_R2 : Code := cAt [1, 0, 1, 0, 1, 1, 1] dispatcherref09_expr_b
noncomputable def dispatcherref09_expr_R3 : Code := cAt [1, 1, 0] dispatcherref09_expr_b
noncomputable def dispatcherref09_expr_R4 : Code := cAt [1, 1, 1] dispatcherref09_expr_b
noncomputable def dispatcherref09_expr_R5 : Code := cAt [1, 0, 1, 0, 1, 1, 1, 0, 0] dispatcherref09_expr_b
noncomputable def dispatcherref09_expr_R6 : Code := cAt [1, 0, 1, 0, 1, 1, 1, 0, 1] dispatcherref09_expr_b
noncomputable def dispatcherref09_expr_R7 : Code := cAt [1, 0, 1, 0, 1, 1, 1, 1, 1] dispatcherref09_expr_b
noncomputable def dispatcherref09_expr_R0_F (z : At) (K : Exit → Sl → World → Prop) (ρ : Sl) (w : World) : Prop :=
  CondK (ρ 5) (VK Tryz.prog (Instr.fieldAt 85 (ρ 1) 3) w fun x10 w => VK Tryz.prog (Instr.loadAt 60 x10) w fun x11 w => VK Tryz.prog (Instr.indexAt 60 x11 (Value.int IntKind.i64 0)) w fun x12 w => VK Tryz.prog (Instr.loadAt 85 x12) w fun x13 w => CK Tryz.prog (Value.func (Fn.func 83) #[] #[]) [x13] w fun x14 w => BK Tryz.prog BinOp.add 3 (Operand.tmp 14) (Operand.const (Value.int IntKind.i64 1)) x14 (Value.int IntKind.i64 1) w fun x15 w => K Exit.ret (up (up (up (up (up (up (up ρ 10 x10) 11 x11) 12 x12) 13 x13) 14 x14) 15 x15) 2 x15) w) (BK Tryz.prog BinOp.eql 5 (Operand.tmp 4) (Operand.const (Value.int IntKind.u8 19)) (ρ 4) (Value.int IntKind.u8 19) w fun x17 w => CondK x17 (sx z Tryz.prog 47 dispatcherref09_expr_R2 K (up (up ρ 17 x17) 16 x17) w) (BK Tryz.prog BinOp.eql 5 (Operand.tmp 4) (Operand.const (Value.int IntKind.u8 20)) (ρ 4) (Value.int IntKind.u8 20) w fun x18 w => sx z Tryz.prog 47 dispatcherref09_expr_R2 K (up (up (up (up ρ 17 x17) 16 x17) 18 x18) 16 x18) w))
theorem dispatcherref09_expr_R0_eq (z : At) (K : Exit → Sl → World → Prop) (ρ : Sl) (w : World) : sx z Tryz.prog 47 dispatcherref09_expr_R0 K ρ w = dispatcherref09_expr_R0_F z K ρ w := by kernel_rfl
noncomputable def dispatcherref09_expr_R1_F (z : At) (K : Exit → Sl → World → Prop) (ρ : Sl) (w : World) : Prop :=
  W z Tryz.prog 47 dispatcherref09_expr_R3 (seqK (sx z Tryz.prog 47 dispatcherref09_expr_R4 K) K) ρ w
theorem dispatcherref09_expr_R1_eq (z : At) (K : Exit → Sl → World → Prop) (ρ : Sl) (w : World) : sx z Tryz.prog 47 dispatcherref09_expr_R1 K ρ w = dispatcherref09_expr_R1_F z K ρ w := by kernel_rfl
noncomputable def dispatcherref09_expr_R2_F (z : At) (K : Exit → Sl → World → Prop) (ρ : Sl) (w : World) : Prop :=
  CondK (ρ 16) (W z Tryz.prog 47 dispatcherref09_expr_R5 (seqK (sx z Tryz.prog 47 dispatcherref09_expr_R6 K) K) ρ w) (BK Tryz.prog BinOp.eql 5 (Operand.tmp 4) (Operand.const (Value.int IntKind.u8 1)) (ρ 4) (Value.int IntKind.u8 1) w fun x32 w => CondK x32 (sx z Tryz.prog 47 dispatcherref09_expr_R7 K (up (up ρ 32 x32) 31 x32) w) (BK Tryz.prog BinOp.eql 5 (Operand.tmp 4) (Operand.const (Value.int IntKind.u8 2)) (ρ 4) (Value.int IntKind.u8 2) w fun x33 w => CondK x33 (sx z Tryz.prog 47 dispatcherref09_expr_R7 K (up (up (up (up ρ 32 x32) 31 x32) 33 x33) 31 x33) w) (BK Tryz.prog BinOp.eql 5 (Operand.tmp 4) (Operand.const (Value.int IntKind.u8 5)) (ρ 4) (Value.int IntKind.u8 5) w fun x34 w => sx z Tryz.prog 47 dispatcherref09_expr_R7 K (up (up (up (up (up (up ρ 32 x32) 31 x32) 33 x33) 31 x33) 34 x34) 31 x34) w)))
theorem dispatcherref09_expr_R2_eq (z : At) (K : Exit → Sl → World → Prop) (ρ : Sl) (w : World) : sx z Tryz.prog 47 dispatcherref09_expr_R2 K ρ w = dispatcherref09_expr_R2_F z K ρ w := by kernel_rfl
noncomputable def dispatcherref09_expr_R3_ops : Array Oper := opsOf dispatcherref09_expr_R3
def dispatcherref09_expr_R3_Q (C : World → Prop) (K : Exit → Sl → World → Prop) (ρ : Sl) : Prop :=
  QK Tryz.prog C (do pure (Next.value (← Instr.fieldAt 85 (ρ 1) 3))) fun x35 => QK Tryz.prog C (do pure (Next.value (← Instr.loadAt 60 x35))) fun x36 => QK Tryz.prog C (do pure (Next.value (← Instr.indexAt 60 x36 (Value.int IntKind.i64 0)))) fun x37 => QK Tryz.prog C (do pure (Next.value (← Instr.loadAt 85 x37))) fun x38 => QK Tryz.prog C (do let d ← Deferred.ofValue (Value.func (Fn.func 83) #[] #[]) [x38].toArray; invoke d.target d.args) fun x39 => QK Tryz.prog C (do pure (Next.value (← Instr.fieldAt 85 (ρ 1) 3))) fun x40 => QK Tryz.prog C (do pure (Next.value (← Instr.loadAt 60 x40))) fun x41 => QK Tryz.prog C (do pure (Next.value (← Instr.indexAt 60 x41 (Value.int IntKind.i64 1)))) fun x42 => QK Tryz.prog C (do pure (Next.value (← Instr.loadAt 85 x42))) fun x43 => QK Tryz.prog C (do let d ← Deferred.ofValue (Value.func (Fn.func 83) #[] #[]) [x43].toArray; invoke d.target d.args) fun x44 => QK Tryz.prog C (do pure (Next.value (← (do eqGuard BinOp.add 3 (Operand.tmp 39) (Operand.tmp 44) x39 x44; binOp BinOp.add 3 x39 x44)))) fun x45 => QK Tryz.prog C (do pure (Next.value (← (do eqGuard BinOp.add 3 (Operand.tmp 45) (Operand.const (Value.int IntKind.i64 1)) x45 (Value.int IntKind.i64 1); binOp BinOp.add 3 x45 (Value.int IntKind.i64 1))))) fun x46 => ∀ w', C w' → K Exit.normal (up (up (up (up (up (up (up (up (up (up (up (up (up ρ 35 x35) 36 x36) 37 x37) 38 x38) 39 x39) 40 x40) 41 x41) 42 x42) 43 x43) 44 x44) 45 x45) 46 x46) 2 x46) w'
theorem dispatcherref09_expr_R3_quiet {D : List Deferred} (C : World → Prop) {K : Exit → Sl → World → Prop} {ρ : Sl} {w : World} (hC : C { w with drawn := w.drawn + 1 }) (h : dispatcherref09_expr_R3_Q C K ρ) : W ⟨none, D⟩ Tryz.prog 47 dispatcherref09_expr_R3 K ρ w := by
  have e : dispatcherref09_expr_R3 = .region (idOf dispatcherref09_expr_R3) dispatcherref09_expr_R3_ops true := by kernel_rfl
  have q : sxq Tryz.prog C dispatcherref09_expr_R3_ops (fun ρ' => ∀ w', C w' → K .normal ρ' w') dispatcherref09_expr_R3_ops.toList ρ = dispatcherref09_expr_R3_Q C K ρ := by kernel_rfl
  rw [e]
  exact W_quiet C (by kernel_rfl) (by kernel_rfl) (by kernel_rfl) hC (Eq.mpr q h)
noncomputable def dispatcherref09_expr_R4_F (z : At) (K : Exit → Sl → World → Prop) (ρ : Sl) (w : World) : Prop :=
  K Exit.ret ρ w
theorem dispatcherref09_expr_R4_eq (z : At) (K : Exit → Sl → World → Prop) (ρ : Sl) (w : World) : sx z Tryz.prog 47 dispatcherref09_expr_R4 K ρ w = dispatcherref09_expr_R4_F z K ρ w := by kernel_rfl
noncomputable def dispatcherref09_expr_R5_ops : Array Oper := opsOf dispatcherref09_expr_R5
def dispatcherref09_expr_R5_Q (C : World → Prop) (K : Exit → Sl → World → Prop) (ρ : Sl) : Prop :=
  QK Tryz.prog C (do pure (Next.value (← Instr.fieldAt 85 (ρ 1) 3))) fun x19 => QK Tryz.prog C (do pure (Next.value (← Instr.loadAt 60 x19))) fun x20 => QK Tryz.prog C (do pure (Next.value (← Instr.indexAt 60 x20 (Value.int IntKind.i64 0)))) fun x21 => QK Tryz.prog C (do pure (Next.value (← Instr.loadAt 85 x21))) fun x22 => QK Tryz.prog C (do let d ← Deferred.ofValue (Value.func (Fn.func 83) #[] #[]) [x22].toArray; invoke d.target d.args) fun x23 => QK Tryz.prog C (do pure (Next.value (← Instr.fieldAt 85 (ρ 1) 3))) fun x24 => QK Tryz.prog C (do pure (Next.value (← Instr.loadAt 60 x24))) fun x25 => QK Tryz.prog C (do pure (Next.value (← Instr.indexAt 60 x25 (Value.int IntKind.i64 1)))) fun x26 => QK Tryz.prog C (do pure (Next.value (← Instr.loadAt 85 x26))) fun x27 => QK Tryz.prog C (do let d ← Deferred.ofValue (Value.func (Fn.func 83) #[] #[]) [x27].toArray; invoke d.target d.args) fun x28 => QK Tryz.prog C (do pure (Next.value (← (do eqGuard BinOp.add 3 (Operand.tmp 23) (Operand.tmp 28) x23 x28; binOp BinOp.add 3 x23 x28)))) fun x29 => QK Tryz.prog C (do pure (Next.value (← (do eqGuard BinOp.add 3 (Operand.tmp 29) (Operand.const (Value.int IntKind.i64 3)) x29 (Value.int IntKind.i64 3); binOp BinOp.add 3 x29 (Value.int IntKind.i64 3))))) fun x30 => ∀ w', C w' → K Exit.normal (up (up (up (up (up (up (up (up (up (up (up (up (up ρ 19 x19) 20 x20) 21 x21) 22 x22) 23 x23) 24 x24) 25 x25) 26 x26) 27 x27) 28 x28) 29 x29) 30 x30) 2 x30) w'
theorem dispatcherref09_expr_R5_quiet {D : List Deferred} (C : World → Prop) {K : Exit → Sl → World → Prop} {ρ : Sl} {w : World} (hC : C { w with drawn := w.drawn + 1 }) (h : dispatcherref09_expr_R5_Q C K ρ) : W ⟨none, D⟩ Tryz.prog 47 dispatcherref09_expr_R5 K ρ w := by
  have e : dispatcherref09_expr_R5 = .region (idOf dispatcherref09_expr_R5) dispatcherref09_expr_R5_ops true := by kernel_rfl
  have q : sxq Tryz.prog C dispatcherref09_expr_R5_ops (fun ρ' => ∀ w', C w' → K .normal ρ' w') dispatcherref09_expr_R5_ops.toList ρ = dispatcherref09_expr_R5_Q C K ρ := by kernel_rfl
  rw [e]
  exact W_quiet C (by kernel_rfl) (by kernel_rfl) (by kernel_rfl) hC (Eq.mpr q h)
noncomputable def dispatcherref09_expr_R6_F (z : At) (K : Exit → Sl → World → Prop) (ρ : Sl) (w : World) : Prop :=
  K Exit.ret ρ w
theorem dispatcherref09_expr_R6_eq (z : At) (K : Exit → Sl → World → Prop) (ρ : Sl) (w : World) : sx z Tryz.prog 47 dispatcherref09_expr_R6 K ρ w = dispatcherref09_expr_R6_F z K ρ w := by kernel_rfl
noncomputable def dispatcherref09_expr_R7_F (z : At) (K : Exit → Sl → World → Prop) (ρ : Sl) (w : World) : Prop :=
  CondK (ρ 31) (K Exit.ret (up ρ 2 (Value.int IntKind.i64 1)) w) (K Exit.normal ρ w)
theorem dispatcherref09_expr_R7_eq (z : At) (K : Exit → Sl → World → Prop) (ρ : Sl) (w : World) : sx z Tryz.prog 47 dispatcherref09_expr_R7 K ρ w = dispatcherref09_expr_R7_F z K ρ w := by kernel_rfl
noncomputable def dispatcherref09_expr_F (a0 : Value) (w : World) (R : Value → World → Prop) : Prop :=
  VK Tryz.prog (Instr.box 85 a0) w fun x1 w => VK Tryz.prog (Instr.fieldAt 85 x1 0) w fun x3 w => VK Tryz.prog (Instr.loadAt 5 x3) w fun x4 w => BK Tryz.prog BinOp.eql 5 (Operand.tmp 4) (Operand.const (Value.int IntKind.u8 3)) x4 (Value.int IntKind.u8 3) w fun x6 w => CondK x6 (sx fn_ Tryz.prog 47 dispatcherref09_expr_R0 (blkK 0 (seqK (sx fn_ Tryz.prog 47 dispatcherref09_expr_R1 (retK Tryz.prog [ResultVar.tmp 2] R)) (retK Tryz.prog [ResultVar.tmp 2] R))) (up (up (up (up (up (up (rho0 [a0]) 1 x1) 2 (Value.int IntKind.i64 0)) 3 x3) 4 x4) 6 x6) 5 x6) w) (BK Tryz.prog BinOp.eql 5 (Operand.tmp 4) (Operand.const (Value.int IntKind.u8 4)) x4 (Value.int IntKind.u8 4) w fun x7 w => CondK x7 (sx fn_ Tryz.prog 47 dispatcherref09_expr_R0 (blkK 0 (seqK (sx fn_ Tryz.prog 47 dispatcherref09_expr_R1 (retK Tryz.prog [ResultVar.tmp 2] R)) (retK Tryz.prog [ResultVar.tmp 2] R))) (up (up (up (up (up (up (up (up (rho0 [a0]) 1 x1) 2 (Value.int IntKind.i64 0)) 3 x3) 4 x4) 6 x6) 5 x6) 7 x7) 5 x7) w) (BK Tryz.prog BinOp.eql 5 (Operand.tmp 4) (Operand.const (Value.int IntKind.u8 6)) x4 (Value.int IntKind.u8 6) w fun x8 w => CondK x8 (sx fn_ Tryz.prog 47 dispatcherref09_expr_R0 (blkK 0 (seqK (sx fn_ Tryz.prog 47 dispatcherref09_expr_R1 (retK Tryz.prog [ResultVar.tmp 2] R)) (retK Tryz.prog [ResultVar.tmp 2] R))) (up (up (up (up (up (up (up (up (up (up (rho0 [a0]) 1 x1) 2 (Value.int IntKind.i64 0)) 3 x3) 4 x4) 6 x6) 5 x6) 7 x7) 5 x7) 8 x8) 5 x8) w) (BK Tryz.prog BinOp.eql 5 (Operand.tmp 4) (Operand.const (Value.int IntKind.u8 7)) x4 (Value.int IntKind.u8 7) w fun x9 w => sx fn_ Tryz.prog 47 dispatcherref09_expr_R0 (blkK 0 (seqK (sx fn_ Tryz.prog 47 dispatcherref09_expr_R1 (retK Tryz.prog [ResultVar.tmp 2] R)) (retK Tryz.prog [ResultVar.tmp 2] R))) (up (up (up (up (up (up (up (up (up (up (up (up (rho0 [a0]) 1 x1) 2 (Value.int IntKind.i64 0)) 3 x3) 4 x4) 6 x6) 5 x6) 7 x7) 5 x7) 8 x8) 5 x8) 9 x9) 5 x9) w)))
theorem dispatcherref09_expr_eq (a0 : Value) (w : World) (R : Value → World → Prop) : sx fn_ Tryz.prog 47 dispatcherref09_expr_b (retK Tryz.prog Tryz.f83.results.toList R) (rho0 [a0]) w = dispatcherref09_expr_F a0 w R := by kernel_rfl
theorem dispatcherref09_expr_calls {a0 : Value} {w : World} {R : Value → World → Prop} (h : dispatcherref09_expr_F a0 w R) : Calls Tryz.prog 83 #[a0] w fun e w' => ∃ v, e = .returned v ∧ R v w' :=
  Go.X.calls_of_sx (n := 47) (c := dispatcherref09_expr_b) Tryz.func83 (by kernel_rfl) (by kernel_rfl) (Nat.le_of_ble_eq_true rfl) (by kernel_rfl) (Eq.mpr (dispatcherref09_expr_eq a0 w R) h)
end Go.Proofs.YtpkfbaagpjdifaaGreatDoor.XF
set_option linter.unusedVariables false
namespace Go.Proofs.YtpkfbaagpjdifaaGreatDoor.XK
open Go Go.X
theorem fo25_0 {w : World} {K : Value → World → Prop} (a : Addr) : VK Tryz.prog (Instr.fieldAt 25 (.pointer (some a)) 0) w K = K (.pointer (some (a.add 0))) w := fo (by kernel_rfl) a
theorem fo25_1 {w : World} {K : Value → World → Prop} (a : Addr) : VK Tryz.prog (Instr.fieldAt 25 (.pointer (some a)) 1) w K = K (.pointer (some (a.add 1))) w := fo (by kernel_rfl) a
theorem fo48_0 {w : World} {K : Value → World → Prop} (a : Addr) : VK Tryz.prog (Instr.fieldAt 48 (.pointer (some a)) 0) w K = K (.pointer (some (a.add 0))) w := fo (by kernel_rfl) a
theorem fo48_1 {w : World} {K : Value → World → Prop} (a : Addr) : VK Tryz.prog (Instr.fieldAt 48 (.pointer (some a)) 1) w K = K (.pointer (some (a.add 1))) w := fo (by kernel_rfl) a
theorem fo62_0 {w : World} {K : Value → World → Prop} (a : Addr) : VK Tryz.prog (Instr.fieldAt 62 (.pointer (some a)) 0) w K = K (.pointer (some (a.add 0))) w := fo (by kernel_rfl) a
theorem fo62_1 {w : World} {K : Value → World → Prop} (a : Addr) : VK Tryz.prog (Instr.fieldAt 62 (.pointer (some a)) 1) w K = K (.pointer (some (a.add 1))) w := fo (by kernel_rfl) a
theorem fo62_2 {w : World} {K : Value → World → Prop} (a : Addr) : VK Tryz.prog (Instr.fieldAt 62 (.pointer (some a)) 2) w K = K (.pointer (some (a.add 2))) w := fo (by kernel_rfl) a
theorem fo62_3 {w : World} {K : Value → World → Prop} (a : Addr) : VK Tryz.prog (Instr.fieldAt 62 (.pointer (some a)) 3) w K = K (.pointer (some (a.add 3))) w := fo (by kernel_rfl) a
theorem fo62_4 {w : World} {K : Value → World → Prop} (a : Addr) : VK Tryz.prog (Instr.fieldAt 62 (.pointer (some a)) 4) w K = K (.pointer (some (a.add 4))) w := fo (by kernel_rfl) a
theorem fo62_5 {w : World} {K : Value → World → Prop} (a : Addr) : VK Tryz.prog (Instr.fieldAt 62 (.pointer (some a)) 5) w K = K (.pointer (some (a.add 5))) w := fo (by kernel_rfl) a
theorem fo62_6 {w : World} {K : Value → World → Prop} (a : Addr) : VK Tryz.prog (Instr.fieldAt 62 (.pointer (some a)) 6) w K = K (.pointer (some (a.add 6))) w := fo (by kernel_rfl) a
theorem fo62_7 {w : World} {K : Value → World → Prop} (a : Addr) : VK Tryz.prog (Instr.fieldAt 62 (.pointer (some a)) 7) w K = K (.pointer (some (a.add 7))) w := fo (by kernel_rfl) a
theorem fo85_0 {w : World} {K : Value → World → Prop} (a : Addr) : VK Tryz.prog (Instr.fieldAt 85 (.pointer (some a)) 0) w K = K (.pointer (some (a.add 0))) w := fo (by kernel_rfl) a
theorem fo85_1 {w : World} {K : Value → World → Prop} (a : Addr) : VK Tryz.prog (Instr.fieldAt 85 (.pointer (some a)) 1) w K = K (.pointer (some (a.add 1))) w := fo (by kernel_rfl) a
theorem fo85_2 {w : World} {K : Value → World → Prop} (a : Addr) : VK Tryz.prog (Instr.fieldAt 85 (.pointer (some a)) 2) w K = K (.pointer (some (a.add 2))) w := fo (by kernel_rfl) a
theorem fo85_3 {w : World} {K : Value → World → Prop} (a : Addr) : VK Tryz.prog (Instr.fieldAt 85 (.pointer (some a)) 3) w K = K (.pointer (some (a.add 3))) w := fo (by kernel_rfl) a
theorem ld2 {w : World} {K : Value → World → Prop} (a : Addr) : VK Tryz.prog (Instr.loadAt 2 (.pointer (some a))) w K = ldK (w.cell? a) (ldStuck Tryz.prog 2 a K w) K w := ldE Tryz.underlying2 rfl a
theorem ld3 {w : World} {K : Value → World → Prop} (a : Addr) : VK Tryz.prog (Instr.loadAt 3 (.pointer (some a))) w K = ldK (w.cell? a) (ldStuck Tryz.prog 3 a K w) K w := ldE Tryz.underlying3 rfl a
theorem ld5 {w : World} {K : Value → World → Prop} (a : Addr) : VK Tryz.prog (Instr.loadAt 5 (.pointer (some a))) w K = ldK (w.cell? a) (ldStuck Tryz.prog 5 a K w) K w := ldE Tryz.underlying5 rfl a
theorem ld9 {w : World} {K : Value → World → Prop} (a : Addr) : VK Tryz.prog (Instr.loadAt 9 (.pointer (some a))) w K = ldK (w.cell? a) (ldStuck Tryz.prog 9 a K w) K w := ldE Tryz.underlying9 rfl a
theorem ld22 {w : World} {K : Value → World → Prop} (a : Addr) : VK Tryz.prog (Instr.loadAt 22 (.pointer (some a))) w K = ldK (w.cell? a) (ldStuck Tryz.prog 22 a K w) K w := ldE Tryz.underlying22 rfl a
theorem ld23 {w : World} {K : Value → World → Prop} (a : Addr) : VK Tryz.prog (Instr.loadAt 23 (.pointer (some a))) w K = ldK (w.cell? a) (ldStuck Tryz.prog 23 a K w) K w := ldE Tryz.underlying23 rfl a
theorem ld60 {w : World} {K : Value → World → Prop} (a : Addr) : VK Tryz.prog (Instr.loadAt 60 (.pointer (some a))) w K = ldK (w.cell? a) (ldStuck Tryz.prog 60 a K w) K w := ldE Tryz.underlying60 rfl a
theorem len9 {w : World} {K : Value → World → Prop} (ty : TypeId) (cs : List Bool) (s : ByteArray) : IK Tryz.prog .len #[9] ty cs [.string s] w K = K (.int .i64 s.size) w := len_str Tryz.underlying9 cs s
theorem len22 {w : World} {K : Value → World → Prop} (ty : TypeId) (cs : List Bool) (A : Option Addr) (n c : Nat) : IK Tryz.prog .len #[22] ty cs [.slice A n c] w K = K (.int .i64 n) w := len_sl Tryz.underlying22 cs A n c
theorem len23 {w : World} {K : Value → World → Prop} (ty : TypeId) (cs : List Bool) (A : Option Addr) (n c : Nat) : IK Tryz.prog .len #[23] ty cs [.slice A n c] w K = K (.int .i64 n) w := len_sl Tryz.underlying23 cs A n c
theorem len60 {w : World} {K : Value → World → Prop} (ty : TypeId) (cs : List Bool) (A : Option Addr) (n c : Nat) : IK Tryz.prog .len #[60] ty cs [.slice A n c] w K = K (.int .i64 n) w := len_sl Tryz.underlying60 cs A n c
theorem len111 {w : World} {K : Value → World → Prop} (ty : TypeId) (cs : List Bool) (A : Option Addr) (n c : Nat) : IK Tryz.prog .len #[111] ty cs [.slice A n c] w K = K (.int .i64 n) w := len_sl Tryz.underlying111 cs A n c
end Go.Proofs.YtpkfbaagpjdifaaGreatDoor.XK
set_option linter.unusedVariables false
namespace Go.X
open Go Go.RowKit
/-- What a measure of readings must be. -/
structure Bulk where
  B : {H : Type} → DataW H → Nat
  one : ∀ {H : Type} (d : DataW H), 1 ≤ B d
  str : ∀ {H : Type} (b : List UInt8), b.length + 1 ≤ B (.lit (.string b) : DataW H)
  slice : ∀ {H : Type} (es sp : List (DataW H)), (es.map B).sum + 1 ≤ B (.slice es sp)
  agg : ∀ {H : Type} (es : List (DataW H)), (es.map B).sum + 1 ≤ B (.agg es)
/-- A shape: how many cells, when cells read so, and how much that is. -/
structure ShM (α : Type) extends Sh α where
  m : α → Nat
structure OpensM (U : Bulk) (P : Program) (n : Nat) {α : Type} (k : ShM α) (t : TypeId) : Prop where
  go : ∀ {H : Type} {enc : TypeId × Value → H} {w : World} {base : Nat} {sp : Nat → Bool} {hd : Bool} {cs : List Value} {x : DataW H × List MemPlace}, DataW.trod enc P w base sp hd n t cs = some x → ∃ v : α, k.K w v cs ∧ k.m v ≤ U.B x.1
def ShM.int (k : IntKind) : ShM Int := { Sh.int k with m := fun _ => 1 }
def ShM.bool : ShM Bool := { Sh.bool with m := fun _ => 1 }
def ShM.string : ShM ByteArray := { Sh.string with m := fun s => s.size + 1 }
def ShM.slice {α : Type} (k : ShM α) : ShM (Value × List α) := { Sh.slice k.toSh with m := fun x => (x.2.map k.m).sum + 1 }
def ShM.pair {α β : Type} (a : ShM α) (b : ShM β) : ShM (α × β) := { Sh.pair a.toSh b.toSh with m := fun x => a.m x.1 + b.m x.2 }
section
variable {U : Bulk} {P : Program} {n : Nat}
theorem opensM_int {k : IntKind} {t : TypeId} (h : P.underlying t = some (.int k)) : OpensM U P n (ShM.int k) t :=
  ⟨fun hx => (opens_int h).go hx |>.imp fun v hv => ⟨hv, U.one _⟩⟩
theorem opensM_bool {t : TypeId} (h : P.underlying t = some .bool) : OpensM U P n ShM.bool t :=
  ⟨fun hx => (opens_bool h).go hx |>.imp fun v hv => ⟨hv, U.one _⟩⟩
theorem opensM_string {t : TypeId} (h : P.underlying t = some .string) : OpensM U P n ShM.string t := by
  constructor
  intro H enc w base sp hd cs x hx
  obtain ⟨v, rfl, hv⟩ := (opens_string h).go hx
  refine ⟨v, ⟨rfl, hv⟩, ?_⟩
  cases n with
  | zero => simp [DataW.trod] at hx
  | succ n =>
    unfold DataW.trod at hx
    rw [h] at hx
    simp only at hx
    split at hx
    · cases hx
      have := U.str (H := H) v.data.toList
      show v.size + 1 ≤ U.B (.lit (.string v.data.toList))
      rw [Array.length_toList] at this
      exact this
    · rename_i q
      exact absurd hv q
theorem sum_le {α β : Type} {f : α → Nat} {g : β → Nat} : ∀ {l : List α} {r : List β}, l.length = r.length → (∀ (i : Nat) a b, l[i]? = some a → r[i]? = some b → f a ≤ g b) → (l.map f).sum ≤ (r.map g).sum
  | [], [], _, _ => Nat.le_refl _
  | a :: l, b :: r, hl, h => by
    have h0 := h 0 a b rfl rfl
    have := sum_le (l := l) (r := r) (by simpa using hl) (fun i x y hx hy => h (i + 1) x y (by simpa using hx) (by simpa using hy))
    simp only [List.map_cons, List.sum_cons]
    omega
  | [], _ :: _, hl, _ => by simp at hl
  | _ :: _, [], hl, _ => by simp at hl
theorem opensM_slice {α : Type} {k : ShM α} {t e : TypeId} (h : P.underlying t = some (.slice e)) (hs : P.cellsOf e = k.sz) (he : ∀ m, m < n → OpensM U P m k e) : OpensM U P n (ShM.slice k) t := by
  constructor
  intro H enc w base sp hd cs x hx
  rcases DataW.trod_slice h hx with ⟨rfl, rfl⟩ | ⟨a, len, cap, elems, rest, m, hn, rfl, rfl, hb, hl, hm, hlen, hel, _, _⟩
  · exact ⟨(.slice none 0 0, []), ⟨rfl, by simp, none, 0, rfl, Nat.le_refl _, by simp⟩, U.one _⟩
  · have key : ∀ i, i < len → ∃ v : α, (∃ c, c.length = k.sz ∧ k.K w v c ∧ ∀ j u, c[j]? = some u → w.cell? (a.add (i * k.sz + j)) = some u) ∧ ∀ d, elems[i]? = some d → k.m v ≤ U.B d.1 := by
      intro i hi
      have h1 := hel i hi
      rw [List.getElem?_eq_getElem (show i < elems.length by omega)] at h1
      obtain ⟨c, hc, ht⟩ := Option.bind_eq_some_iff.1 h1
      obtain ⟨_, hcl, hcell⟩ := World.cells?_some hc
      obtain ⟨v, hv, hvm⟩ := (he m (by omega)).go ht
      refine ⟨v, ⟨c, by rw [hcl, hs], hv, fun j u hu => ?_⟩, fun d hd => ?_⟩
      · have hj : j < P.cellsOf e := by
          rcases Nat.lt_or_ge j c.length with q | q
          · omega
          · rw [List.getElem?_eq_none q] at hu; cases hu
        have := hcell j hj
        rw [hu] at this
        rw [← this, ← hs, add_add]
      · rw [List.getElem?_eq_getElem (show i < elems.length by omega)] at hd
        cases hd
        exact hvm
    obtain ⟨l, hll, hq⟩ := choose_list len key
    refine ⟨(.slice (some a) len cap, l), ⟨rfl, ?_, some a, cap, by rw [hll], by show l.length ≤ cap; omega, fun i y hy => ?_⟩, ?_⟩
    · show l.length ≤ maxLen; omega
    · obtain ⟨⟨d, h1, h2, h3⟩, _⟩ := hq i y hy
      exact ⟨a, d, rfl, h1, h2, h3⟩
    · show (l.map k.m).sum + 1 ≤ _
      refine Nat.le_trans (Nat.add_le_add_right (sum_le (r := elems) (g := fun d => U.B d.1) (by omega) (fun i u d hu hd => (hq i u hu).2 d hd)) 1) ?_
      have := U.slice (elems.map (·.1)) (rest.map (·.1))
      rw [List.map_map] at this
      exact this
structure FieldsM (U : Bulk) (P : Program) (n : Nat) {α : Type} (k : ShM α) (fs : List Field) (off : Nat) : Prop where
  go : ∀ {H : Type} {enc : TypeId × Value → H} {w : World} {base : Nat} {sp : Nat → Bool} {hd : Bool} {cs : List Value} {xs : List (DataW H × List MemPlace)}, cs.length = off + k.sz → xs.length = fs.length →
    (∀ (i : Nat) f x, fs[i]? = some f → xs[i]? = some x → DataW.trod enc P w base sp hd n f.type ((cs.drop f.offset).take (P.cellsOf f.type)) = some x) → ∃ v : α, k.K w v (cs.drop off) ∧ k.m v ≤ (xs.map fun x => U.B x.1).sum
theorem fieldsM_one {α : Type} {k : ShM α} {f : Field} {off : Nat} (ho : f.offset = off) (hs : P.cellsOf f.type = k.sz) (h : OpensM U P n k f.type) : FieldsM U P n k [f] off := by
  constructor
  intro H enc w base sp hd cs xs hl hxl hx
  match xs, hxl with
  | [x], _ =>
    have hx := hx 0 f x rfl rfl
    rw [ho, List.take_of_length_le (by simp [hs]; omega)] at hx
    obtain ⟨v, hv, hm⟩ := h.go hx
    exact ⟨v, hv, by simpa using hm⟩
theorem fieldsM_cons {α β : Type} {a : ShM α} {b : ShM β} {f : Field} {fs : List Field} {off : Nat} (ho : f.offset = off) (hs : P.cellsOf f.type = a.sz) (h : OpensM U P n a f.type) (hr : FieldsM U P n b fs (off + a.sz)) : FieldsM U P n (ShM.pair a b) (f :: fs) off := by
  constructor
  intro H enc w base sp hd cs xs hl hxl hx
  match xs, hxl with
  | x :: r, hxl =>
    have hx0 := hx 0 f x rfl rfl
    rw [ho, hs] at hx0
    have hl' : cs.length = off + (a.sz + b.sz) := hl
    obtain ⟨u, hu, hum⟩ := h.go hx0
    obtain ⟨v, hv, hvm⟩ := hr.go (cs := cs) (xs := r) (by omega) (by simpa using hxl) (fun i g y hg hy => hx (i + 1) g y (by simpa using hg) (by simpa using hy))
    refine ⟨(u, v), ⟨(cs.drop off).take a.sz, cs.drop (off + a.sz), ?_, ?_, hu, hv⟩, ?_⟩
    · rw [← List.drop_drop, List.take_append_drop]
    · rw [List.length_take, List.length_drop]; omega
    · show a.m u + b.m v ≤ _
      simp only [List.map_cons, List.sum_cons]
      omega
theorem opensM_struct {α : Type} {k : ShM α} {t : TypeId} {fs : Array Field} (h : P.underlying t = some (.struct fs)) (hs : P.cellsOf t = k.sz) (hf : ∀ m, m < n → FieldsM U P m k fs.toList 0) : OpensM U P n ({ k with m := fun v => k.m v + 1 } : ShM α) t := by
  constructor
  intro H enc w base sp hd cs x hx
  obtain ⟨xs, m, hn, rfl, hl, hxl, hfs⟩ := DataW.trod_struct h hx
  obtain ⟨v, hv, hm⟩ := (hf m (by omega)).go (cs := cs) (H := H) (enc := enc) (w := w) (base := base) (sp := sp) (hd := hd) (xs := xs) (by rw [hl, hs]; omega) (by simpa using hxl) (fun i f x hi hx => by
    have h1 := hfs i f (by rw [← Array.getElem?_toList]; exact hi)
    rw [hx] at h1
    exact h1)
  refine ⟨v, by simpa using hv, ?_⟩
  have := U.agg (xs.map (·.1))
  rw [List.map_map] at this
  exact Nat.le_trans (Nat.add_le_add_right hm 1) this
/-- Another way to say what is read. -/
theorem opensM_as {α β : Type} {k : ShM α} {k' : ShM β} {t : TypeId} (h : OpensM U P n k t) (f : α → β) (hf : ∀ w v cs, k.K w v cs → k'.K w (f v) cs) (hm : ∀ v, k'.m (f v) ≤ k.m v) : OpensM U P n k' t := by
  constructor
  intro H enc w base sp hd cs x hx
  obtain ⟨v, hv, hvm⟩ := h.go hx
  exact ⟨f v, hf _ _ _ hv, Nat.le_trans (hm v) hvm⟩
end
end Go.X
set_option linter.unusedVariables false
namespace Go.X
open Go Go.RowKit
structure Ex where
  op : Int
  num : Int
  name : ByteArray
  s : Value
  args : List Ex
  line : Int
  col : Int
def Ex.cells (e : Ex) : List Value := [.int .u8 e.op, .int .i64 e.num, .string e.name, e.s, .int .i64 e.line, .int .i64 e.col]
def Ex.v (e : Ex) : Value := .agg e.cells.toArray
def Ex.fine (e : Ex) : Prop := (Lit.int .u8 e.op).wf = true ∧ (Lit.int .i64 e.num).wf = true ∧ e.name.size ≤ maxLen ∧ (Lit.int .i64 e.line).wf = true ∧ (Lit.int .i64 e.col).wf = true
mutual
def Ex.Ok (w : World) : Ex → Prop
  | ⟨op, num, name, s, args, line, col⟩ => reads w 6 s args.length (args.flatMap Ex.cells) ∧ Ex.fine ⟨op, num, name, s, args, line, col⟩ ∧ Ex.OkL w args
def Ex.OkL (w : World) : List Ex → Prop
  | [] => True
  | e :: r => Ex.Ok w e ∧ Ex.OkL w r
end
mutual
def Ex.sz : Ex → Nat
  | ⟨_, _, name, _, args, _, _⟩ => 1 + name.size + Ex.szL args
def Ex.szL : List Ex → Nat
  | [] => 0
  | e :: r => Ex.sz e + Ex.szL r
end
structure St where
  op : Int
  kind : Int
  red : Int
  name : ByteArray
  turns : Int
  es : Value
  exprs : List Ex
  bs : Value
  body : List St
  ls : Value
  els : List St
  line : Int
  col : Int
def St.cells (e : St) : List Value := [.int .u8 e.op, .int .u8 e.kind, .int .u8 e.red, .string e.name, .int .i64 e.turns, e.es, e.bs, e.ls, .int .i64 e.line, .int .i64 e.col]
def St.v (e : St) : Value := .agg e.cells.toArray
def St.fine (e : St) : Prop := (Lit.int .u8 e.op).wf = true ∧ (Lit.int .u8 e.kind).wf = true ∧ (Lit.int .u8 e.red).wf = true ∧ e.name.size ≤ maxLen ∧ (Lit.int .i64 e.turns).wf = true ∧ (Lit.int .i64 e.line).wf = true ∧ (Lit.int .i64 e.col).wf = true
mutual
def St.Ok (w : World) : St → Prop
  | ⟨op, kind, red, name, turns, es, exprs, bs, body, ls, els, line, col⟩ => (reads w 6 es exprs.length (exprs.flatMap Ex.cells) ∧ Ex.OkL w exprs) ∧ (reads w 10 bs body.length (body.flatMap St.cells) ∧ St.OkL w body) ∧ (reads w 10 ls els.length (els.flatMap St.cells) ∧ St.OkL w els) ∧ St.fine ⟨op, kind, red, name, turns, es, exprs, bs, body, ls, els, line, col⟩
def St.OkL (w : World) : List St → Prop
  | [] => True
  | e :: r => St.Ok w e ∧ St.OkL w r
end
mutual
def St.sz : St → Nat
  | ⟨_, _, _, name, _, _, exprs, _, body, _, els, _, _⟩ => 1 + name.size + Ex.szL exprs + St.szL body + St.szL els
def St.szL : List St → Nat
  | [] => 0
  | e :: r => St.sz e + St.szL r
end
theorem Ex.ind {Q : Ex → Prop} (h : ∀ e : Ex, (∀ a ∈ e.args, Q a) → Q e) : ∀ e, Q e := by
  intro e
  refine Ex.rec (motive_1 := Q) (motive_2 := fun l => ∀ a ∈ l, Q a) (fun op num name s args line col ih => h _ ih) (fun a ha => by cases ha) (fun e r he hr a ha => ?_) e
  rcases List.mem_cons.1 ha with rfl | ha
  · exact he
  · exact hr a ha
theorem St.ind {Q : St → Prop} (h : ∀ e : St, (∀ a ∈ e.body, Q a) → (∀ a ∈ e.els, Q a) → Q e) : ∀ e, Q e := by
  intro e
  refine St.rec (motive_1 := Q) (motive_2 := fun l => ∀ a ∈ l, Q a) (fun op kind red name turns es exprs bs body ls els line col ih1 ih2 => h _ ih1 ih2) (fun a ha => by cases ha) (fun e r he hr a ha => ?_) e
  rcases List.mem_cons.1 ha with rfl | ha
  · exact he
  · exact hr a ha
theorem Ex.okL {w : World} : ∀ {l : List Ex}, Ex.OkL w l ↔ ∀ a ∈ l, a.Ok w
  | [] => by simp [Ex.OkL]
  | e :: r => by simp [Ex.OkL, Ex.okL (l := r)]
theorem St.okL {w : World} : ∀ {l : List St}, St.OkL w l ↔ ∀ a ∈ l, a.Ok w
  | [] => by simp [St.OkL]
  | e :: r => by simp [St.OkL, St.okL (l := r)]
theorem Ex.ok {w : World} {e : Ex} : e.Ok w ↔ reads w 6 e.s e.args.length (e.args.flatMap Ex.cells) ∧ e.fine ∧ ∀ a ∈ e.args, a.Ok w := by
  obtain ⟨op, num, name, s, args, line, col⟩ := e
  rw [Ex.Ok, Ex.okL]
theorem St.ok {w : World} {e : St} : e.Ok w ↔ (reads w 6 e.es e.exprs.length (e.exprs.flatMap Ex.cells) ∧ ∀ a ∈ e.exprs, a.Ok w) ∧ (reads w 10 e.bs e.body.length (e.body.flatMap St.cells) ∧ ∀ a ∈ e.body, a.Ok w) ∧ (reads w 10 e.ls e.els.length (e.els.flatMap St.cells) ∧ ∀ a ∈ e.els, a.Ok w) ∧ e.fine := by
  obtain ⟨op, kind, red, name, turns, es, exprs, bs, body, ls, els, line, col⟩ := e
  rw [St.Ok, Ex.okL, St.okL, St.okL]
/-- Blocks that were there are as they were: trees stay. -/
theorem Ex.Ok.mod {w w' : World} (hm : Mod none_ w w') : ∀ {e : Ex}, e.Ok w → e.Ok w' := by
  intro e
  induction e using Ex.ind with
  | h e ih =>
    intro h
    obtain ⟨h1, h2, h3⟩ := Ex.ok.1 h
    exact Ex.ok.2 ⟨reads_mod h1 hm (fun _ _ _ => id), h2, fun a ha => ih a ha (h3 a ha)⟩
theorem St.Ok.mod {w w' : World} (hm : Mod none_ w w') : ∀ {e : St}, e.Ok w → e.Ok w' := by
  intro e
  induction e using St.ind with
  | h e ih1 ih2 =>
    intro h
    obtain ⟨⟨h1, h2⟩, ⟨h3, h4⟩, ⟨h5, h6⟩, h7⟩ := St.ok.1 h
    exact St.ok.2 ⟨⟨reads_mod h1 hm (fun _ _ _ => id), fun a ha => (h2 a ha).mod hm⟩, ⟨reads_mod h3 hm (fun _ _ _ => id), fun a ha => ih1 a ha (h4 a ha)⟩, ⟨reads_mod h5 hm (fun _ _ _ => id), fun a ha => ih2 a ha (h6 a ha)⟩, h7⟩
/-- A row of expressions, of statements. -/
def ExsOk (w : World) (s : Value) (l : List Ex) : Prop := reads w 6 s l.length (l.flatMap Ex.cells) ∧ ∀ a ∈ l, a.Ok w
def StsOk (w : World) (s : Value) (l : List St) : Prop := reads w 10 s l.length (l.flatMap St.cells) ∧ ∀ a ∈ l, a.Ok w
theorem ExsOk.mod {w w' : World} {s : Value} {l : List Ex} (h : ExsOk w s l) (hm : Mod none_ w w') : ExsOk w' s l := ⟨reads_mod h.1 hm (fun _ _ _ => id), fun a ha => (h.2 a ha).mod hm⟩
theorem StsOk.mod {w w' : World} {s : Value} {l : List St} (h : StsOk w s l) (hm : Mod none_ w w') : StsOk w' s l := ⟨reads_mod h.1 hm (fun _ _ _ => id), fun a ha => (h.2 a ha).mod hm⟩
theorem Ex.Ok.args {w : World} {e : Ex} (h : e.Ok w) : ExsOk w e.s e.args := ⟨(Ex.ok.1 h).1, (Ex.ok.1 h).2.2⟩
theorem Ex.Ok.fine {w : World} {e : Ex} (h : e.Ok w) : e.fine := (Ex.ok.1 h).2.1
theorem St.Ok.exprs {w : World} {e : St} (h : e.Ok w) : ExsOk w e.es e.exprs := (St.ok.1 h).1
theorem St.Ok.body {w : World} {e : St} (h : e.Ok w) : StsOk w e.bs e.body := (St.ok.1 h).2.1
theorem St.Ok.els {w : World} {e : St} (h : e.Ok w) : StsOk w e.ls e.els := (St.ok.1 h).2.2.1
theorem St.Ok.fine {w : World} {e : St} (h : e.Ok w) : e.fine := (St.ok.1 h).2.2.2
theorem Ex.cells_len (e : Ex) : e.cells.length = 6 := rfl
theorem St.cells_len (e : St) : e.cells.length = 10 := rfl
theorem ExsOk.at {w : World} {s : Value} {l : List Ex} (h : ExsOk w s l) {i : Nat} {e : Ex} (hi : l[i]? = some e) : e.Ok w := h.2 e (List.mem_of_getElem? hi)
theorem StsOk.at {w : World} {s : Value} {l : List St} (h : StsOk w s l) {i : Nat} {e : St} (hi : l[i]? = some e) : e.Ok w := h.2 e (List.mem_of_getElem? hi)
theorem Ex.sz_eq (e : Ex) : e.sz = 1 + e.name.size + Ex.szL e.args := by obtain ⟨op, num, name, s, args, line, col⟩ := e; rw [Ex.sz]
theorem St.sz_eq (e : St) : e.sz = 1 + e.name.size + Ex.szL e.exprs + St.szL e.body + St.szL e.els := by obtain ⟨op, kind, red, name, turns, es, exprs, bs, body, ls, els, line, col⟩ := e; rw [St.sz]
theorem Ex.szL_eq : ∀ l : List Ex, Ex.szL l = (l.map Ex.sz).sum
  | [] => by simp [Ex.szL]
  | e :: r => by simp [Ex.szL, Ex.szL_eq r]
theorem St.szL_eq : ∀ l : List St, St.szL l = (l.map St.sz).sum
  | [] => by simp [St.szL]
  | e :: r => by simp [St.szL, St.szL_eq r]
theorem Ex.c0 (e : Ex) : e.cells[0]? = some (.int .u8 e.op) := rfl
theorem Ex.c1 (e : Ex) : e.cells[1]? = some (.int .i64 e.num) := rfl
theorem Ex.c2 (e : Ex) : e.cells[2]? = some (.string e.name) := rfl
theorem Ex.c3 (e : Ex) : e.cells[3]? = some e.s := rfl
theorem Ex.c4 (e : Ex) : e.cells[4]? = some (.int .i64 e.line) := rfl
theorem Ex.c5 (e : Ex) : e.cells[5]? = some (.int .i64 e.col) := rfl
theorem St.c0 (e : St) : e.cells[0]? = some (.int .u8 e.op) := rfl
theorem St.c1 (e : St) : e.cells[1]? = some (.int .u8 e.kind) := rfl
theorem St.c2 (e : St) : e.cells[2]? = some (.int .u8 e.red) := rfl
theorem St.c3 (e : St) : e.cells[3]? = some (.string e.name) := rfl
theorem St.c4 (e : St) : e.cells[4]? = some (.int .i64 e.turns) := rfl
theorem St.c5 (e : St) : e.cells[5]? = some e.es := rfl
theorem St.c6 (e : St) : e.cells[6]? = some e.bs := rfl
theorem St.c7 (e : St) : e.cells[7]? = some e.ls := rfl
theorem St.c8 (e : St) : e.cells[8]? = some (.int .i64 e.line) := rfl
theorem St.c9 (e : St) : e.cells[9]? = some (.int .i64 e.col) := rfl
end Go.X
set_option linter.unusedVariables false
namespace Go.X
open Go Go.RowKit
/-- Words, as bytes. -/
def wordsL : List (List UInt8) := [[105, 110, 116], [105, 102], [101, 108, 115, 101], [119, 104, 105, 108, 101], [102, 111, 114], [97, 115, 115, 101, 114, 116], [115, 116, 111, 112], [114, 97, 110, 107], [115, 105, 122, 101], [97, 110, 121], [118, 97, 108, 117, 101], [112, 101, 101, 114], [116, 97, 103], [102, 108, 97, 103], [105, 110, 100, 101, 120], [114, 101, 113], [99, 111, 109, 109], [114, 111, 119], [115, 117, 109], [109, 97, 120], [109, 105, 110], [115, 101, 110, 100], [115, 115, 101, 110, 100], [98, 115, 101, 110, 100], [105, 115, 101, 110, 100], [105, 115, 115, 101, 110, 100], [114, 101, 99, 118], [105, 114, 101, 99, 118], [112, 114, 111, 98, 101], [105, 112, 114, 111, 98, 101], [119, 97, 105, 116], [119, 97, 105, 116, 97, 108, 108], [119, 97, 105, 116, 97, 110, 121], [116, 101, 115, 116], [116, 101, 115, 116, 97, 110, 121], [98, 97, 114, 114, 105, 101, 114], [98, 99, 97, 115, 116], [114, 101, 100, 117, 99, 101], [97, 108, 108, 114, 101, 100, 117, 99, 101], [103, 97, 116, 104, 101, 114], [100, 117, 112], [115, 112, 108, 105, 116], [102, 114, 101, 101]]
def plainL : List (List UInt8) := [[114, 97, 110, 107], [115, 105, 122, 101], [97, 110, 121], [118, 97, 108, 117, 101], [112, 101, 101, 114], [116, 97, 103], [102, 108, 97, 103], [105, 110, 100, 101, 120], [114, 101, 113], [99, 111, 109, 109]]
/-- Texts as values. -/
def txt (b : List UInt8) : Value := .string ⟨b.toArray⟩
def letterP (c : UInt8) : Bool := decide (97 ≤ c.toNat) && decide (c.toNat ≤ 122)
def digitP (c : UInt8) : Bool := decide (48 ≤ c.toNat) && decide (c.toNat ≤ 57)
def alnumP (c : UInt8) : Bool := letterP c || digitP c
def nameP (b : ByteArray) : Bool := decide (1 ≤ b.size) && decide (b.size ≤ 12) && (b.data.toList.head?.any letterP) && b.data.toList.all alnumP && !wordsL.contains b.data.toList
def plainP (b : ByteArray) : Bool := plainL.contains b.data.toList
def sidesP (op : Int) : Nat := if 8 ≤ op ∧ op ≤ 20 then 2 else if op = 3 ∨ op = 4 ∨ op = 6 ∨ op = 7 then 1 else 0
/-- What an expression itself must be. -/
def Ex.own (e : Ex) : Bool :=
  decide (1 ≤ e.op) && decide (e.op ≤ 20) && decide (e.args.length = sidesP e.op) &&
    (if e.op = 1 then decide (0 ≤ e.num) && decide (e.num < 1000000000000000000) && decide (e.name.size = 0) else decide (e.num = 0) &&
      (if e.op = 2 ∨ e.op = 3 then nameP e.name else if e.op = 5 then plainP e.name else decide (e.name.size = 0)))
mutual
def Ex.may : Ex → Bool
  | ⟨op, num, name, s, args, line, col⟩ => Ex.own ⟨op, num, name, s, args, line, col⟩ && Ex.mayL args
def Ex.mayL : List Ex → Bool
  | [] => true
  | e :: r => Ex.may e && Ex.mayL r
end
mutual
def Ex.deep : Ex → Nat
  | ⟨_, _, _, _, args, _, _⟩ => Ex.deepL args + 1
def Ex.deepL : List Ex → Nat
  | [] => 0
  | e :: r => max (Ex.deep e) (Ex.deepL r)
end
def exW (op : Int) : Nat := if op = 19 ∨ op = 20 then 3 else 1
mutual
def Ex.steps : Ex → Nat
  | ⟨op, _, _, _, args, _, _⟩ => exW op + Ex.stepsL args
def Ex.stepsL : List Ex → Nat
  | [] => 0
  | e :: r => Ex.steps e + Ex.stepsL r
end
theorem Ex.may_eq (e : Ex) : e.may = (e.own && Ex.mayL e.args) := by obtain ⟨op, num, name, s, args, line, col⟩ := e; rw [Ex.may]
theorem Ex.mayL_eq : ∀ l : List Ex, Ex.mayL l = l.all Ex.may
  | [] => by simp [Ex.mayL]
  | e :: r => by simp [Ex.mayL, Ex.mayL_eq r]
theorem Ex.deep_eq (e : Ex) : e.deep = Ex.deepL e.args + 1 := by obtain ⟨op, num, name, s, args, line, col⟩ := e; rw [Ex.deep]
theorem Ex.steps_eq (e : Ex) : e.steps = exW e.op + Ex.stepsL e.args := by obtain ⟨op, num, name, s, args, line, col⟩ := e; rw [Ex.steps]
theorem Ex.deepL_snoc (l : List Ex) (e : Ex) : Ex.deepL (l ++ [e]) = max (Ex.deepL l) e.deep := by
  induction l with
  | nil => simp [Ex.deepL]
  | cons a r ih => rw [List.cons_append, Ex.deepL, Ex.deepL, ih]; omega
theorem Ex.stepsL_snoc (l : List Ex) (e : Ex) : Ex.stepsL (l ++ [e]) = Ex.stepsL l + e.steps := by
  induction l with
  | nil => simp [Ex.stepsL]
  | cons a r ih => rw [List.cons_append, Ex.stepsL, Ex.stepsL, ih]; omega
theorem Ex.szL_at {l : List Ex} {i : Nat} {e : Ex} (h : l[i]? = some e) : Ex.szL (l.take i) + e.sz ≤ Ex.szL l := by
  induction l generalizing i with
  | nil => simp at h
  | cons a r ih =>
    cases i with
    | zero => simp at h; subst h; simp [Ex.szL]
    | succ i => have := ih (i := i) (by simpa using h); simp only [List.take_succ_cons, Ex.szL]; omega
theorem Ex.sz_pos (e : Ex) : 1 ≤ e.sz := by rw [Ex.sz_eq]; omega
theorem Ex.len_sz (l : List Ex) : l.length ≤ Ex.szL l := by
  induction l with
  | nil => simp
  | cons a r ih => have := a.sz_pos; simp only [Ex.szL, List.length_cons]; omega
theorem Ex.deep_sz : ∀ e : Ex, e.deep ≤ e.sz := by
  intro e
  induction e using Ex.ind with
  | h e ih =>
    rw [Ex.deep_eq, Ex.sz_eq]
    have : ∀ l : List Ex, (∀ a ∈ l, a.deep ≤ a.sz) → Ex.deepL l ≤ Ex.szL l := by
      intro l
      induction l with
      | nil => intro _; simp [Ex.deepL]
      | cons a r ihr =>
        intro h
        have h1 := h a (List.mem_cons_self ..)
        have h2 := ihr (fun b hb => h b (List.mem_cons_of_mem _ hb))
        simp only [Ex.deepL, Ex.szL]; omega
    have := this e.args ih
    omega
theorem Ex.deepL_sz (l : List Ex) : Ex.deepL l ≤ Ex.szL l := by
  induction l with
  | nil => simp [Ex.deepL]
  | cons a r ih => have := a.deep_sz; simp only [Ex.deepL, Ex.szL]; omega
theorem Ex.steps_sz : ∀ e : Ex, e.steps ≤ 3 * e.sz := by
  intro e
  induction e using Ex.ind with
  | h e ih =>
    rw [Ex.steps_eq, Ex.sz_eq]
    have : ∀ l : List Ex, (∀ a ∈ l, a.steps ≤ 3 * a.sz) → Ex.stepsL l ≤ 3 * Ex.szL l := by
      intro l
      induction l with
      | nil => intro _; simp [Ex.stepsL]
      | cons a r ihr =>
        intro h
        have h1 := h a (List.mem_cons_self ..)
        have h2 := ihr (fun b hb => h b (List.mem_cons_of_mem _ hb))
        simp only [Ex.stepsL, Ex.szL]; omega
    have := this e.args ih
    have : exW e.op ≤ 3 := by unfold exW; split <;> omega
    omega
theorem Ex.stepsL_sz (l : List Ex) : Ex.stepsL l ≤ 3 * Ex.szL l := by
  induction l with
  | nil => simp [Ex.stepsL]
  | cons a r ih => have := a.steps_sz; simp only [Ex.stepsL, Ex.szL]; omega
mutual
def Ex.many : Ex → Nat
  | ⟨_, _, name, _, args, _, _⟩ => 1 + min name.size 30000 + Ex.manyL args
def Ex.manyL : List Ex → Nat
  | [] => 0
  | e :: r => Ex.many e + Ex.manyL r
end
theorem Ex.many_eq (e : Ex) : e.many = 1 + min e.name.size 30000 + Ex.manyL e.args := by obtain ⟨op, num, name, s, args, line, col⟩ := e; rw [Ex.many]
theorem Ex.manyL_snoc (l : List Ex) (e : Ex) : Ex.manyL (l ++ [e]) = Ex.manyL l + e.many := by
  induction l with
  | nil => simp [Ex.manyL]
  | cons a r ih => rw [List.cons_append, Ex.manyL, Ex.manyL, ih]; omega
theorem Ex.many_sz : ∀ e : Ex, e.many ≤ e.sz := by
  intro e
  induction e using Ex.ind with
  | h e ih =>
    rw [Ex.many_eq, Ex.sz_eq]
    have : ∀ l : List Ex, (∀ a ∈ l, a.many ≤ a.sz) → Ex.manyL l ≤ Ex.szL l := by
      intro l
      induction l with
      | nil => intro _; simp [Ex.manyL]
      | cons a r ihr =>
        intro h
        have h1 := h a (List.mem_cons_self ..)
        have h2 := ihr (fun b hb => h b (List.mem_cons_of_mem _ hb))
        simp only [Ex.manyL, Ex.szL]; omega
    have := this e.args ih
    omega
theorem Ex.manyL_sz (l : List Ex) : Ex.manyL l ≤ Ex.szL l := by
  induction l with
  | nil => simp [Ex.manyL]
  | cons a r ih => have := a.many_sz; simp only [Ex.manyL, Ex.szL]; omega
mutual
def St.many : St → Nat
  | ⟨_, _, _, name, _, _, exprs, _, body, _, els, _, _⟩ => 1 + min name.size 30000 + Ex.manyL exprs + St.manyL body + St.manyL els
def St.manyL : List St → Nat
  | [] => 0
  | e :: r => St.many e + St.manyL r
end
theorem St.many_eq (e : St) : e.many = 1 + min e.name.size 30000 + Ex.manyL e.exprs + St.manyL e.body + St.manyL e.els := by obtain ⟨op, kind, red, name, turns, es, exprs, bs, body, ls, els, line, col⟩ := e; rw [St.many]
theorem St.manyL_snoc (l : List St) (e : St) : St.manyL (l ++ [e]) = St.manyL l + e.many := by
  induction l with
  | nil => simp [St.manyL]
  | cons a r ih => rw [List.cons_append, St.manyL, St.manyL, ih]; omega
theorem St.many_szL {l : List St} (h : ∀ a ∈ l, a.many ≤ a.sz) : St.manyL l ≤ St.szL l := by
  induction l with
  | nil => simp [St.manyL]
  | cons a r ihr =>
    have h1 := h a (List.mem_cons_self ..)
    have h2 := ihr (fun b hb => h b (List.mem_cons_of_mem _ hb))
    simp only [St.manyL, St.szL]; omega
theorem St.many_sz : ∀ e : St, e.many ≤ e.sz := by
  intro e
  induction e using St.ind with
  | h e ih1 ih2 =>
    rw [St.many_eq, St.sz_eq]
    have h1 := St.many_szL ih1
    have h2 := St.many_szL ih2
    have h3 := Ex.manyL_sz e.exprs
    omega
theorem St.manyL_sz (l : List St) : St.manyL l ≤ St.szL l := St.many_szL fun a _ => a.many_sz
mutual
/-- How deep the blocks of statements are (0: none); the deepest expression. -/
def St.blocks : St → Nat
  | ⟨_, _, _, _, _, _, _, _, body, _, els, _, _⟩ => max (if body.length = 0 then 0 else St.blocksL' body + 1) (if els.length = 0 then 0 else St.blocksL' els + 1)
def St.blocksL' : List St → Nat
  | [] => 0
  | e :: r => max (St.blocks e) (St.blocksL' r)
end
def St.blocksL (l : List St) : Nat := if l.length = 0 then 0 else St.blocksL' l + 1
mutual
def St.exprD : St → Nat
  | ⟨_, _, _, _, _, _, exprs, _, body, _, els, _, _⟩ => max (Ex.deepL exprs) (max (St.exprDL body) (St.exprDL els))
def St.exprDL : List St → Nat
  | [] => 0
  | e :: r => max (St.exprD e) (St.exprDL r)
end
/-- The arguments of a call's kind: the fewest, the most. -/
def argsP (k : Int) : Nat × Nat :=
  if k = 1 ∨ k = 2 ∨ k = 3 ∨ k = 4 ∨ k = 5 then (5, 5) else if k = 6 ∨ k = 7 ∨ k = 13 ∨ k = 14 ∨ k = 16 ∨ k = 19 ∨ k = 17 ∨ k = 21 then (3, 3) else if k = 18 then (2, 2)
  else if k = 8 ∨ k = 11 ∨ k = 15 ∨ k = 20 ∨ k = 22 then (1, 1) else if k = 9 ∨ k = 10 ∨ k = 12 then (1, 8) else (0, 0)
def redsP (k : Int) : Bool := decide (k = 17 ∨ k = 18)
/-- What a statement itself must be. -/
def St.rng (e : St) : Option (Nat × Nat) :=
  if e.op = 1 ∨ e.op = 3 ∨ e.op = 4 ∨ e.op = 6 then some (1, 1) else if e.op = 2 then some (2, 2) else if e.op = 5 ∨ e.op = 7 then some (0, 0)
  else if e.op = 8 then (if (argsP e.kind).2 = 0 then none else some (argsP e.kind)) else none
def St.own (e : St) : Bool :=
  (match e.rng with | none => false | some (a, b) => decide (a ≤ e.exprs.length) && decide (e.exprs.length ≤ b)) &&
  (if e.op = 1 ∨ e.op = 2 ∨ e.op = 5 then nameP e.name else decide (e.name.size = 0)) &&
  (decide (e.op = 8) || (decide (e.kind = 0) && decide (e.red = 0))) && (decide (e.red = 0) || (redsP e.kind && decide (e.red ≤ 2))) &&
  decide (0 ≤ e.turns) && decide (e.turns ≤ 1000) && (decide (e.op = 5) || decide (e.turns = 0)) &&
  (decide (e.op = 3) || decide (e.els.length = 0)) && (decide (e.op = 3 ∨ e.op = 4 ∨ e.op = 5) || decide (e.body.length = 0))
mutual
def St.may : St → Bool
  | ⟨op, kind, red, name, turns, es, exprs, bs, body, ls, els, line, col⟩ => St.own ⟨op, kind, red, name, turns, es, exprs, bs, body, ls, els, line, col⟩ && Ex.mayL exprs && St.mayL body && St.mayL els
def St.mayL : List St → Bool
  | [] => true
  | e :: r => St.may e && St.mayL r
end
theorem St.may_eq (e : St) : e.may = (e.own && Ex.mayL e.exprs && St.mayL e.body && St.mayL e.els) := by obtain ⟨op, kind, red, name, turns, es, exprs, bs, body, ls, els, line, col⟩ := e; rw [St.may]
theorem St.mayL_eq : ∀ l : List St, St.mayL l = l.all St.may
  | [] => by simp [St.mayL]
  | e :: r => by simp [St.mayL, St.mayL_eq r]
theorem St.blocks_eq (e : St) : e.blocks = max (St.blocksL e.body) (St.blocksL e.els) := by obtain ⟨op, kind, red, name, turns, es, exprs, bs, body, ls, els, line, col⟩ := e; rw [St.blocks]; rfl
theorem St.exprD_eq (e : St) : e.exprD = max (Ex.deepL e.exprs) (max (St.exprDL e.body) (St.exprDL e.els)) := by obtain ⟨op, kind, red, name, turns, es, exprs, bs, body, ls, els, line, col⟩ := e; rw [St.exprD]
theorem St.blocksL'_snoc (l : List St) (e : St) : St.blocksL' (l ++ [e]) = max (St.blocksL' l) e.blocks := by
  induction l with
  | nil => simp [St.blocksL']
  | cons a r ih => rw [List.cons_append, St.blocksL', St.blocksL', ih]; omega
theorem St.exprDL_snoc (l : List St) (e : St) : St.exprDL (l ++ [e]) = max (St.exprDL l) e.exprD := by
  induction l with
  | nil => simp [St.exprDL]
  | cons a r ih => rw [List.cons_append, St.exprDL, St.exprDL, ih]; omega
theorem St.szL_at {l : List St} {i : Nat} {e : St} (h : l[i]? = some e) : St.szL (l.take i) + e.sz ≤ St.szL l := by
  induction l generalizing i with
  | nil => simp at h
  | cons a r ih =>
    cases i with
    | zero => simp at h; subst h; simp [St.szL]
    | succ i => have := ih (i := i) (by simpa using h); simp only [List.take_succ_cons, St.szL]; omega
theorem St.sz_pos (e : St) : 1 ≤ e.sz := by rw [St.sz_eq]; omega
theorem St.szL_mem {l : List St} {e : St} (h : e ∈ l) : e.sz ≤ St.szL l := by
  obtain ⟨i, hi, rfl⟩ := List.mem_iff_getElem.1 h
  have := St.szL_at (List.getElem?_eq_getElem hi)
  omega
theorem Ex.szL_mem {l : List Ex} {e : Ex} (h : e ∈ l) : e.sz ≤ Ex.szL l := by
  obtain ⟨i, hi, rfl⟩ := List.mem_iff_getElem.1 h
  have := Ex.szL_at (List.getElem?_eq_getElem hi)
  omega
theorem St.blocksL'_le {l : List St} (h : ∀ a ∈ l, a.blocks + 1 ≤ a.sz) : l.length = 0 ∨ St.blocksL' l + 1 ≤ St.szL l := by
  induction l with
  | nil => exact .inl rfl
  | cons a r ihr =>
    right
    have h1 := h a (List.mem_cons_self ..)
    rcases ihr (fun b hb => h b (List.mem_cons_of_mem _ hb)) with h2 | h2
    · obtain rfl : r = [] := List.length_eq_zero_iff.1 h2
      simp only [St.blocksL', St.szL]; omega
    · simp only [St.blocksL', St.szL]; omega
theorem St.blocksL_le {l : List St} (h : ∀ a ∈ l, a.blocks + 1 ≤ a.sz) : St.blocksL l ≤ St.szL l := by
  unfold St.blocksL
  split
  · omega
  · rcases St.blocksL'_le h with h2 | h2
    · omega
    · exact h2
theorem St.blocks_sz : ∀ e : St, e.blocks + 1 ≤ e.sz := by
  intro e
  induction e using St.ind with
  | h e ih1 ih2 =>
    rw [St.blocks_eq, St.sz_eq]
    have h1 := St.blocksL_le ih1
    have h2 := St.blocksL_le ih2
    omega
theorem St.blocksL_sz (l : List St) : St.blocksL l ≤ St.szL l := St.blocksL_le fun a _ => a.blocks_sz
theorem St.blocksL'_sz (l : List St) : St.blocksL' l ≤ St.szL l := by
  rcases St.blocksL'_le (l := l) (fun a _ => a.blocks_sz) with h | h
  · obtain rfl : l = [] := List.length_eq_zero_iff.1 h
    simp [St.blocksL']
  · omega
theorem St.exprDL_le {l : List St} (h : ∀ a ∈ l, a.exprD ≤ a.sz) : St.exprDL l ≤ St.szL l := by
  induction l with
  | nil => simp [St.exprDL]
  | cons a r ihr =>
    have h1 := h a (List.mem_cons_self ..)
    have h2 := ihr (fun b hb => h b (List.mem_cons_of_mem _ hb))
    simp only [St.exprDL, St.szL]; omega
theorem St.exprD_sz : ∀ e : St, e.exprD ≤ e.sz := by
  intro e
  induction e using St.ind with
  | h e ih1 ih2 =>
    rw [St.exprD_eq, St.sz_eq]
    have h1 := St.exprDL_le ih1
    have h2 := St.exprDL_le ih2
    have h3 := Ex.deepL_sz e.exprs
    omega
theorem St.exprDL_sz (l : List St) : St.exprDL l ≤ St.szL l := St.exprDL_le fun a _ => a.exprD_sz
/-- The chapter's depth, from a block's own on. -/
def St.deepAt (l : List St) (at_ : Nat) : Nat := if l.length = 0 then 0 else max (at_ + St.blocksL' l) (St.exprDL l)
theorem St.deepAt_one (l : List St) : St.deepAt l 1 = max (St.blocksL l) (St.exprDL l) := by
  unfold St.deepAt St.blocksL
  split
  · rename_i h
    obtain rfl : l = [] := List.length_eq_zero_iff.1 h
    simp [St.exprDL]
  · rw [Nat.add_comm]
theorem St.deepAt_snoc (l : List St) (e : St) (n : Nat) : St.deepAt (l ++ [e]) n = max (max (max (St.deepAt l n) n) (max (St.deepAt e.body (n + 1)) (St.deepAt e.els (n + 1)))) (Ex.deepL e.exprs) := by
  have hb : ∀ q : List St, St.deepAt q (n + 1) = if q.length = 0 then 0 else max (n + St.blocksL q) (St.exprDL q) := by
    intro q
    unfold St.deepAt St.blocksL
    split
    · rfl
    · congr 1; omega
  have hz : ∀ q : List St, q.length = 0 → St.exprDL q = 0 ∧ St.blocksL q = 0 := fun q h => by
    obtain rfl : q = [] := List.length_eq_zero_iff.1 h
    simp [St.exprDL, St.blocksL]
  rw [hb, hb]
  have h0 : (l ++ [e]).length ≠ 0 := by simp
  have hl0 : ∀ k, St.deepAt l n ≤ k ↔ (l.length ≠ 0 → n + St.blocksL' l ≤ k ∧ St.exprDL l ≤ k) := by
    intro k
    unfold St.deepAt
    split
    · simp [*]
    · rw [Nat.max_le]; simp [*]
  have hq : ∀ (q : List St) k, n ≤ k → ((if q.length = 0 then 0 else max (n + St.blocksL q) (St.exprDL q)) ≤ k ↔ (n + St.blocksL q ≤ k ∧ St.exprDL q ≤ k)) := by
    intro q k hk
    split
    · rename_i h
      have := hz q h
      rw [this.1, this.2]
      simp [hk]
    · rw [Nat.max_le]
  have hle : ∀ k, St.deepAt (l ++ [e]) n ≤ k ↔ max (max (max (St.deepAt l n) n) (max (if e.body.length = 0 then 0 else max (n + St.blocksL e.body) (St.exprDL e.body)) (if e.els.length = 0 then 0 else max (n + St.blocksL e.els) (St.exprDL e.els)))) (Ex.deepL e.exprs) ≤ k := by
    intro k
    rw [Nat.max_le, Nat.max_le, Nat.max_le, Nat.max_le, hl0]
    conv => lhs; unfold St.deepAt
    rw [if_neg h0, St.blocksL'_snoc, St.exprDL_snoc, St.blocks_eq, St.exprD_eq, Nat.max_le, Nat.max_le, Nat.max_le, Nat.max_le, ← Nat.add_max_add_left, ← Nat.add_max_add_left, Nat.max_le, Nat.max_le]
    constructor
    · rintro ⟨⟨h1, h2, h3⟩, h4, h5, h6, h7⟩
      have hn : n ≤ k := by omega
      rw [hq _ _ hn, hq _ _ hn]
      exact ⟨⟨⟨fun _ => ⟨h1, h4⟩, hn⟩, ⟨h2, h6⟩, h3, h7⟩, h5⟩
    · rintro ⟨⟨⟨h1, hn⟩, h2, h3⟩, h5⟩
      rw [hq _ _ hn] at h2 h3
      by_cases hl : l.length = 0
      · obtain rfl : l = [] := List.length_eq_zero_iff.1 hl
        exact ⟨⟨by simpa [St.blocksL'] using hn, h2.1, h3.1⟩, by simp [St.exprDL], h5, h2.2, h3.2⟩
      · exact ⟨⟨(h1 hl).1, h2.1, h3.1⟩, (h1 hl).2, h5, h2.2, h3.2⟩
  exact Nat.le_antisymm ((hle _).2 (Nat.le_refl _)) ((hle _).1 (Nat.le_refl _))
theorem St.deepAt_le (l : List St) (n : Nat) : St.deepAt l n ≤ n + St.szL l := by
  unfold St.deepAt
  split
  · omega
  · have := St.blocksL'_sz l
    have := St.exprDL_sz l
    omega
end Go.X
set_option linter.unusedVariables false
set_option linter.unusedSimpArgs false
set_option maxRecDepth 4000
namespace Go.Proofs.YtpkfbaagpjdifaaGreatDoor.Tr
open Go Go.X Go.RowKit Go.Proofs.YtpkfbaagpjdifaaGreatDoor.XF Go.Proofs.YtpkfbaagpjdifaaGreatDoor.XK
theorem letter_ok (c : Int) (w : World) : Rt Tryz.prog 98 #[.int .i32 c] w fun v w' => v = .bool (decide (97 ≤ c) && decide (c ≤ 122)) ∧ w' = w := by
  refine scan_letter_calls ?_
  unfold scan_letter_F
  by_cases h : (97 : Int) ≤ c <;> simp only [CondK_bool, MG_u, NG_u, VG_u, UG_u, PG_u, BG_u, CG_u, IG_u, MG_b, NG_b, VG_b, UG_b, PG_b, BG_b, CG_b, IG_b, PK_bool, NK_ptr, not_ok, reduceCtorEq, if_true, if_false, Bool.true_eq_false, Bool.false_eq_true, Bool.not_true, Bool.not_false, fo25_0, fo25_1, fo48_0, fo48_1, fo62_0, fo62_1, fo62_2, fo62_3, fo62_4, fo62_5, fo62_6, fo62_7, fo85_0, fo85_1, fo85_2, fo85_3, ld2, ld3, ld5, ld9, ld22, ld23, ld60, len9, len22, len23, len60, len111, ldK_some, cellE, blkC_c, add_pl, Nat.zero_add, List.getElem?_toArray, List.getElem?_cons_succ, List.getElem?_cons_zero, BK_lss, BK_leq, BK_gtr, BK_geq, BK_eql, BK_neq, BK_add, BK_sub, BK_eqlS, BK_neqS, decide_true, decide_false, Bool.and_true, Bool.true_and, Bool.and_false, Bool.false_and, Bool.or_true, Bool.true_or, Bool.or_false, Bool.false_or, ite_true, ite_false, h, and_self]
theorem digit_ok (c : Int) (w : World) : Rt Tryz.prog 118 #[.int .i32 c] w fun v w' => v = .bool (decide (48 ≤ c) && decide (c ≤ 57)) ∧ w' = w := by
  refine scan_digit_calls ?_
  unfold scan_digit_F
  by_cases h : (48 : Int) ≤ c <;> simp only [CondK_bool, MG_u, NG_u, VG_u, UG_u, PG_u, BG_u, CG_u, IG_u, MG_b, NG_b, VG_b, UG_b, PG_b, BG_b, CG_b, IG_b, PK_bool, NK_ptr, not_ok, reduceCtorEq, if_true, if_false, Bool.true_eq_false, Bool.false_eq_true, Bool.not_true, Bool.not_false, fo25_0, fo25_1, fo48_0, fo48_1, fo62_0, fo62_1, fo62_2, fo62_3, fo62_4, fo62_5, fo62_6, fo62_7, fo85_0, fo85_1, fo85_2, fo85_3, ld2, ld3, ld5, ld9, ld22, ld23, ld60, len9, len22, len23, len60, len111, ldK_some, cellE, blkC_c, add_pl, Nat.zero_add, List.getElem?_toArray, List.getElem?_cons_succ, List.getElem?_cons_zero, BK_lss, BK_leq, BK_gtr, BK_geq, BK_eql, BK_neq, BK_add, BK_sub, BK_eqlS, BK_neqS, decide_true, decide_false, Bool.and_true, Bool.true_and, Bool.and_false, Bool.false_and, Bool.or_true, Bool.true_or, Bool.or_false, Bool.false_or, ite_true, ite_false, h, and_self]
theorem letterR_ok (c : Int) (w : World) : Rt Tryz.prog 85 #[.int .u8 c] w fun v w' => v = .bool (decide (97 ≤ c) && decide (c ≤ 122)) ∧ w' = w := by
  refine dispatcherref01_letter_calls ?_
  unfold dispatcherref01_letter_F
  by_cases h : (97 : Int) ≤ c <;> simp only [CondK_bool, MG_u, NG_u, VG_u, UG_u, PG_u, BG_u, CG_u, IG_u, MG_b, NG_b, VG_b, UG_b, PG_b, BG_b, CG_b, IG_b, PK_bool, NK_ptr, not_ok, reduceCtorEq, if_true, if_false, Bool.true_eq_false, Bool.false_eq_true, Bool.not_true, Bool.not_false, fo25_0, fo25_1, fo48_0, fo48_1, fo62_0, fo62_1, fo62_2, fo62_3, fo62_4, fo62_5, fo62_6, fo62_7, fo85_0, fo85_1, fo85_2, fo85_3, ld2, ld3, ld5, ld9, ld22, ld23, ld60, len9, len22, len23, len60, len111, ldK_some, cellE, blkC_c, add_pl, Nat.zero_add, List.getElem?_toArray, List.getElem?_cons_succ, List.getElem?_cons_zero, BK_lss, BK_leq, BK_gtr, BK_geq, BK_eql, BK_neq, BK_add, BK_sub, BK_eqlS, BK_neqS, decide_true, decide_false, Bool.and_true, Bool.true_and, Bool.and_false, Bool.false_and, Bool.or_true, Bool.true_or, Bool.or_false, Bool.false_or, ite_true, ite_false, h, and_self]
theorem digitR_ok (c : Int) (w : World) : Rt Tryz.prog 86 #[.int .u8 c] w fun v w' => v = .bool (decide (48 ≤ c) && decide (c ≤ 57)) ∧ w' = w := by
  refine dispatcherref01_digit_calls ?_
  unfold dispatcherref01_digit_F
  by_cases h : (48 : Int) ≤ c <;> simp only [CondK_bool, MG_u, NG_u, VG_u, UG_u, PG_u, BG_u, CG_u, IG_u, MG_b, NG_b, VG_b, UG_b, PG_b, BG_b, CG_b, IG_b, PK_bool, NK_ptr, not_ok, reduceCtorEq, if_true, if_false, Bool.true_eq_false, Bool.false_eq_true, Bool.not_true, Bool.not_false, fo25_0, fo25_1, fo48_0, fo48_1, fo62_0, fo62_1, fo62_2, fo62_3, fo62_4, fo62_5, fo62_6, fo62_7, fo85_0, fo85_1, fo85_2, fo85_3, ld2, ld3, ld5, ld9, ld22, ld23, ld60, len9, len22, len23, len60, len111, ldK_some, cellE, blkC_c, add_pl, Nat.zero_add, List.getElem?_toArray, List.getElem?_cons_succ, List.getElem?_cons_zero, BK_lss, BK_leq, BK_gtr, BK_geq, BK_eql, BK_neq, BK_add, BK_sub, BK_eqlS, BK_neqS, decide_true, decide_false, Bool.and_true, Bool.true_and, Bool.and_false, Bool.false_and, Bool.or_true, Bool.true_or, Bool.or_false, Bool.false_or, ite_true, ite_false, h, and_self]
theorem named_ok (c : Int) (w : World) : Rt Tryz.prog 97 #[.int .i32 c] w fun v w' => v = .bool ((decide (97 ≤ c) && decide (c ≤ 122)) || (decide (48 ≤ c) && decide (c ≤ 57))) ∧ w' = w := by
  refine scan_named_calls ?_
  unfold scan_named_F
  refine CK_st Tryz.func98 rfl rfl (letter_ok c w) ?_
  rintro _ w ⟨rfl, rfl⟩
  cases h : (decide (97 ≤ c) && decide (c ≤ 122)) with
  | true => simp only [CondK_bool, MG_u, NG_u, VG_u, UG_u, PG_u, BG_u, CG_u, IG_u, MG_b, NG_b, VG_b, UG_b, PG_b, BG_b, CG_b, IG_b, PK_bool, NK_ptr, not_ok, reduceCtorEq, if_true, if_false, Bool.true_eq_false, Bool.false_eq_true, Bool.not_true, Bool.not_false, fo25_0, fo25_1, fo48_0, fo48_1, fo62_0, fo62_1, fo62_2, fo62_3, fo62_4, fo62_5, fo62_6, fo62_7, fo85_0, fo85_1, fo85_2, fo85_3, ld2, ld3, ld5, ld9, ld22, ld23, ld60, len9, len22, len23, len60, len111, ldK_some, cellE, blkC_c, add_pl, Nat.zero_add, List.getElem?_toArray, List.getElem?_cons_succ, List.getElem?_cons_zero, BK_lss, BK_leq, BK_gtr, BK_geq, BK_eql, BK_neq, BK_add, BK_sub, BK_eqlS, BK_neqS, decide_true, decide_false, Bool.and_true, Bool.true_and, Bool.and_false, Bool.false_and, Bool.or_true, Bool.true_or, Bool.or_false, Bool.false_or, ite_true, ite_false, and_self]
  | false =>
    simp only [CondK_bool, MG_u, NG_u, VG_u, UG_u, PG_u, BG_u, CG_u, IG_u, MG_b, NG_b, VG_b, UG_b, PG_b, BG_b, CG_b, IG_b, PK_bool, NK_ptr, not_ok, reduceCtorEq, if_true, if_false, Bool.true_eq_false, Bool.false_eq_true, Bool.not_true, Bool.not_false, fo25_0, fo25_1, fo48_0, fo48_1, fo62_0, fo62_1, fo62_2, fo62_3, fo62_4, fo62_5, fo62_6, fo62_7, fo85_0, fo85_1, fo85_2, fo85_3, ld2, ld3, ld5, ld9, ld22, ld23, ld60, len9, len22, len23, len60, len111, ldK_some, cellE, blkC_c, add_pl, Nat.zero_add, List.getElem?_toArray, List.getElem?_cons_succ, List.getElem?_cons_zero, BK_lss, BK_leq, BK_gtr, BK_geq, BK_eql, BK_neq, BK_add, BK_sub, BK_eqlS, BK_neqS, decide_true, decide_false, Bool.and_true, Bool.true_and, Bool.and_false, Bool.false_and, Bool.or_true, Bool.true_or, Bool.or_false, Bool.false_or, ite_true, ite_false]
    refine CK_st Tryz.func118 rfl rfl (digit_ok c w) ?_
    rintro _ w ⟨rfl, rfl⟩
    simp only [CondK_bool, MG_u, NG_u, VG_u, UG_u, PG_u, BG_u, CG_u, IG_u, MG_b, NG_b, VG_b, UG_b, PG_b, BG_b, CG_b, IG_b, PK_bool, NK_ptr, not_ok, reduceCtorEq, if_true, if_false, Bool.true_eq_false, Bool.false_eq_true, Bool.not_true, Bool.not_false, fo25_0, fo25_1, fo48_0, fo48_1, fo62_0, fo62_1, fo62_2, fo62_3, fo62_4, fo62_5, fo62_6, fo62_7, fo85_0, fo85_1, fo85_2, fo85_3, ld2, ld3, ld5, ld9, ld22, ld23, ld60, len9, len22, len23, len60, len111, ldK_some, cellE, blkC_c, add_pl, Nat.zero_add, List.getElem?_toArray, List.getElem?_cons_succ, List.getElem?_cons_zero, BK_lss, BK_leq, BK_gtr, BK_geq, BK_eql, BK_neq, BK_add, BK_sub, BK_eqlS, BK_neqS, decide_true, decide_false, Bool.and_true, Bool.true_and, Bool.and_false, Bool.false_and, Bool.or_true, Bool.true_or, Bool.or_false, Bool.false_or, ite_true, ite_false, and_self]
theorem sides_ok (op : Int) (w : World) : Rt Tryz.prog 132 #[.int .u8 op] w fun v w' => v = .int .i64 (sidesP op) ∧ w' = w := by
  refine tree_sides_calls ?_
  unfold tree_sides_F
  by_cases h : 8 ≤ op <;> by_cases h1 : op ≤ 20 <;> simp only [CondK_bool, MG_u, NG_u, VG_u, UG_u, PG_u, BG_u, CG_u, IG_u, MG_b, NG_b, VG_b, UG_b, PG_b, BG_b, CG_b, IG_b, PK_bool, NK_ptr, not_ok, reduceCtorEq, if_true, if_false, Bool.true_eq_false, Bool.false_eq_true, Bool.not_true, Bool.not_false, fo25_0, fo25_1, fo48_0, fo48_1, fo62_0, fo62_1, fo62_2, fo62_3, fo62_4, fo62_5, fo62_6, fo62_7, fo85_0, fo85_1, fo85_2, fo85_3, ld2, ld3, ld5, ld9, ld22, ld23, ld60, len9, len22, len23, len60, len111, ldK_some, cellE, blkC_c, add_pl, Nat.zero_add, List.getElem?_toArray, List.getElem?_cons_succ, List.getElem?_cons_zero, BK_lss, BK_leq, BK_gtr, BK_geq, BK_eql, BK_neq, BK_add, BK_sub, BK_eqlS, BK_neqS, decide_true, decide_false, Bool.and_true, Bool.true_and, Bool.and_false, Bool.false_and, Bool.or_true, Bool.true_or, Bool.or_false, Bool.false_or, ite_true, ite_false, h, h1] <;> first | (simp [sidesP, h, h1]; done) | skip
  all_goals by_cases h3 : op = 3 <;> by_cases h4 : op = 4 <;> by_cases h6 : op = 6 <;> by_cases h7 : op = 7 <;> simp [CondK_bool, MG_u, NG_u, VG_u, UG_u, PG_u, BG_u, CG_u, IG_u, MG_b, NG_b, VG_b, UG_b, PG_b, BG_b, CG_b, IG_b, PK_bool, NK_ptr, not_ok, reduceCtorEq, if_true, if_false, Bool.true_eq_false, Bool.false_eq_true, Bool.not_true, Bool.not_false, fo25_0, fo25_1, fo48_0, fo48_1, fo62_0, fo62_1, fo62_2, fo62_3, fo62_4, fo62_5, fo62_6, fo62_7, fo85_0, fo85_1, fo85_2, fo85_3, ld2, ld3, ld5, ld9, ld22, ld23, ld60, len9, len22, len23, len60, len111, ldK_some, cellE, blkC_c, add_pl, Nat.zero_add, List.getElem?_toArray, List.getElem?_cons_succ, List.getElem?_cons_zero, BK_lss, BK_leq, BK_gtr, BK_geq, BK_eql, BK_neq, BK_add, BK_sub, BK_eqlS, BK_neqS, decide_true, decide_false, Bool.and_true, Bool.true_and, Bool.and_false, Bool.false_and, Bool.or_true, Bool.true_or, Bool.or_false, Bool.false_or, ite_true, ite_false, beq_iff_eq, h3, h4, h6, h7, sidesP] <;> first | omega | (split <;> omega)
end Go.Proofs.YtpkfbaagpjdifaaGreatDoor.Tr
set_option linter.unusedVariables false
set_option maxRecDepth 4000
namespace Go.Proofs.YtpkfbaagpjdifaaGreatDoor.Tr
open Go Go.X Go.RowKit
theorem bulkAll_sum {H : Type} : ∀ l : List (DataW H), Rows.uptoBulkAll l = (l.map Rows.uptoBulk).sum
  | [] => by simp [Rows.uptoBulkAll]
  | d :: r => by simp [Rows.uptoBulkAll, bulkAll_sum r]
def U : Bulk where
  B := Rows.uptoBulk
  one := fun d => by
    cases d with
    | lit l => cases l <;> simp [Rows.uptoBulk]
    | nil => simp [Rows.uptoBulk]
    | ptr d => simp [Rows.uptoBulk]
    | slice elems spare => simp [Rows.uptoBulk]
    | agg parts => simp [Rows.uptoBulk]
    | iface t d => simp [Rows.uptoBulk]
    | map entries => simp [Rows.uptoBulk]
    | held h => simp [Rows.uptoBulk]
  str := fun b => by simp [Rows.uptoBulk]
  slice := fun es sp => by simp only [Rows.uptoBulk, bulkAll_sum]; omega
  agg := fun es => by simp only [Rows.uptoBulk, bulkAll_sum]; omega
def shEx : ShM Ex := ⟨⟨6, fun w e cs => cs = e.cells ∧ e.Ok w⟩, Ex.sz⟩
def shSt : ShM St := ⟨⟨10, fun w e cs => cs = e.cells ∧ e.Ok w⟩, St.sz⟩
theorem uU8 : Tryz.prog.underlying 5 = some (.int .u8) := by kernel_rfl
theorem uI : Tryz.prog.underlying 3 = some (.int .i64) := by kernel_rfl
theorem uI64 : Tryz.prog.underlying 2 = some (.int .i64) := by kernel_rfl
theorem uS : Tryz.prog.underlying 9 = some .string := by kernel_rfl
theorem uExs : Tryz.prog.underlying 60 = some (.slice 85) := by kernel_rfl
theorem uSts : Tryz.prog.underlying 23 = some (.slice 62) := by kernel_rfl
theorem cEx : Tryz.prog.cellsOf 85 = 6 := by kernel_rfl
theorem cSt : Tryz.prog.cellsOf 62 = 10 := by kernel_rfl
/-- A row of such. -/
theorem exs_of {w : World} {x : Value × List Ex} {cs : List Value} (h : (Sh.slice shEx.toSh).K w x cs) : ExsOk w x.1 x.2 :=
  ⟨reads_sh h Ex.cells Ex.cells_len (fun a d hk => hk.1), fun a ha => by obtain ⟨d, hd⟩ := mem_sh h a ha; exact hd.2⟩
theorem sts_of {w : World} {x : Value × List St} {cs : List Value} (h : (Sh.slice shSt.toSh).K w x cs) : StsOk w x.1 x.2 :=
  ⟨reads_sh h St.cells St.cells_len (fun a d hk => hk.1), fun a ha => by obtain ⟨d, hd⟩ := mem_sh h a ha; exact hd.2⟩
theorem opensEx : ∀ n, OpensM U Tryz.prog n shEx 85 := by
  intro n
  induction n using Nat.strongRecOn with
  | ind n ih =>
    exact opensM_as (opensM_struct Tryz.underlying85 (by kernel_rfl) (fun m hm => fieldsM_cons rfl (by kernel_rfl) (opensM_int uU8) (fieldsM_cons rfl (by kernel_rfl) (opensM_int uI64) (fieldsM_cons rfl (by kernel_rfl) (opensM_string uS)
      (fieldsM_cons rfl (by kernel_rfl) (opensM_slice uExs cEx (fun k hk => ih k (by omega))) (fieldsM_cons rfl (by kernel_rfl) (opensM_int uI) (fieldsM_one rfl (by kernel_rfl) (opensM_int uI))))))))
      (fun x => (⟨x.1, x.2.1, x.2.2.1, x.2.2.2.1.1, x.2.2.2.1.2, x.2.2.2.2.1, x.2.2.2.2.2⟩ : Ex))
      (fun w v cs h => by
        obtain ⟨c0, d0, rfl, _, ⟨rfl, h0⟩, c1, d1, rfl, _, ⟨rfl, h1⟩, c2, d2, rfl, _, ⟨rfl, h2⟩, c3, d3, rfl, _, h3, c4, d4, rfl, _, ⟨rfl, h4⟩, rfl, h5⟩ := h
        have h3' := exs_of h3
        obtain ⟨rfl, _⟩ := h3
        exact ⟨rfl, Ex.ok.2 ⟨h3'.1, ⟨h0, h1, h2, h4, h5⟩, h3'.2⟩⟩)
      (fun v => by
        show Ex.sz _ ≤ _
        rw [Ex.sz_eq, Ex.szL_eq]
        show 1 + _ + _ ≤ (1 + (1 + ((_ + 1) + ((_ + 1) + (1 + 1))))) + 1
        show 1 + v.2.2.1.size + (v.2.2.2.1.2.map Ex.sz).sum ≤ (1 + (1 + ((v.2.2.1.size + 1) + (((v.2.2.2.1.2.map Ex.sz).sum + 1) + (1 + 1))))) + 1
        omega)
theorem opensSt : ∀ n, OpensM U Tryz.prog n shSt 62 := by
  intro n
  induction n using Nat.strongRecOn with
  | ind n ih =>
    exact opensM_as (opensM_struct Tryz.underlying62 (by kernel_rfl) (fun m hm => fieldsM_cons rfl (by kernel_rfl) (opensM_int uU8) (fieldsM_cons rfl (by kernel_rfl) (opensM_int uU8) (fieldsM_cons rfl (by kernel_rfl) (opensM_int uU8)
      (fieldsM_cons rfl (by kernel_rfl) (opensM_string uS) (fieldsM_cons rfl (by kernel_rfl) (opensM_int uI) (fieldsM_cons rfl (by kernel_rfl) (opensM_slice uExs cEx (fun k hk => opensEx k)) (fieldsM_cons rfl (by kernel_rfl) (opensM_slice uSts cSt (fun k hk => ih k (by omega)))
      (fieldsM_cons rfl (by kernel_rfl) (opensM_slice uSts cSt (fun k hk => ih k (by omega))) (fieldsM_cons rfl (by kernel_rfl) (opensM_int uI) (fieldsM_one rfl (by kernel_rfl) (opensM_int uI))))))))))))
      (fun x => (⟨x.1, x.2.1, x.2.2.1, x.2.2.2.1, x.2.2.2.2.1, x.2.2.2.2.2.1.1, x.2.2.2.2.2.1.2, x.2.2.2.2.2.2.1.1, x.2.2.2.2.2.2.1.2, x.2.2.2.2.2.2.2.1.1, x.2.2.2.2.2.2.2.1.2, x.2.2.2.2.2.2.2.2.1, x.2.2.2.2.2.2.2.2.2⟩ : St))
      (fun w v cs h => by
        obtain ⟨c0, d0, rfl, _, ⟨rfl, h0⟩, c1, d1, rfl, _, ⟨rfl, h1⟩, c2, d2, rfl, _, ⟨rfl, h2⟩, c3, d3, rfl, _, ⟨rfl, h3⟩, c4, d4, rfl, _, ⟨rfl, h4⟩, c5, d5, rfl, _, h5, c6, d6, rfl, _, h6, c7, d7, rfl, _, h7, c8, d8, rfl, _, ⟨rfl, h8⟩, rfl, h9⟩ := h
        have h5' := exs_of h5
        have h6' := sts_of h6
        have h7' := sts_of h7
        obtain ⟨rfl, _⟩ := h5
        obtain ⟨rfl, _⟩ := h6
        obtain ⟨rfl, _⟩ := h7
        exact ⟨rfl, St.ok.2 ⟨h5', h6', h7', h0, h1, h2, h3, h4, h8, h9⟩⟩)
      (fun v => by
        show St.sz _ ≤ _
        rw [St.sz_eq, Ex.szL_eq, St.szL_eq, St.szL_eq]
        show 1 + v.2.2.2.1.size + (v.2.2.2.2.2.1.2.map Ex.sz).sum + (v.2.2.2.2.2.2.1.2.map St.sz).sum + (v.2.2.2.2.2.2.2.1.2.map St.sz).sum ≤ (1 + (1 + (1 + ((v.2.2.2.1.size + 1) + (1 + (((v.2.2.2.2.2.1.2.map Ex.sz).sum + 1) + (((v.2.2.2.2.2.2.1.2.map St.sz).sum + 1) + (((v.2.2.2.2.2.2.2.1.2.map St.sz).sum + 1) + (1 + 1))))))))) + 1
        omega)
end Go.Proofs.YtpkfbaagpjdifaaGreatDoor.Tr
set_option linter.unusedVariables false
set_option linter.unusedSimpArgs false
set_option maxRecDepth 4000
namespace Go.Proofs.YtpkfbaagpjdifaaGreatDoor.Tr
open Go Go.X Go.RowKit Go.Proofs.YtpkfbaagpjdifaaGreatDoor.XF Go.Proofs.YtpkfbaagpjdifaaGreatDoor.XK
/-- What the package-level tables hold. -/
def At (w : World) (g : Nat) (xs : List Value) : Prop := ∀ j u, xs[j]? = some u → w.cell? ⟨g, j, none⟩ = some u
theorem At.mod {w w' : World} {g : Nat} {xs : List Value} (h : At w g xs) (hm : Mod none_ w w') : At w' g xs := fun j u hu => by
  have h0 := h j u hu
  exact (World.cell?_of_block (hm.block _ (World.block_lt_of_cell? _ _ h0) id)).trans h0
def argsC : List Value := [.int .i64 5, .int .i64 5, .int .i64 5, .int .i64 5, .int .i64 5, .int .i64 3, .int .i64 3, .int .i64 1, .int .i64 (-1), .int .i64 (-1), .int .i64 1, .int .i64 (-1), .int .i64 3, .int .i64 3, .int .i64 1, .int .i64 3, .int .i64 3, .int .i64 2, .int .i64 3, .int .i64 1, .int .i64 3, .int .i64 1]
structure Gl (w : World) : Prop where
  words : At w 0 (wordsL.map txt)
  args : At w 1 argsC
  plain : At w 2 (plainL.map txt)
theorem Gl.mod {w w' : World} (h : Gl w) (hm : Mod none_ w w') : Gl w' := ⟨h.words.mod hm, h.args.mod hm, h.plain.mod hm⟩
theorem uSs : Tryz.prog.underlying 111 = some (.slice 9) := by kernel_rfl
theorem cS : Tryz.prog.cellsOf 9 = 0 + 1 := by kernel_rfl
theorem reads_at {w : World} {g n : Nat} {xs : List Value} (h : At w g xs) (hn : xs.length = n) : reads w 1 (.slice (some ⟨g, 0, none⟩) n n) n xs :=
  ⟨by omega, _, _, rfl, Nat.le_refl _, fun j u hu => ⟨_, rfl, by rw [add_pl, Nat.zero_add]; exact h j u hu⟩⟩
/-- The place of a text among texts. -/
def IdxS (b : ByteArray) (l : List (List UInt8)) (r : Int) : Prop := (0 ≤ r ∧ b.data.toList ∈ l) ∨ (r = -1 ∧ b.data.toList ∉ l)
theorem Index_ok {w : World} {s : Value} {l : List (List UInt8)} (b : ByteArray) (h : reads w 1 s l.length (l.map txt)) (hlen : l.length ≤ 1000) :
    Rt Tryz.prog 130 #[s, .string b] w fun v w' => (∃ r, v = .int .i64 r ∧ IdxS b l r) ∧ w' = w := by
  obtain ⟨A, c, rfl, _⟩ := reads_cap h
  refine slices_Index_string_string_calls ?_
  unfold slices_Index_string_string_F
  simp only [fo25_0, fo25_1, fo48_0, fo48_1, fo62_0, fo62_1, fo62_2, fo62_3, fo62_4, fo62_5, fo62_6, fo62_7, fo85_0, fo85_1, fo85_2, fo85_3, ld2, ld3, ld5, ld9, ld22, ld23, ld60, len9, len22, len23, len60, len111, ldK_some, cellE, blkC_c, add_pl, Nat.zero_add, List.getElem?_toArray, List.getElem?_cons_succ, List.getElem?_cons_zero]
  refine W_loop slices_Index_string_string_L0_ok (fun ρ w' => ∃ n : Nat, n ≤ l.length ∧ ρ 8 = .int .i64 n ∧ ρ 7 = .int .i64 l.length ∧ ρ 0 = .slice A l.length c ∧ ρ 1 = .string b ∧ b.data.toList ∉ l.take n ∧ w' = w) (fun ρ _ => l.length - (intOf (ρ 8)).toNat)
    ⟨0, Nat.zero_le _, rfl, rfl, rfl, rfl, by simp, rfl⟩ ?_
  rintro ρ w ⟨n, hn, h8, h7, h0, h1, hno, rfl⟩
  rw [slices_Index_string_string_L0_eq]
  unfold slices_Index_string_string_L0_F
  simp only [h8, h7, h0, h1, BK_lss]
  by_cases hlt : n < l.length
  · rw [show decide ((n : Int) < (l.length : Int)) = true by simp; omega]
    simp only [CondK_bool, MG_u, NG_u, VG_u, UG_u, PG_u, BG_u, CG_u, IG_u, MG_b, NG_b, VG_b, UG_b, PG_b, BG_b, CG_b, IG_b, PK_bool, NK_ptr, not_ok, reduceCtorEq, if_true, if_false, Bool.true_eq_false, Bool.false_eq_true, Bool.not_true, Bool.not_false]
    have hx : l[n]? = some l[n] := List.getElem?_eq_getElem hlt
    refine ixld uSs cS uS rfl h (by omega) (u := txt l[n]) (by rw [show ((n : Int).toNat) = n by omega, List.getElem?_map, hx]; rfl) fun y => ?_
    unfold txt
    rw [BK_eqlS, ByteArray.toList_eq, ByteArray.toList_eq]
    by_cases he : b.data.toList = l[n]
    · rw [show (b.data.toList == (⟨l[n].toArray⟩ : ByteArray).data.toList) = true by simpa using he]
      simp only [CondK_bool, MG_u, NG_u, VG_u, UG_u, PG_u, BG_u, CG_u, IG_u, MG_b, NG_b, VG_b, UG_b, PG_b, BG_b, CG_b, IG_b, PK_bool, NK_ptr, not_ok, reduceCtorEq, if_true, if_false, Bool.true_eq_false, Bool.false_eq_true, Bool.not_true, Bool.not_false, sq_n, sq_x, sq_r, bk_n, bk_r, bk_x, rt_r, rt_n, rs_0, rs_t, pk_1, pk_2, up_at, reduceIte, Nat.reduceEqDiff]
      exact ⟨⟨_, rfl, .inl ⟨by omega, he ▸ List.getElem_mem hlt⟩⟩, trivial⟩
    · rw [show (b.data.toList == (⟨l[n].toArray⟩ : ByteArray).data.toList) = false by simpa using he]
      simp only [CondK_bool, MG_u, NG_u, VG_u, UG_u, PG_u, BG_u, CG_u, IG_u, MG_b, NG_b, VG_b, UG_b, PG_b, BG_b, CG_b, IG_b, PK_bool, NK_ptr, not_ok, reduceCtorEq, if_true, if_false, Bool.true_eq_false, Bool.false_eq_true, Bool.not_true, Bool.not_false]
      rw [BK_add, wrap_i (by omega) (by omega)]
      refine ⟨⟨n + 1, hlt, rfl, h7, h0, h1, ?_, rfl⟩, ?_⟩
      · rw [List.take_add_one, hx, Option.toList_some]
        intro q
        rcases List.mem_append.1 q with q | q
        · exact hno q
        · exact he (by simpa using q)
      · simp only [sq_n, sq_x, sq_r, bk_n, bk_r, bk_x, rt_r, rt_n, rs_0, rs_t, pk_1, pk_2, up_at, reduceIte, Nat.reduceEqDiff, intOf]; omega
  · obtain rfl : n = l.length := by omega
    rw [show decide (((l.length : Nat) : Int) < (l.length : Int)) = false by simp]
    simp only [CondK_bool, MG_u, NG_u, VG_u, UG_u, PG_u, BG_u, CG_u, IG_u, MG_b, NG_b, VG_b, UG_b, PG_b, BG_b, CG_b, IG_b, PK_bool, NK_ptr, not_ok, reduceCtorEq, if_true, if_false, Bool.true_eq_false, Bool.false_eq_true, Bool.not_true, Bool.not_false, sq_n, sq_x, sq_r, bk_n, bk_r, bk_x, rt_r, rt_n, rs_0, rs_t, pk_1, pk_2, up_at, reduceIte, Nat.reduceEqDiff]
    rw [slices_Index_string_string_R1_eq]
    unfold slices_Index_string_string_R1_F
    simp only [sq_n, sq_x, sq_r, bk_n, bk_r, bk_x, rt_r, rt_n, rs_0, rs_t, pk_1, pk_2, up_at, reduceIte, Nat.reduceEqDiff]
    exact ⟨⟨_, rfl, .inr ⟨rfl, by rw [List.take_length] at hno; exact hno⟩⟩, trivial⟩
theorem Contains_ok {w : World} {s : Value} {l : List (List UInt8)} (b : ByteArray) (h : reads w 1 s l.length (l.map txt)) (hlen : l.length ≤ 1000) :
    Rt Tryz.prog 119 #[s, .string b] w fun v w' => v = .bool (l.contains b.data.toList) ∧ w' = w := by
  refine slices_Contains_string_string_calls ?_
  unfold slices_Contains_string_string_F
  refine CK_st Tryz.func130 rfl rfl (Index_ok b h hlen) ?_
  rintro _ w ⟨⟨r, rfl, hr⟩, rfl⟩
  rw [BK_geq]
  refine ⟨?_, rfl⟩
  rcases hr with ⟨h0, hm⟩ | ⟨rfl, hm⟩
  · simp [h0, hm]
  · simp [hm]
theorem uWords : Tryz.prog.underlying 142 = some (.array (Tryz.prog.arrayLen 142) (Tryz.prog.elem 142)) := by kernel_rfl
theorem uPlain : Tryz.prog.underlying 151 = some (.array (Tryz.prog.arrayLen 151) (Tryz.prog.elem 151)) := by kernel_rfl
theorem cut_words (w : World) (g : Nat) : (Instr.sliceAt 142 (.pointer (some ⟨g, 0, none⟩)) none none none).run Tryz.prog w = .ok (.slice (some ⟨g, 0, none⟩) 43 43) w := by
  rw [run_sliceAt_array_all w _ _ uWords]
  obtain ⟨z, hz, hzs⟩ := info_of (show Tryz.prog.cellsOf (Tryz.prog.elem 142) = 0 + 1 by kernel_rfl)
  have ha : Tryz.prog.arrayLen 142 = 43 := by kernel_rfl
  simp [sizeOf, typeInfo, hz, hzs, slicedAt, ha, Addr.add]
theorem cut_plain (w : World) (g : Nat) : (Instr.sliceAt 151 (.pointer (some ⟨g, 0, none⟩)) none none none).run Tryz.prog w = .ok (.slice (some ⟨g, 0, none⟩) 10 10) w := by
  rw [run_sliceAt_array_all w _ _ uPlain]
  obtain ⟨z, hz, hzs⟩ := info_of (show Tryz.prog.cellsOf (Tryz.prog.elem 151) = 0 + 1 by kernel_rfl)
  have ha : Tryz.prog.arrayLen 151 = 10 := by kernel_rfl
  simp [sizeOf, typeInfo, hz, hzs, slicedAt, ha, Addr.add]
theorem Word_ok {w : World} (hg : Gl w) (b : ByteArray) : Rt Tryz.prog 99 #[.string b] w fun v w' => v = .bool (wordsL.contains b.data.toList) ∧ w' = w := by
  refine scan_Word_calls ?_
  unfold scan_Word_F
  refine VK_of (cut_words w _) ?_
  refine CK_st Tryz.func119 rfl rfl (Contains_ok b (l := wordsL) (reads_at hg.words (by decide)) (by decide)) ?_
  rintro _ w ⟨rfl, rfl⟩
  exact ⟨rfl, rfl⟩
end Go.Proofs.YtpkfbaagpjdifaaGreatDoor.Tr
set_option linter.unusedVariables false
set_option linter.unusedSimpArgs false
set_option maxRecDepth 4000
namespace Go.Proofs.YtpkfbaagpjdifaaGreatDoor.Tr
open Go Go.X Go.RowKit Go.Proofs.YtpkfbaagpjdifaaGreatDoor.XF Go.Proofs.YtpkfbaagpjdifaaGreatDoor.XK
theorem all_iff (s : ByteArray) (p : UInt8 → Bool) : s.data.toList.all p = true ↔ ∀ (i : Nat) (h : i < s.size), p (s[i]'h) = true := by
  rw [List.all_eq_true]
  constructor
  · intro h i hi
    exact h _ (Array.getElem_mem_toList (by exact hi))
  · intro h x hx
    obtain ⟨i, hi, rfl⟩ := List.mem_iff_getElem.1 hx
    have := h i (by simpa using hi)
    rw [Array.getElem_toList]
    exact this
theorem alnum_nat (c : UInt8) : ((decide (97 ≤ (c.toNat : Int)) && decide ((c.toNat : Int) ≤ 122)) || (decide (48 ≤ (c.toNat : Int)) && decide ((c.toNat : Int) ≤ 57))) = alnumP c := by
  unfold alnumP letterP digitP
  have e : ∀ a : Nat, decide (((a : Nat) : Int) ≤ (c.toNat : Int)) = decide (a ≤ c.toNat) := fun a => by simp
  have e' : ∀ a : Nat, decide ((c.toNat : Int) ≤ ((a : Nat) : Int)) = decide (c.toNat ≤ a) := fun a => by simp
  rw [← e 97, ← e' 122, ← e 48, ← e' 57]
  rfl
theorem letter_nat (c : UInt8) : (decide (97 ≤ (c.toNat : Int)) && decide ((c.toNat : Int) ≤ 122)) = letterP c := by
  unfold letterP
  have e : ∀ a : Nat, decide (((a : Nat) : Int) ≤ (c.toNat : Int)) = decide (a ≤ c.toNat) := fun a => by simp
  have e' : ∀ a : Nat, decide ((c.toNat : Int) ≤ ((a : Nat) : Int)) = decide (c.toNat ≤ a) := fun a => by simp
  rw [← e 97, ← e' 122]
  rfl
theorem digit_nat (c : UInt8) : (decide (48 ≤ (c.toNat : Int)) && decide ((c.toNat : Int) ≤ 57)) = digitP c := by
  unfold digitP
  have e : ∀ a : Nat, decide (((a : Nat) : Int) ≤ (c.toNat : Int)) = decide (a ≤ c.toNat) := fun a => by simp
  have e' : ∀ a : Nat, decide ((c.toNat : Int) ≤ ((a : Nat) : Int)) = decide (c.toNat ≤ a) := fun a => by simp
  rw [← e 48, ← e' 57]
  rfl
theorem length_ok (s : ByteArray) (hs : s.size ≤ maxLen) (w : World) : Rt Tryz.prog 96 #[.string s, .func (.func 97) #[] #[]] w fun v w' => (∃ r : Nat, v = .int .i64 r ∧ (r = s.size ↔ s.data.toList.all alnumP = true)) ∧ Mod none_ w w' := by
  have hit : ∀ p, Mod none_ w (w.iter s p) := fun p => (Mod.refl none_ w).alloc _
  refine scan_length_calls ?_
  unfold scan_length_F
  refine VK_of (run_range_string w _ s uS) ?_
  refine W_loop scan_length_L0_ok (fun ρ w' => ∃ n : Nat, n ≤ s.size ∧ ρ 8 = .pointer (some ⟨w.heap.size, 0, none⟩) ∧ ρ 0 = .string s ∧ ρ 1 = .func (.func 97) #[] #[] ∧ w' = w.iter s n ∧ ∀ (j : Nat) (h : j < s.size), j < n → alnumP (s[j]'h) = true) (fun _ w' => s.size - w'.iterPos w.heap.size)
    ⟨0, Nat.zero_le _, rfl, rfl, rfl, rfl, fun j h q => by omega⟩ ?_
  rintro ρ w1 ⟨n, hn, h8, h0, h1, rfl, hall⟩
  rw [scan_length_L0_eq]
  unfold scan_length_L0_F
  simp only [h8, h1]
  by_cases hlt : n < s.size
  · refine VK_of (run_next_any w s n _ hlt) ?_
    rw [extract_ok (v := .bool true) rfl]
    simp only [CondK_bool, MG_u, NG_u, VG_u, UG_u, PG_u, BG_u, CG_u, IG_u, MG_b, NG_b, VG_b, UG_b, PG_b, BG_b, CG_b, IG_b, PK_bool, NK_ptr, not_ok, reduceCtorEq, if_true, if_false, Bool.true_eq_false, Bool.false_eq_true, Bool.not_true, Bool.not_false]
    rw [extract_ok (v := .int .i64 n) rfl, extract_ok (v := .int .i32 (Utf8.decode s n).1) rfl]
    refine CK_st Tryz.func97 rfl rfl (named_ok _ _) ?_
    rintro _ w2 ⟨rfl, rfl⟩
    by_cases ha : (s[n]'hlt).toNat < 128
    · rw [decide_eq_true hlt |> fun _ => decode_ascii s n hlt ha, alnum_nat]
      cases hb : alnumP (s[n]'hlt) with
      | true =>
        simp only [CondK_bool, MG_u, NG_u, VG_u, UG_u, PG_u, BG_u, CG_u, IG_u, MG_b, NG_b, VG_b, UG_b, PG_b, BG_b, CG_b, IG_b, PK_bool, NK_ptr, not_ok, reduceCtorEq, if_true, if_false, Bool.true_eq_false, Bool.false_eq_true, Bool.not_true, Bool.not_false]
        refine ⟨⟨n + 1, hlt, h8, h0, h1, rfl, fun j h q => ?_⟩, ?_⟩
        · by_cases e : j = n
          · subst e; exact hb
          · exact hall j h (by omega)
        · simp only [World.iterPos_iter]; omega
      | false =>
        simp only [CondK_bool, MG_u, NG_u, VG_u, UG_u, PG_u, BG_u, CG_u, IG_u, MG_b, NG_b, VG_b, UG_b, PG_b, BG_b, CG_b, IG_b, PK_bool, NK_ptr, not_ok, reduceCtorEq, if_true, if_false, Bool.true_eq_false, Bool.false_eq_true, Bool.not_true, Bool.not_false, sq_n, sq_x, sq_r, bk_n, bk_r, bk_x, rt_r, rt_n, rs_0, rs_t, pk_1, pk_2, up_at, reduceIte, Nat.reduceEqDiff]
        refine ⟨⟨n, rfl, ?_⟩, hit _⟩
        constructor
        · intro q; omega
        · intro q
          have := (all_iff s _).1 q n hlt
          rw [hb] at this; cases this
    · have hd := decode_high s n hlt (by omega)
      have hno : alnumP (s[n]'hlt) = false := by
        unfold alnumP letterP digitP
        simp; omega
      rw [show (decide (97 ≤ ((Utf8.decode s n).1 : Int)) && decide (((Utf8.decode s n).1 : Int) ≤ 122) || decide (48 ≤ ((Utf8.decode s n).1 : Int)) && decide (((Utf8.decode s n).1 : Int) ≤ 57)) = false by simp; omega]
      simp only [CondK_bool, MG_u, NG_u, VG_u, UG_u, PG_u, BG_u, CG_u, IG_u, MG_b, NG_b, VG_b, UG_b, PG_b, BG_b, CG_b, IG_b, PK_bool, NK_ptr, not_ok, reduceCtorEq, if_true, if_false, Bool.true_eq_false, Bool.false_eq_true, Bool.not_true, Bool.not_false, sq_n, sq_x, sq_r, bk_n, bk_r, bk_x, rt_r, rt_n, rs_0, rs_t, pk_1, pk_2, up_at, reduceIte, Nat.reduceEqDiff]
      refine ⟨⟨n, rfl, ?_⟩, hit _⟩
      constructor
      · intro q; omega
      · intro q
        have := (all_iff s _).1 q n hlt
        rw [hno] at this; cases this
  · obtain rfl : n = s.size := by omega
    refine VK_of (run_next_end w s _ _ hlt) ?_
    rw [extract_ok (v := .bool false) rfl]
    simp only [CondK_bool, MG_u, NG_u, VG_u, UG_u, PG_u, BG_u, CG_u, IG_u, MG_b, NG_b, VG_b, UG_b, PG_b, BG_b, CG_b, IG_b, PK_bool, NK_ptr, not_ok, reduceCtorEq, if_true, if_false, Bool.true_eq_false, Bool.false_eq_true, Bool.not_true, Bool.not_false, sq_n, sq_x, sq_r, bk_n, bk_r, bk_x, rt_r, rt_n, rs_0, rs_t, pk_1, pk_2, up_at, reduceIte, Nat.reduceEqDiff]
    rw [scan_length_R1_eq]
    unfold scan_length_R1_F
    simp only [sq_n, sq_x, sq_r, bk_n, bk_r, bk_x, rt_r, rt_n, rs_0, rs_t, pk_1, pk_2, up_at, reduceIte, Nat.reduceEqDiff, h0, fo25_0, fo25_1, fo48_0, fo48_1, fo62_0, fo62_1, fo62_2, fo62_3, fo62_4, fo62_5, fo62_6, fo62_7, fo85_0, fo85_1, fo85_2, fo85_3, ld2, ld3, ld5, ld9, ld22, ld23, ld60, len9, len22, len23, len60, len111, ldK_some, cellE, blkC_c, add_pl, Nat.zero_add, List.getElem?_toArray, List.getElem?_cons_succ, List.getElem?_cons_zero]
    exact ⟨⟨_, rfl, fun _ => (all_iff s _).2 fun i h => hall i h h, fun _ => rfl⟩, hit _⟩
theorem idxS_ok (s : ByteArray) (w : World) (hs : 0 < s.size) {K : Value → World → Prop} (hk : K (.int .u8 (s[0]'hs).toNat) w) : VK Tryz.prog (Instr.index 9 (.string s) (.int .i64 0)) w K := by
  refine VK_of ?_ hk
  rw [run_index_string w _ s _ _ uS, dif_pos ⟨by omega, by omega⟩]
  rfl
theorem conv_ok (c : UInt8) (w : World) {K : Value → World → Prop} (hk : K (.int .i32 c.toNat) w) : VK Tryz.prog (convert 5 21 (.int .u8 c.toNat)) w K := by
  refine VK_of ?_ hk
  have ek : Tryz.prog.intKind 21 = .i32 := by kernel_rfl
  have := run_convert_int (P := Tryz.prog) w 5 21 .u8 c.toNat (by kernel_rfl) (by kernel_rfl)
  rw [this, ek]
  have := c.toNat_lt
  rw [show IntKind.i32.wrap (c.toNat : Int) = (c.toNat : Int) by rw [IntKind.wrap_i32]; omega]
end Go.Proofs.YtpkfbaagpjdifaaGreatDoor.Tr
