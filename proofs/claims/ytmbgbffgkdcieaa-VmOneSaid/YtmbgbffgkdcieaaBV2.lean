/- Several texts of this repo, one behind the other, without what is not used here. -/
import Derived.Test.YtmbgbffgkdcieaaProg
import Derived.Lib.SliceRun
import Derived.Laws.OwnMore
import Derived.Laws.IdiomStrings
import Derived.Laws.BytesArg
import Derived.Laws.MakeOwn
import Derived.Laws.CopyRow
import Derived.Laws.Bits64b
import Derived.Laws.Shifts
import Derived.Test.YtmbgbffgkdcieaaBV1
set_option linter.unusedVariables false
set_option maxRecDepth 100000
namespace Go.Proofs.Ytmbgbffgkdcieaa.XF
open Go Go.X
noncomputable def dispatcherlaw07_VmOne_b : Code := (Try.f4.body).getD .skip
noncomputable def dispatcherlaw07_VmOne_R0 : Code := cAt [1, 1, 1, 1, 0, 1] dispatcherlaw07_VmOne_b
noncomputable def dispatcherlaw07_VmOne_R1 : Code := cAt [1, 1, 1, 1, 1] dispatcherlaw07_VmOne_b
noncomputable def dispatcherlaw07_VmOne_R0_F (z : At) (K : Exit → Sl → World → Prop) (ρ : Sl) (w : World) : Prop :=
  CondK (ρ 37) (K .ret (up ρ 6 (Value.bool false)) w) (K .normal ρ w)
theorem dispatcherlaw07_VmOne_R0_eq (z : At) (K : Exit → Sl → World → Prop) (ρ : Sl) (w : World) : sx z Try.prog 88 dispatcherlaw07_VmOne_R0 K ρ w = dispatcherlaw07_VmOne_R0_F z K ρ w := by kernel_rfl
noncomputable def dispatcherlaw07_VmOne_R1_F (z : At) (K : Exit → Sl → World → Prop) (ρ : Sl) (w : World) : Prop :=
  CK Try.prog (Value.func (Fn.func 7) #[] #[]) [(ρ 8), (Value.int .i64 9)] w fun x40 w => VK Try.prog (Instr.extract x40 0) w fun x41 w => VK Try.prog (Instr.extract x40 1) w fun x42 w => VK Try.prog (Instr.alloc 38 true (.tuple #[])) w fun x10 w => UK Try.prog (Instr.storeAt 38 x10 x41) w fun _ w => CK Try.prog (Value.func (Fn.func 10) #[] #[]) [(ρ 0), (ρ 1), (ρ 2)] w fun x47 w => VK Try.prog (Instr.extract x47 0) w fun x48 w => VK Try.prog (Instr.extract x47 1) w fun x49 w => BK Try.prog .neq 5 (.tmp 50) (.const (Value.int .u8 0)) x49 (Value.int .u8 0) w fun x51 w => CondK x51 (VK Try.prog (Instr.fieldAt 38 x10 0) w fun x52 w => VK Try.prog (Instr.loadAt 5 x52) w fun x53 w => BK Try.prog .eql 5 (.tmp 53) (.const (Value.int .u8 4)) x53 (Value.int .u8 4) w fun x54 w => VG Try.prog x54 true (Instr.fieldAt 38 x10 2) w fun x56 w => VG Try.prog x54 true (Instr.loadAt 5 x56) w fun x57 w => MG Try.prog x54 true x49 w fun x58 w => BG Try.prog x54 true .eql 5 (.tmp 57) (.tmp 58) x57 x58 w fun x59 w => PK Try.prog x54 x59 (Value.bool false) w fun x60 w => MG Try.prog x60 true x42 w fun x62 w => BG Try.prog x60 true .eql 3 (.tmp 62) (.const (Value.int .i64 3)) x62 (Value.int .i64 3) w fun x63 w => PK Try.prog x60 x63 (Value.bool false) w fun x64 w => MG Try.prog x64 true (ρ 8) w fun x66 w => CG Try.prog x64 true (Value.func (Fn.func 11) #[] #[]) [x66, (Value.int .i64 0)] w fun x67 w => BG Try.prog x64 true .eql 2 (.tmp 67) (.const (Value.int .i64 0)) x67 (Value.int .i64 0) w fun x68 w => PK Try.prog x64 x68 (Value.bool false) w fun x69 w => K .ret (up (up (up (up (up (up (up (up (up (up (up (up (up (up (up (up (up (up (up (up (up (up (up (up (up (up (up (up (up (up (up (up (up (up (up (up (up ρ 39 (ρ 8)) 40 x40) 38 x40) 41 x41) 42 x42) 10 x10) 11 x42) 44 (ρ 0)) 45 (ρ 1)) 46 (ρ 2)) 47 x47) 43 x47) 48 x48) 49 x49) 12 x48) 13 x49) 50 x49) 51 x51) 52 x52) 53 x53) 54 x54) 55 x54) 56 x56) 57 x57) 58 x58) 59 x59) 60 x60) 61 x60) 62 x62) 63 x63) 64 x64) 65 x64) 66 x66) 67 x67) 68 x68) 69 x69) 6 x69) w) (VK Try.prog (Instr.fieldAt 38 x10 0) w fun x70 w => VK Try.prog (Instr.loadAt 5 x70) w fun x71 w => BK Try.prog .eql 5 (.tmp 71) (.const (Value.int .u8 2)) x71 (Value.int .u8 2) w fun x72 w => MG Try.prog x72 true x42 w fun x74 w => BG Try.prog x72 true .eql 3 (.tmp 74) (.const (Value.int .i64 5)) x74 (Value.int .i64 5) w fun x75 w => PK Try.prog x72 x75 (Value.bool false) w fun x76 w => MG Try.prog x76 true (ρ 8) w fun x78 w => CG Try.prog x76 true (Value.func (Fn.func 11) #[] #[]) [x78, (Value.int .i64 0)] w fun x79 w => MG Try.prog x76 true x48 w fun x80 w => BG Try.prog x76 true .eql 2 (.tmp 79) (.tmp 80) x79 x80 w fun x81 w => PK Try.prog x76 x81 (Value.bool false) w fun x82 w => MG Try.prog x82 true (ρ 8) w fun x84 w => CG Try.prog x82 true (Value.func (Fn.func 11) #[] #[]) [x84, (Value.int .i64 1)] w fun x85 w => BG Try.prog x82 true .eql 2 (.tmp 85) (.const (Value.int .i64 0)) x85 (Value.int .i64 0) w fun x86 w => PK Try.prog x82 x86 (Value.bool false) w fun x87 w => K .ret (up (up (up (up (up (up (up (up (up (up (up (up (up (up (up (up (up (up (up (up (up (up (up (up (up (up (up (up (up (up (up (up (up (up (up (up (up ρ 39 (ρ 8)) 40 x40) 38 x40) 41 x41) 42 x42) 10 x10) 11 x42) 44 (ρ 0)) 45 (ρ 1)) 46 (ρ 2)) 47 x47) 43 x47) 48 x48) 49 x49) 12 x48) 13 x49) 50 x49) 51 x51) 70 x70) 71 x71) 72 x72) 73 x72) 74 x74) 75 x75) 76 x76) 77 x76) 78 x78) 79 x79) 80 x80) 81 x81) 82 x82) 83 x82) 84 x84) 85 x85) 86 x86) 87 x87) 6 x87) w)
theorem dispatcherlaw07_VmOne_R1_eq (z : At) (K : Exit → Sl → World → Prop) (ρ : Sl) (w : World) : sx z Try.prog 88 dispatcherlaw07_VmOne_R1 K ρ w = dispatcherlaw07_VmOne_R1_F z K ρ w := by kernel_rfl
noncomputable def dispatcherlaw07_VmOne_F (a0 a1 a2 : Value) (w : World) (R : Value → World → Prop) : Prop :=
  BK Try.prog .rem 5 (.tmp 14) (.const (Value.int .u8 11)) a0 (Value.int .u8 11) w fun x15 w => BK Try.prog .add 5 (.const (Value.int .u8 10)) (.tmp 15) (Value.int .u8 10) x15 w fun x16 w => VK Try.prog (Instr.build 30 [(0, (Value.int .u8 1)), (1, a1)].toArray) w fun x18 w => VK Try.prog (Instr.build 30 [(0, (Value.int .u8 1)), (1, a2)].toArray) w fun x20 w => VK Try.prog (Instr.build 30 [(0, x16)].toArray) w fun x22 w => VK Try.prog (Instr.build 30 [(0, (Value.int .u8 3))].toArray) w fun x23 w => VK Try.prog (Instr.build 30 [(0, (Value.int .u8 29))].toArray) w fun x24 w => VK Try.prog (Instr.buildSlice 25 5 [(0, x18), (1, x20), (2, x22), (3, x23), (4, x24)].toArray) w fun x25 w => VK Try.prog (Instr.build 28 [(1, (Value.int .i64 1)), (0, x25)].toArray) w fun x26 w => VK Try.prog (Instr.alloc 28 true (.tuple #[])) w fun x7 w => UK Try.prog (Instr.storeAt 28 x7 x26) w fun _ w => VK Try.prog (Instr.loadAt 28 x7) w fun x28 w => CK Try.prog (Value.func (Fn.func 6) #[] #[]) [x28, (Value.int .i64 0), (Value.int .i64 1)] w fun x29 w => VK Try.prog (Instr.extract x29 0) w fun x30 w => VK Try.prog (Instr.extract x29 1) w fun x31 w => BK Try.prog .neq 32 (.tmp 32) (.const (Value.int .i64 0)) x31 (Value.int .i64 0) w fun x33 w => MG Try.prog x33 false x30 w fun x35 w => BG Try.prog x33 false .eql 31 (.tmp 35) (.const (Value.pointer none)) x35 (Value.pointer none) w fun x36 w => PK Try.prog x33 (Value.bool true) x36 w fun x37 w => sx fn_ Try.prog 88 dispatcherlaw07_VmOne_R0 (seqK (sx fn_ Try.prog 88 dispatcherlaw07_VmOne_R1 (retK Try.prog [ResultVar.tmp 6] R)) (retK Try.prog [ResultVar.tmp 6] R)) (up (up (up (up (up (up (up (up (up (up (up (up (up (up (up (up (up (up (up (up (up (up (up (up (up (up (up (up (up (rho0 [a0, a1, a2]) 6 (Value.bool false)) 14 a0) 15 x15) 16 x16) 0 x16) 17 a1) 18 x18) 19 a2) 20 x20) 21 x16) 22 x22) 23 x23) 24 x24) 25 x25) 26 x26) 7 x7) 28 x28) 29 x29) 27 x29) 30 x30) 31 x31) 8 x30) 9 x31) 32 x31) 33 x33) 34 x33) 35 x35) 36 x36) 37 x37) w
theorem dispatcherlaw07_VmOne_eq (a0 a1 a2 : Value) (w : World) (R : Value → World → Prop) : sx fn_ Try.prog 88 dispatcherlaw07_VmOne_b (retK Try.prog Try.f4.results.toList R) (rho0 [a0, a1, a2]) w = dispatcherlaw07_VmOne_F a0 a1 a2 w R := by kernel_rfl
theorem dispatcherlaw07_VmOne_calls {a0 a1 a2 : Value} {w : World} {R : Value → World → Prop} (h : dispatcherlaw07_VmOne_F a0 a1 a2 w R) : Calls Try.prog 4 #[a0, a1, a2] w fun e w' => ∃ v, e = .returned v ∧ R v w' :=
  Go.X.calls_of_sx (n := 88) (c := dispatcherlaw07_VmOne_b) Try.func4 (by kernel_rfl) (by kernel_rfl) (Nat.le_of_ble_eq_true rfl) (by kernel_rfl) (Eq.mpr (dispatcherlaw07_VmOne_eq a0 a1 a2 w R) h)
noncomputable def vm_New_b : Code := (Try.f6.body).getD .skip
noncomputable def vm_New_R0 : Code := cAt [1, 1, 0] vm_New_b
noncomputable def vm_New_R1 : Code := cAt [1, 1, 1] vm_New_b
noncomputable def vm_New_L2 : Code := cAt [1, 1, 1, 1, 0, 1, 0, 0] vm_New_b
noncomputable def vm_New_R3 : Code := cAt [1, 1, 1, 1, 1] vm_New_b
noncomputable def vm_New_R0_ops : Array Oper := opsOf vm_New_R0
def vm_New_R0_H (S : World → Prop) (K : Exit → Sl → World → Prop) (ρ : Sl) (w : World) : Prop :=
  HK Try.prog S (do pure (Next.value (← Instr.loadAt 28 (ρ 3)))) fun x32 => HK Try.prog S (do pure (Next.value (← Instr.fieldAt 28 (ρ 3) 1))) fun x36 => HK Try.prog S (do pure (Next.value (← Instr.loadAt 3 x36))) fun x37 => (CK Try.prog (Value.func (Fn.func 15) #[] #[]) [x32] w fun x33 w => S w ∧ (VK Try.prog (Instr.makeSlice 22 x37 x37) w fun x38 w => S w ∧ (HK Try.prog S (do pure (Next.value (← Instr.build 56 [(0, x33), (1, (ρ 1)), (2, (ρ 2)), (5, x38)].toArray))) fun x39 => VK Try.prog (Instr.box 56 x39) w fun x40 w => S w ∧ (K Exit.normal (up (up (up (up (up (up (up (up (up (up ρ 32 x32) 34 (ρ 1)) 35 (ρ 2)) 36 x36) 37 x37) 33 x33) 38 x38) 39 x39) 40 x40) 8 x40) w)))) ∧ (VK Try.prog (Instr.makeSlice 22 x37 x37) w fun x38_1 w => S w ∧ (CK Try.prog (Value.func (Fn.func 15) #[] #[]) [x32] w fun x33_1 w => S w ∧ (HK Try.prog S (do pure (Next.value (← Instr.build 56 [(0, x33_1), (1, (ρ 1)), (2, (ρ 2)), (5, x38_1)].toArray))) fun x39_1 => VK Try.prog (Instr.box 56 x39_1) w fun x40_1 w => S w ∧ (K Exit.normal (up (up (up (up (up (up (up (up (up (up ρ 32 x32) 34 (ρ 1)) 35 (ρ 2)) 36 x36) 37 x37) 38 x38_1) 33 x33_1) 39 x39_1) 40 x40_1) 8 x40_1) w))))
theorem vm_New_R0_held {D : List Deferred} (S : World → Prop) {K : Exit → Sl → World → Prop} {ρ : Sl} {w : World} (hS : S { w with drawn := w.drawn + 1 }) (h : vm_New_R0_H S K ρ { w with drawn := w.drawn + 1 }) : W ⟨none, D⟩ Try.prog 68 vm_New_R0 K ρ w := by
  have e : vm_New_R0 = .region (idOf vm_New_R0) vm_New_R0_ops true := by kernel_rfl
  have q : sxd Try.prog S vm_New_R0_ops (K .normal) (Pd.take 0 (Pd.take 2 (Pd.take 3 (Pd.take 4 (Pd.take 5 (Pd.two false false 1 6 (Pd.only false 6 (Pd.take 7 (Pd.only false 8 (Pd.take 9 Pd.done)))) (Pd.only false 1 (Pd.take 7 (Pd.only false 8 (Pd.take 9 Pd.done)))))))))) ρ { w with drawn := w.drawn + 1 } = vm_New_R0_H S K ρ { w with drawn := w.drawn + 1 } := by kernel_rfl
  rw [e]
  exact W_pland S (Pd.take 0 (Pd.take 2 (Pd.take 3 (Pd.take 4 (Pd.take 5 (Pd.two false false 1 6 (Pd.only false 6 (Pd.take 7 (Pd.only false 8 (Pd.take 9 Pd.done)))) (Pd.only false 1 (Pd.take 7 (Pd.only false 8 (Pd.take 9 Pd.done)))))))))) (by kernel_rfl) (by kernel_rfl) (by kernel_rfl) (by kernel_rfl) hS (Eq.mpr q h)
noncomputable def vm_New_R1_F (z : At) (K : Exit → Sl → World → Prop) (ρ : Sl) (w : World) : Prop :=
  VK Try.prog (Instr.fieldAt 28 (ρ 3) 2) w fun x41 w => VK Try.prog (Instr.loadAt 26 x41) w fun x42 w => IK Try.prog .len #[26] 3 [false] [x42] w fun x43 w => W z Try.prog 68 (Code.loop vm_New_L2) (blkK 1 (seqK (sx z Try.prog 68 vm_New_R3 K) K)) (up (up (up (up (up ρ 9 (Value.int .i64 0)) 41 x41) 42 x42) 43 x43) 44 (Value.int .i64 0)) w
theorem vm_New_R1_eq (z : At) (K : Exit → Sl → World → Prop) (ρ : Sl) (w : World) : sx z Try.prog 68 vm_New_R1 K ρ w = vm_New_R1_F z K ρ w := by kernel_rfl
noncomputable def vm_New_L2_F (z : At) (K : Exit → Sl → World → Prop) (ρ : Sl) (w : World) : Prop :=
  BK Try.prog .lss 3 (.tmp 44) (.tmp 43) (ρ 44) (ρ 43) w fun x45 w => CondK x45 (VK Try.prog (Instr.indexAt 26 (ρ 42) (ρ 44)) w fun x46 w => VK Try.prog (Instr.loadAt 3 x46) w fun x47 w => NK Try.prog (ρ 8) w fun x50 w => VK Try.prog (Instr.fieldAt 56 x50 7) w fun x51 w => VK Try.prog (Instr.loadAt 26 x51) w fun x52 w => VK Try.prog (Instr.buildSlice 26 1 [(0, (ρ 9))].toArray) w fun x54 w => IK Try.prog .append #[26, 26] 26 [false, false] [x52, x54] w fun x55 w => NK Try.prog (ρ 8) w fun x56 w => VK Try.prog (Instr.fieldAt 56 x56 7) w fun x57 w => UK Try.prog (Instr.storeAt 26 x57 x55) w fun _ w => BK Try.prog .add 3 (.tmp 58) (.tmp 59) (ρ 9) x47 w fun x60 w => BK Try.prog .add 3 (.tmp 44) (.const (Value.int .i64 1)) (ρ 44) (Value.int .i64 1) w fun x61 w => K .normal (up (up (up (up (up (up (up (up (up (up (up (up (up (up (up (up (up (up (up (up ρ 45 x45) 46 x46) 47 x47) 11 x47) 48 (ρ 8)) 49 (ρ 8)) 50 x50) 51 x51) 52 x52) 53 (ρ 9)) 54 x54) 55 x55) 56 x56) 57 x57) 58 (ρ 9)) 59 x47) 60 x60) 9 x60) 61 x61) 44 x61) w) (K (.exit 1) (up ρ 45 x45) w)
theorem vm_New_L2_eq (z : At) (K : Exit → Sl → World → Prop) (ρ : Sl) (w : World) : sx z Try.prog 68 vm_New_L2 K ρ w = vm_New_L2_F z K ρ w := by kernel_rfl
theorem vm_New_L2_ok : dstOk 68 vm_New_L2 = true := by kernel_rfl
noncomputable def vm_New_R3_F (z : At) (K : Exit → Sl → World → Prop) (ρ : Sl) (w : World) : Prop :=
  VK Try.prog (Instr.makeSlice 22 (ρ 9) (ρ 9)) w fun x64 w => NK Try.prog (ρ 8) w fun x65 w => VK Try.prog (Instr.fieldAt 56 x65 6) w fun x66 w => UK Try.prog (Instr.storeAt 22 x66 x64) w fun _ w => K .ret (up (up (up (up (up (up (up (up ρ 62 (ρ 8)) 63 (ρ 9)) 64 x64) 65 x65) 66 x66) 67 (ρ 8)) 6 (ρ 8)) 7 (Value.int .i64 0)) w
theorem vm_New_R3_eq (z : At) (K : Exit → Sl → World → Prop) (ρ : Sl) (w : World) : sx z Try.prog 68 vm_New_R3 K ρ w = vm_New_R3_F z K ρ w := by kernel_rfl
noncomputable def vm_New_F (a0 a1 a2 : Value) (w : World) (R : Value → World → Prop) : Prop :=
  VK Try.prog (Instr.box 28 a0) w fun x3 w => VK Try.prog (Instr.loadAt 28 x3) w fun x13 w => CK Try.prog (Value.func (Fn.func 14) #[] #[]) [x13] w fun x14 w => VK Try.prog (Op.unary UnOp.not x14) w fun x15 w => CondK x15 (R (Value.tuple #[(Value.pointer none), (Value.int .i64 50)]) w) (BK Try.prog .lss 3 (.tmp 17) (.const (Value.int .i64 1)) a2 (Value.int .i64 1) w fun x18 w => MG Try.prog x18 false a2 w fun x20 w => BG Try.prog x18 false .gtr 3 (.tmp 20) (.const (Value.int .i64 64)) x20 (Value.int .i64 64) w fun x21 w => PK Try.prog x18 (Value.bool true) x21 w fun x22 w => MG Try.prog x22 false a1 w fun x24 w => BG Try.prog x22 false .lss 3 (.tmp 24) (.const (Value.int .i64 0)) x24 (Value.int .i64 0) w fun x25 w => PK Try.prog x22 (Value.bool true) x25 w fun x26 w => MG Try.prog x26 false a1 w fun x28 w => MG Try.prog x26 false a2 w fun x29 w => BG Try.prog x26 false .geq 3 (.tmp 28) (.tmp 29) x28 x29 w fun x30 w => PK Try.prog x26 (Value.bool true) x30 w fun x31 w => CondK x31 (R (Value.tuple #[(Value.pointer none), (Value.int .i64 2)]) w) (W fn_ Try.prog 68 vm_New_R0 (seqK (sx fn_ Try.prog 68 vm_New_R1 (retK Try.prog [ResultVar.tmp 6, ResultVar.tmp 7] R)) (retK Try.prog [ResultVar.tmp 6, ResultVar.tmp 7] R)) (up (up (up (up (up (up (up (up (up (up (up (up (up (up (up (up (up (up (up (up (up (up (up (rho0 [a0, a1, a2]) 3 x3) 6 (Value.pointer none)) 7 (Value.int .i64 0)) 13 x13) 14 x14) 15 x15) 12 x15) 17 a2) 18 x18) 19 x18) 20 x20) 21 x21) 22 x22) 23 x22) 24 x24) 25 x25) 26 x26) 27 x26) 28 x28) 29 x29) 30 x30) 31 x31) 16 x31) w))
theorem vm_New_eq (a0 a1 a2 : Value) (w : World) (R : Value → World → Prop) : sx fn_ Try.prog 68 vm_New_b (retK Try.prog Try.f6.results.toList R) (rho0 [a0, a1, a2]) w = vm_New_F a0 a1 a2 w R := by kernel_rfl
theorem vm_New_calls {a0 a1 a2 : Value} {w : World} {R : Value → World → Prop} (h : vm_New_F a0 a1 a2 w R) : Calls Try.prog 6 #[a0, a1, a2] w fun e w' => ∃ v, e = .returned v ∧ R v w' :=
  Go.X.calls_of_sx (n := 68) (c := vm_New_b) Try.func6 (by kernel_rfl) (by kernel_rfl) (Nat.le_of_ble_eq_true rfl) (by kernel_rfl) (Eq.mpr (vm_New_eq a0 a1 a2 w R) h)
noncomputable def vm_Rank_Run_b : Code := (Try.f7.body).getD .skip
noncomputable def vm_Rank_Run_L0 : Code := cAt [1, 1, 1, 0, 0, 0] vm_Rank_Run_b
noncomputable def vm_Rank_Run_R1 : Code := cAt [1, 1, 1, 1] vm_Rank_Run_b
noncomputable def vm_Rank_Run_R2 : Code := cAt [1, 1, 1, 0, 0, 0, 1, 0, 0] vm_Rank_Run_b
noncomputable def vm_Rank_Run_R3 : Code := cAt [1, 1, 1, 0, 0, 0, 1, 0, 1] vm_Rank_Run_b
noncomputable def vm_Rank_Run_L0_F (z : At) (K : Exit → Sl → World → Prop) (ρ : Sl) (w : World) : Prop :=
  NK Try.prog (ρ 0) w fun x12 w => VK Try.prog (Instr.fieldAt 56 x12 9) w fun x13 w => VK Try.prog (Instr.fieldAt 38 x13 0) w fun x14 w => VK Try.prog (Instr.loadAt 5 x14) w fun x15 w => BK Try.prog .eql 5 (.tmp 15) (.const (Value.int .u8 0)) x15 (Value.int .u8 0) w fun x16 w => MG Try.prog x16 true (ρ 6) w fun x18 w => MG Try.prog x16 true (ρ 1) w fun x19 w => BG Try.prog x16 true .lss 3 (.tmp 18) (.tmp 19) x18 x19 w fun x20 w => PK Try.prog x16 x20 (Value.bool false) w fun x21 w => CondK x21 (W z Try.prog 48 vm_Rank_Run_R2 (seqK (sx z Try.prog 48 vm_Rank_Run_R3 (blkK 1 K)) (blkK 1 K)) (up (up (up (up (up (up (up (up (up (up (up ρ 11 (ρ 0)) 12 x12) 13 x13) 14 x14) 15 x15) 16 x16) 17 x16) 18 x18) 19 x19) 20 x20) 21 x21) w) (K (.exit 0) (up (up (up (up (up (up (up (up (up (up (up ρ 11 (ρ 0)) 12 x12) 13 x13) 14 x14) 15 x15) 16 x16) 17 x16) 18 x18) 19 x19) 20 x20) 21 x21) w)
theorem vm_Rank_Run_L0_eq (z : At) (K : Exit → Sl → World → Prop) (ρ : Sl) (w : World) : sx z Try.prog 48 vm_Rank_Run_L0 K ρ w = vm_Rank_Run_L0_F z K ρ w := by kernel_rfl
theorem vm_Rank_Run_L0_ok : dstOk 48 vm_Rank_Run_L0 = true := by kernel_rfl
noncomputable def vm_Rank_Run_R1_F (z : At) (K : Exit → Sl → World → Prop) (ρ : Sl) (w : World) : Prop :=
  CK Try.prog (Value.func (Fn.func 18) #[] #[]) [(ρ 0)] w fun x46 w => UK Try.prog (Instr.storeAt 38 (ρ 4) x46) w fun _ w => K .ret (up (up (up (up ρ 45 (ρ 0)) 46 x46) 47 (ρ 6)) 5 (ρ 6)) w
theorem vm_Rank_Run_R1_eq (z : At) (K : Exit → Sl → World → Prop) (ρ : Sl) (w : World) : sx z Try.prog 48 vm_Rank_Run_R1 K ρ w = vm_Rank_Run_R1_F z K ρ w := by kernel_rfl
noncomputable def vm_Rank_Run_R2_ops : Array Oper := opsOf vm_Rank_Run_R2
def vm_Rank_Run_R2_H (S : World → Prop) (K : Exit → Sl → World → Prop) (ρ : Sl) (w : World) : Prop :=
  HK Try.prog S (nilCk (ρ 0)) fun x23 => HK Try.prog S (do pure (Next.value (← Instr.fieldAt 56 x23 0))) fun x24 => HK Try.prog S (do pure (Next.value (← Instr.fieldAt 28 x24 0))) fun x25 => HK Try.prog S (do pure (Next.value (← Instr.loadAt 25 x25))) fun x26 => HK Try.prog S (nilCk (ρ 0)) fun x28 => HK Try.prog S (do pure (Next.value (← Instr.fieldAt 56 x28 3))) fun x29 => HK Try.prog S (do pure (Next.value (← Instr.loadAt 3 x29))) fun x30 => HK Try.prog S (do pure (Next.value (← Instr.indexAt 25 x26 x30))) fun x31 => HK Try.prog S (do pure (Next.value (← Instr.loadAt 30 x31))) fun x32 => VK Try.prog (Instr.alloc 30 true (.tuple #[])) w fun x7 w => S w ∧ (UK Try.prog (Instr.storeAt 30 x7 x32) w fun _ w => S w ∧ (K Exit.normal (up (up (up (up (up (up (up (up (up (up (up (up ρ 22 (ρ 0)) 23 x23) 24 x24) 25 x25) 26 x26) 27 (ρ 0)) 28 x28) 29 x29) 30 x30) 31 x31) 32 x32) 7 x7) w))
theorem vm_Rank_Run_R2_held {D : List Deferred} (S : World → Prop) {K : Exit → Sl → World → Prop} {ρ : Sl} {w : World} (hS : S { w with drawn := w.drawn + 1 }) (h : vm_Rank_Run_R2_H S K ρ { w with drawn := w.drawn + 1 }) : W ⟨none, D⟩ Try.prog 48 vm_Rank_Run_R2 K ρ w := by
  have e : vm_Rank_Run_R2 = .region (idOf vm_Rank_Run_R2) vm_Rank_Run_R2_ops true := by kernel_rfl
  have q : sxh Try.prog S vm_Rank_Run_R2_ops (K .normal) [(0, true), (1, true), (2, true), (3, true), (4, true), (5, true), (6, true), (7, true), (8, true), (9, true), (10, true), (11, false), (12, false)] ρ { w with drawn := w.drawn + 1 } = vm_Rank_Run_R2_H S K ρ { w with drawn := w.drawn + 1 } := by kernel_rfl
  rw [e]
  exact W_held S [(0, true), (1, true), (2, true), (3, true), (4, true), (5, true), (6, true), (7, true), (8, true), (9, true), (10, true), (11, false), (12, false)] (by kernel_rfl) (by kernel_rfl) (by kernel_rfl) (by kernel_rfl) hS (Eq.mpr q h)
noncomputable def vm_Rank_Run_R3_F (z : At) (K : Exit → Sl → World → Prop) (ρ : Sl) (w : World) : Prop :=
  NK Try.prog (ρ 0) w fun x34 w => VK Try.prog (Instr.fieldAt 56 x34 3) w fun x35 w => VK Try.prog (Instr.loadAt 3 x35) w fun x36 w => BK Try.prog .add 3 (.tmp 36) (.const (Value.int .i64 1)) x36 (Value.int .i64 1) w fun x37 w => NK Try.prog (ρ 0) w fun x38 w => VK Try.prog (Instr.fieldAt 56 x38 3) w fun x39 w => UK Try.prog (Instr.storeAt 3 x39 x37) w fun _ w => BK Try.prog .add 3 (.tmp 40) (.const (Value.int .i64 1)) (ρ 6) (Value.int .i64 1) w fun x41 w => VK Try.prog (Instr.loadAt 30 (ρ 7)) w fun x43 w => CK Try.prog (Value.func (Fn.func 17) #[] #[]) [(ρ 0), x43] w fun x44 w => K .normal (up (up (up (up (up (up (up (up (up (up (up (up (up ρ 33 (ρ 0)) 34 x34) 35 x35) 36 x36) 37 x37) 38 x38) 39 x39) 40 (ρ 6)) 41 x41) 6 x41) 42 (ρ 0)) 43 x43) 44 x44) w
theorem vm_Rank_Run_R3_eq (z : At) (K : Exit → Sl → World → Prop) (ρ : Sl) (w : World) : sx z Try.prog 48 vm_Rank_Run_R3 K ρ w = vm_Rank_Run_R3_F z K ρ w := by kernel_rfl
noncomputable def vm_Rank_Run_F (a0 a1 : Value) (w : World) (R : Value → World → Prop) : Prop :=
  VK Try.prog (Instr.alloc 38 true (.tuple #[])) w fun x4 w => CK Try.prog (Value.func (Fn.func 16) #[] #[]) [a0] w fun x9 w => CondK x9 (VK Try.prog (Instr.build 38 [(0, (Value.int .u8 2))].toArray) w fun x10 w => UK Try.prog (Instr.storeAt 38 x4 x10) w fun _ w => ∃ x4_1, (do loadVar 38 (← asAddr x4) : Sem Value).run Try.prog w = .ok x4_1 w ∧ R (Value.tuple #[x4_1, (Value.int .i64 0)]) w) (W fn_ Try.prog 48 (Code.loop vm_Rank_Run_L0) (blkK 0 (seqK (sx fn_ Try.prog 48 vm_Rank_Run_R1 (retK Try.prog [ResultVar.cell 4 38, ResultVar.tmp 5] R)) (retK Try.prog [ResultVar.cell 4 38, ResultVar.tmp 5] R))) (up (up (up (up (up (rho0 [a0, a1]) 4 x4) 5 (Value.int .i64 0)) 8 a0) 9 x9) 6 (Value.int .i64 0)) w)
theorem vm_Rank_Run_eq (a0 a1 : Value) (w : World) (R : Value → World → Prop) : sx fn_ Try.prog 48 vm_Rank_Run_b (retK Try.prog Try.f7.results.toList R) (rho0 [a0, a1]) w = vm_Rank_Run_F a0 a1 w R := by kernel_rfl
theorem vm_Rank_Run_calls {a0 a1 : Value} {w : World} {R : Value → World → Prop} (h : vm_Rank_Run_F a0 a1 w R) : Calls Try.prog 7 #[a0, a1] w fun e w' => ∃ v, e = .returned v ∧ R v w' :=
  Go.X.calls_of_sx (n := 48) (c := vm_Rank_Run_b) Try.func7 (by kernel_rfl) (by kernel_rfl) (Nat.le_of_ble_eq_true rfl) (by kernel_rfl) (Eq.mpr (vm_Rank_Run_eq a0 a1 w R) h)
noncomputable def dispatcherref07_Two_b : Code := (Try.f10.body).getD .skip
noncomputable def dispatcherref07_Two_R0 : Code := cAt [1, 1, 0, 1, 0, 1, 1, 1] dispatcherref07_Two_b
noncomputable def dispatcherref07_Two_R1 : Code := cAt [1, 1, 1] dispatcherref07_Two_b
noncomputable def dispatcherref07_Two_R0_F (z : At) (K : Exit → Sl → World → Prop) (ρ : Sl) (w : World) : Prop :=
  CondK (ρ 15) (BK Try.prog .eql 2 (.tmp 18) (.const (Value.int .i64 0)) (ρ 2) (Value.int .i64 0) w fun x19 w => CondK x19 (K .ret (up (up (up (up ρ 18 (ρ 2)) 19 x19) 6 (Value.int .i64 0)) 7 (Value.int .u8 1)) w) (BK Try.prog .eql 2 (.tmp 20) (.tmp 21) (ρ 1) (ρ 8) w fun x22 w => MG Try.prog x22 true (ρ 2) w fun x24 w => BG Try.prog x22 true .eql 2 (.tmp 24) (.const (Value.int .i64 (-1))) x24 (Value.int .i64 (-1)) w fun x25 w => PK Try.prog x22 x25 (Value.bool false) w fun x26 w => CondK x26 (BK Try.prog .eql 5 (.tmp 27) (.const (Value.int .u8 11)) (ρ 0) (Value.int .u8 11) w fun x28 w => CondK x28 (K .ret (up (up (up (up (up (up (up (up (up (up (up (up (up (up ρ 18 (ρ 2)) 19 x19) 20 (ρ 1)) 21 (ρ 8)) 22 x22) 23 x22) 24 x24) 25 x25) 26 x26) 27 (ρ 0)) 28 x28) 29 (ρ 8)) 6 (ρ 8)) 7 (Value.int .u8 0)) w) (K .ret (up (up (up (up (up (up (up (up (up (up (up (up (up ρ 18 (ρ 2)) 19 x19) 20 (ρ 1)) 21 (ρ 8)) 22 x22) 23 x22) 24 x24) 25 x25) 26 x26) 27 (ρ 0)) 28 x28) 6 (Value.int .i64 0)) 7 (Value.int .u8 0)) w)) (BK Try.prog .eql 5 (.tmp 30) (.const (Value.int .u8 11)) (ρ 0) (Value.int .u8 11) w fun x31 w => CondK x31 (BK Try.prog .quo 2 (.tmp 32) (.tmp 33) (ρ 1) (ρ 2) w fun x34 w => K .ret (up (up (up (up (up (up (up (up (up (up (up (up (up (up (up (up ρ 18 (ρ 2)) 19 x19) 20 (ρ 1)) 21 (ρ 8)) 22 x22) 23 x22) 24 x24) 25 x25) 26 x26) 30 (ρ 0)) 31 x31) 32 (ρ 1)) 33 (ρ 2)) 34 x34) 6 x34) 7 (Value.int .u8 0)) w) (BK Try.prog .rem 2 (.tmp 35) (.tmp 36) (ρ 1) (ρ 2) w fun x37 w => K .ret (up (up (up (up (up (up (up (up (up (up (up (up (up (up (up (up ρ 18 (ρ 2)) 19 x19) 20 (ρ 1)) 21 (ρ 8)) 22 x22) 23 x22) 24 x24) 25 x25) 26 x26) 30 (ρ 0)) 31 x31) 35 (ρ 1)) 36 (ρ 2)) 37 x37) 6 x37) 7 (Value.int .u8 0)) w)))) (BK Try.prog .eql 5 (.tmp 9) (.const (Value.int .u8 13)) (ρ 9) (Value.int .u8 13) w fun x39 w => CondK x39 (BK Try.prog .add 2 (.tmp 40) (.tmp 41) (ρ 1) (ρ 2) w fun x42 w => K .ret (up (up (up (up (up (up (up ρ 39 x39) 38 x39) 40 (ρ 1)) 41 (ρ 2)) 42 x42) 6 x42) 7 (Value.int .u8 0)) w) (BK Try.prog .eql 5 (.tmp 9) (.const (Value.int .u8 14)) (ρ 9) (Value.int .u8 14) w fun x44 w => CondK x44 (BK Try.prog .sub 2 (.tmp 45) (.tmp 46) (ρ 1) (ρ 2) w fun x47 w => K .ret (up (up (up (up (up (up (up (up (up ρ 39 x39) 38 x39) 44 x44) 43 x44) 45 (ρ 1)) 46 (ρ 2)) 47 x47) 6 x47) 7 (Value.int .u8 0)) w) (BK Try.prog .eql 5 (.tmp 9) (.const (Value.int .u8 15)) (ρ 9) (Value.int .u8 15) w fun x49 w => CondK x49 (BK Try.prog .lss 2 (.tmp 50) (.tmp 51) (ρ 1) (ρ 2) w fun x52 w => CK Try.prog (Value.func (Fn.func 20) #[] #[]) [x52] w fun x53 w => K .ret (up (up (up (up (up (up (up (up (up (up (up (up ρ 39 x39) 38 x39) 44 x44) 43 x44) 49 x49) 48 x49) 50 (ρ 1)) 51 (ρ 2)) 52 x52) 53 x53) 6 x53) 7 (Value.int .u8 0)) w) (BK Try.prog .eql 5 (.tmp 9) (.const (Value.int .u8 16)) (ρ 9) (Value.int .u8 16) w fun x55 w => CondK x55 (BK Try.prog .leq 2 (.tmp 56) (.tmp 57) (ρ 1) (ρ 2) w fun x58 w => CK Try.prog (Value.func (Fn.func 20) #[] #[]) [x58] w fun x59 w => K .ret (up (up (up (up (up (up (up (up (up (up (up (up (up (up ρ 39 x39) 38 x39) 44 x44) 43 x44) 49 x49) 48 x49) 55 x55) 54 x55) 56 (ρ 1)) 57 (ρ 2)) 58 x58) 59 x59) 6 x59) 7 (Value.int .u8 0)) w) (BK Try.prog .eql 5 (.tmp 9) (.const (Value.int .u8 17)) (ρ 9) (Value.int .u8 17) w fun x61 w => CondK x61 (BK Try.prog .gtr 2 (.tmp 62) (.tmp 63) (ρ 1) (ρ 2) w fun x64 w => CK Try.prog (Value.func (Fn.func 20) #[] #[]) [x64] w fun x65 w => K .ret (up (up (up (up (up (up (up (up (up (up (up (up (up (up (up (up ρ 39 x39) 38 x39) 44 x44) 43 x44) 49 x49) 48 x49) 55 x55) 54 x55) 61 x61) 60 x61) 62 (ρ 1)) 63 (ρ 2)) 64 x64) 65 x65) 6 x65) 7 (Value.int .u8 0)) w) (BK Try.prog .eql 5 (.tmp 9) (.const (Value.int .u8 18)) (ρ 9) (Value.int .u8 18) w fun x67 w => CondK x67 (BK Try.prog .geq 2 (.tmp 68) (.tmp 69) (ρ 1) (ρ 2) w fun x70 w => CK Try.prog (Value.func (Fn.func 20) #[] #[]) [x70] w fun x71 w => K .ret (up (up (up (up (up (up (up (up (up (up (up (up (up (up (up (up (up (up ρ 39 x39) 38 x39) 44 x44) 43 x44) 49 x49) 48 x49) 55 x55) 54 x55) 61 x61) 60 x61) 67 x67) 66 x67) 68 (ρ 1)) 69 (ρ 2)) 70 x70) 71 x71) 6 x71) 7 (Value.int .u8 0)) w) (BK Try.prog .eql 5 (.tmp 9) (.const (Value.int .u8 19)) (ρ 9) (Value.int .u8 19) w fun x73 w => CondK x73 (BK Try.prog .eql 2 (.tmp 74) (.tmp 75) (ρ 1) (ρ 2) w fun x76 w => CK Try.prog (Value.func (Fn.func 20) #[] #[]) [x76] w fun x77 w => K .ret (up (up (up (up (up (up (up (up (up (up (up (up (up (up (up (up (up (up (up (up ρ 39 x39) 38 x39) 44 x44) 43 x44) 49 x49) 48 x49) 55 x55) 54 x55) 61 x61) 60 x61) 67 x67) 66 x67) 73 x73) 72 x73) 74 (ρ 1)) 75 (ρ 2)) 76 x76) 77 x77) 6 x77) 7 (Value.int .u8 0)) w) (K .normal (up (up (up (up (up (up (up (up (up (up (up (up (up (up ρ 39 x39) 38 x39) 44 x44) 43 x44) 49 x49) 48 x49) 55 x55) 54 x55) 61 x61) 60 x61) 67 x67) 66 x67) 73 x73) 72 x73) w))))))))
theorem dispatcherref07_Two_R0_eq (z : At) (K : Exit → Sl → World → Prop) (ρ : Sl) (w : World) : sx z Try.prog 82 dispatcherref07_Two_R0 K ρ w = dispatcherref07_Two_R0_F z K ρ w := by kernel_rfl
noncomputable def dispatcherref07_Two_R1_F (z : At) (K : Exit → Sl → World → Prop) (ρ : Sl) (w : World) : Prop :=
  BK Try.prog .neq 2 (.tmp 78) (.tmp 79) (ρ 1) (ρ 2) w fun x80 w => CK Try.prog (Value.func (Fn.func 20) #[] #[]) [x80] w fun x81 w => K .ret (up (up (up (up (up (up ρ 78 (ρ 1)) 79 (ρ 2)) 80 x80) 81 x81) 6 x81) 7 (Value.int .u8 0)) w
theorem dispatcherref07_Two_R1_eq (z : At) (K : Exit → Sl → World → Prop) (ρ : Sl) (w : World) : sx z Try.prog 82 dispatcherref07_Two_R1 K ρ w = dispatcherref07_Two_R1_F z K ρ w := by kernel_rfl
noncomputable def dispatcherref07_Two_F (a0 a1 a2 : Value) (w : World) (R : Value → World → Prop) : Prop :=
  BK Try.prog .eql 5 (.tmp 9) (.const (Value.int .u8 10)) a0 (Value.int .u8 10) w fun x11 w => CondK x11 (BK Try.prog .mul 2 (.tmp 12) (.tmp 13) a1 a2 w fun x14 w => R (Value.tuple #[x14, (Value.int .u8 0)]) w) (BK Try.prog .eql 5 (.tmp 9) (.const (Value.int .u8 11)) a0 (Value.int .u8 11) w fun x16 w => CondK x16 (sx fn_ Try.prog 82 dispatcherref07_Two_R0 (blkK 0 (seqK (sx fn_ Try.prog 82 dispatcherref07_Two_R1 (retK Try.prog [ResultVar.tmp 6, ResultVar.tmp 7] R)) (retK Try.prog [ResultVar.tmp 6, ResultVar.tmp 7] R))) (up (up (up (up (up (up (up (up (rho0 [a0, a1, a2]) 6 (Value.int .i64 0)) 7 (Value.int .u8 0)) 8 (Value.int .i64 (-9223372036854775808))) 9 a0) 11 x11) 10 x11) 16 x16) 15 x16) w) (BK Try.prog .eql 5 (.tmp 9) (.const (Value.int .u8 12)) a0 (Value.int .u8 12) w fun x17 w => sx fn_ Try.prog 82 dispatcherref07_Two_R0 (blkK 0 (seqK (sx fn_ Try.prog 82 dispatcherref07_Two_R1 (retK Try.prog [ResultVar.tmp 6, ResultVar.tmp 7] R)) (retK Try.prog [ResultVar.tmp 6, ResultVar.tmp 7] R))) (up (up (up (up (up (up (up (up (up (up (rho0 [a0, a1, a2]) 6 (Value.int .i64 0)) 7 (Value.int .u8 0)) 8 (Value.int .i64 (-9223372036854775808))) 9 a0) 11 x11) 10 x11) 16 x16) 15 x16) 17 x17) 15 x17) w))
theorem dispatcherref07_Two_eq (a0 a1 a2 : Value) (w : World) (R : Value → World → Prop) : sx fn_ Try.prog 82 dispatcherref07_Two_b (retK Try.prog Try.f10.results.toList R) (rho0 [a0, a1, a2]) w = dispatcherref07_Two_F a0 a1 a2 w R := by kernel_rfl
theorem dispatcherref07_Two_calls {a0 a1 a2 : Value} {w : World} {R : Value → World → Prop} (h : dispatcherref07_Two_F a0 a1 a2 w R) : Calls Try.prog 10 #[a0, a1, a2] w fun e w' => ∃ v, e = .returned v ∧ R v w' :=
  Go.X.calls_of_sx (n := 82) (c := dispatcherref07_Two_b) Try.func10 (by kernel_rfl) (by kernel_rfl) (Nat.le_of_ble_eq_true rfl) (by kernel_rfl) (Eq.mpr (dispatcherref07_Two_eq a0 a1 a2 w R) h)
noncomputable def vm_Rank_Var_b : Code := (Try.f11.body).getD .skip
noncomputable def vm_Rank_Var_F (a0 a1 : Value) (w : World) (R : Value → World → Prop) : Prop :=
  CK Try.prog (Value.func (Fn.func 16) #[] #[]) [a0] w fun x6 w => MG Try.prog x6 false a1 w fun x8 w => BG Try.prog x6 false .lss 3 (.tmp 8) (.const (Value.int .i64 0)) x8 (Value.int .i64 0) w fun x9 w => PK Try.prog x6 (Value.bool true) x9 w fun x10 w => MG Try.prog x10 false a1 w fun x12 w => MG Try.prog x10 false a0 w fun x13 w => NG Try.prog x10 false x13 w fun x14 w => VG Try.prog x10 false (Instr.fieldAt 56 x14 5) w fun x15 w => VG Try.prog x10 false (Instr.loadAt 22 x15) w fun x16 w => IG Try.prog x10 false .len #[22] 3 [false] [x16] w fun x17 w => BG Try.prog x10 false .geq 3 (.tmp 12) (.tmp 17) x12 x17 w fun x18 w => PK Try.prog x10 (Value.bool true) x18 w fun x19 w => CondK x19 (R (Value.int .i64 0) w) (NK Try.prog a0 w fun x21 w => VK Try.prog (Instr.fieldAt 56 x21 5) w fun x22 w => VK Try.prog (Instr.loadAt 22 x22) w fun x23 w => VK Try.prog (Instr.indexAt 22 x23 a1) w fun x25 w => VK Try.prog (Instr.loadAt 2 x25) w fun x26 w => R x26 w)
theorem vm_Rank_Var_eq (a0 a1 : Value) (w : World) (R : Value → World → Prop) : sx fn_ Try.prog 27 vm_Rank_Var_b (retK Try.prog Try.f11.results.toList R) (rho0 [a0, a1]) w = vm_Rank_Var_F a0 a1 w R := by kernel_rfl
theorem vm_Rank_Var_calls {a0 a1 : Value} {w : World} {R : Value → World → Prop} (h : vm_Rank_Var_F a0 a1 w R) : Calls Try.prog 11 #[a0, a1] w fun e w' => ∃ v, e = .returned v ∧ R v w' :=
  Go.X.calls_of_sx (n := 27) (c := vm_Rank_Var_b) Try.func11 (by kernel_rfl) (by kernel_rfl) (Nat.le_of_ble_eq_true rfl) (by kernel_rfl) (Eq.mpr (vm_Rank_Var_eq a0 a1 w R) h)
noncomputable def code_May_b : Code := (Try.f14.body).getD .skip
noncomputable def code_May_F (a0 : Value) (w : World) (R : Value → World → Prop) : Prop :=
  VK Try.prog (Instr.box 28 a0) w fun x1 w => VK Try.prog (Instr.loadAt 28 x1) w fun x6 w => CK Try.prog (Value.func (Fn.func 21) #[] #[]) [x6] w fun x7 w => VK Try.prog (Instr.extract x7 0) w fun x8 w => VK Try.prog (Instr.extract x7 1) w fun x9 w => BK Try.prog .eql 32 (.tmp 10) (.const (Value.int .i64 0)) x9 (Value.int .i64 0) w fun x11 w => R x11 w
theorem code_May_eq (a0 : Value) (w : World) (R : Value → World → Prop) : sx fn_ Try.prog 12 code_May_b (retK Try.prog Try.f14.results.toList R) (rho0 [a0]) w = code_May_F a0 w R := by kernel_rfl
theorem code_May_calls {a0 : Value} {w : World} {R : Value → World → Prop} (h : code_May_F a0 w R) : Calls Try.prog 14 #[a0] w fun e w' => ∃ v, e = .returned v ∧ R v w' :=
  Go.X.calls_of_sx (n := 12) (c := code_May_b) Try.func14 (by kernel_rfl) (by kernel_rfl) (Nat.le_of_ble_eq_true rfl) (by kernel_rfl) (Eq.mpr (code_May_eq a0 w R) h)
noncomputable def code_Copy_b : Code := (Try.f15.body).getD .skip
noncomputable def code_Copy_R0 : Code := cAt [1, 0] code_Copy_b
noncomputable def code_Copy_R1 : Code := cAt [1, 1] code_Copy_b
noncomputable def code_Copy_R0_ops : Array Oper := opsOf code_Copy_R0
def code_Copy_R0_H (S : World → Prop) (K : Exit → Sl → World → Prop) (ρ : Sl) (w : World) : Prop :=
  HK Try.prog S (do pure (Next.value (← Instr.fieldAt 28 (ρ 1) 0))) fun x3_1 => HK Try.prog S (do pure (Next.value (← Instr.fieldAt 28 (ρ 1) 2))) fun x6_1 => (VK Try.prog (Instr.loadAt 25 x3_1) w fun x4_1 w => S w ∧ ((CK Try.prog (Value.func (Fn.func 22) #[] #[]) [x4_1] w fun x5_1 w => S w ∧ (VK Try.prog (Instr.loadAt 26 x6_1) w fun x7_1 w => S w ∧ (HK Try.prog S (do pure (Next.value (← Instr.fieldAt 28 (ρ 1) 0))) fun x9_1 => CK Try.prog (Value.func (Fn.func 23) #[] #[]) [x7_1] w fun x8_1 w => S w ∧ (UK Try.prog (Instr.storeAt 25 x9_1 x5_1) w fun _ w => S w ∧ (HK Try.prog S (do pure (Next.value (← Instr.fieldAt 28 (ρ 1) 2))) fun x10_1 => UK Try.prog (Instr.storeAt 26 x10_1 x8_1) w fun _ w => S w ∧ (K Exit.normal (up (up (up (up (up (up (up (up ρ 3 x3_1) 6 x6_1) 4 x4_1) 5 x5_1) 7 x7_1) 9 x9_1) 8 x8_1) 10 x10_1) w)))))) ∧ (VK Try.prog (Instr.loadAt 26 x6_1) w fun x7_2 w => S w ∧ (CK Try.prog (Value.func (Fn.func 22) #[] #[]) [x4_1] w fun x5_2 w => S w ∧ (HK Try.prog S (do pure (Next.value (← Instr.fieldAt 28 (ρ 1) 0))) fun x9_2 => CK Try.prog (Value.func (Fn.func 23) #[] #[]) [x7_2] w fun x8_2 w => S w ∧ (UK Try.prog (Instr.storeAt 25 x9_2 x5_2) w fun _ w => S w ∧ (HK Try.prog S (do pure (Next.value (← Instr.fieldAt 28 (ρ 1) 2))) fun x10_2 => UK Try.prog (Instr.storeAt 26 x10_2 x8_2) w fun _ w => S w ∧ (K Exit.normal (up (up (up (up (up (up (up (up ρ 3 x3_1) 6 x6_1) 4 x4_1) 7 x7_2) 5 x5_2) 9 x9_2) 8 x8_2) 10 x10_2) w)))))))) ∧ (VK Try.prog (Instr.loadAt 26 x6_1) w fun x7_3 w => S w ∧ (VK Try.prog (Instr.loadAt 25 x3_1) w fun x4_2 w => S w ∧ (CK Try.prog (Value.func (Fn.func 22) #[] #[]) [x4_2] w fun x5_3 w => S w ∧ (HK Try.prog S (do pure (Next.value (← Instr.fieldAt 28 (ρ 1) 0))) fun x9_3 => CK Try.prog (Value.func (Fn.func 23) #[] #[]) [x7_3] w fun x8_3 w => S w ∧ (UK Try.prog (Instr.storeAt 25 x9_3 x5_3) w fun _ w => S w ∧ (HK Try.prog S (do pure (Next.value (← Instr.fieldAt 28 (ρ 1) 2))) fun x10_3 => UK Try.prog (Instr.storeAt 26 x10_3 x8_3) w fun _ w => S w ∧ (K Exit.normal (up (up (up (up (up (up (up (up ρ 3 x3_1) 6 x6_1) 7 x7_3) 4 x4_2) 5 x5_3) 9 x9_3) 8 x8_3) 10 x10_3) w)))))))
theorem code_Copy_R0_held {D : List Deferred} (S : World → Prop) {K : Exit → Sl → World → Prop} {ρ : Sl} {w : World} (hS : S { w with drawn := w.drawn + 1 }) (h : code_Copy_R0_H S K ρ { w with drawn := w.drawn + 1 }) : W ⟨none, D⟩ Try.prog 12 code_Copy_R0 K ρ w := by
  have e : code_Copy_R0 = .region (idOf code_Copy_R0) code_Copy_R0_ops true := by kernel_rfl
  have q : sxd Try.prog S code_Copy_R0_ops (K .normal) (Pd.take 0 (Pd.take 3 (Pd.two false false 1 4 (Pd.two false false 2 4 (Pd.only false 4 (Pd.take 6 (Pd.only false 5 (Pd.only false 7 (Pd.take 8 (Pd.only false 9 Pd.done)))))) (Pd.only false 2 (Pd.take 6 (Pd.only false 5 (Pd.only false 7 (Pd.take 8 (Pd.only false 9 Pd.done))))))) (Pd.only false 1 (Pd.only false 2 (Pd.take 6 (Pd.only false 5 (Pd.only false 7 (Pd.take 8 (Pd.only false 9 Pd.done)))))))))) ρ { w with drawn := w.drawn + 1 } = code_Copy_R0_H S K ρ { w with drawn := w.drawn + 1 } := by kernel_rfl
  rw [e]
  exact W_pland S (Pd.take 0 (Pd.take 3 (Pd.two false false 1 4 (Pd.two false false 2 4 (Pd.only false 4 (Pd.take 6 (Pd.only false 5 (Pd.only false 7 (Pd.take 8 (Pd.only false 9 Pd.done)))))) (Pd.only false 2 (Pd.take 6 (Pd.only false 5 (Pd.only false 7 (Pd.take 8 (Pd.only false 9 Pd.done))))))) (Pd.only false 1 (Pd.only false 2 (Pd.take 6 (Pd.only false 5 (Pd.only false 7 (Pd.take 8 (Pd.only false 9 Pd.done)))))))))) (by kernel_rfl) (by kernel_rfl) (by kernel_rfl) (by kernel_rfl) hS (Eq.mpr q h)
noncomputable def code_Copy_R1_F (z : At) (K : Exit → Sl → World → Prop) (ρ : Sl) (w : World) : Prop :=
  VK Try.prog (Instr.loadAt 28 (ρ 1)) w fun x11 w => UK Try.prog (Instr.storeAt 28 (ρ 2) x11) w fun _ w => K .ret (up ρ 11 x11) w
theorem code_Copy_R1_eq (z : At) (K : Exit → Sl → World → Prop) (ρ : Sl) (w : World) : sx z Try.prog 12 code_Copy_R1 K ρ w = code_Copy_R1_F z K ρ w := by kernel_rfl
noncomputable def code_Copy_F (a0 : Value) (w : World) (R : Value → World → Prop) : Prop :=
  VK Try.prog (Instr.box 28 a0) w fun x1 w => VK Try.prog (Instr.alloc 28 true (.tuple #[])) w fun x2 w => W fn_ Try.prog 12 code_Copy_R0 (seqK (sx fn_ Try.prog 12 code_Copy_R1 (retK Try.prog [ResultVar.cell 2 28] R)) (retK Try.prog [ResultVar.cell 2 28] R)) (up (up (rho0 [a0]) 1 x1) 2 x2) w
theorem code_Copy_eq (a0 : Value) (w : World) (R : Value → World → Prop) : sx fn_ Try.prog 12 code_Copy_b (retK Try.prog Try.f15.results.toList R) (rho0 [a0]) w = code_Copy_F a0 w R := by kernel_rfl
theorem code_Copy_calls {a0 : Value} {w : World} {R : Value → World → Prop} (h : code_Copy_F a0 w R) : Calls Try.prog 15 #[a0] w fun e w' => ∃ v, e = .returned v ∧ R v w' :=
  Go.X.calls_of_sx (n := 12) (c := code_Copy_b) Try.func15 (by kernel_rfl) (by kernel_rfl) (Nat.le_of_ble_eq_true rfl) (by kernel_rfl) (Eq.mpr (code_Copy_eq a0 w R) h)
noncomputable def vm_Rank_none_b : Code := (Try.f16.body).getD .skip
noncomputable def vm_Rank_none_F (a0 : Value) (w : World) (R : Value → World → Prop) : Prop :=
  BK Try.prog .eql 31 (.tmp 3) (.const (Value.pointer none)) a0 (Value.pointer none) w fun x4 w => MG Try.prog x4 false a0 w fun x6 w => NG Try.prog x4 false x6 w fun x7 w => VG Try.prog x4 false (Instr.fieldAt 56 x7 0) w fun x8 w => VG Try.prog x4 false (Instr.fieldAt 28 x8 0) w fun x9 w => VG Try.prog x4 false (Instr.loadAt 25 x9) w fun x10 w => IG Try.prog x4 false .len #[25] 3 [false] [x10] w fun x11 w => BG Try.prog x4 false .eql 3 (.tmp 11) (.const (Value.int .i64 0)) x11 (Value.int .i64 0) w fun x12 w => PK Try.prog x4 (Value.bool true) x12 w fun x13 w => R x13 w
theorem vm_Rank_none_eq (a0 : Value) (w : World) (R : Value → World → Prop) : sx fn_ Try.prog 14 vm_Rank_none_b (retK Try.prog Try.f16.results.toList R) (rho0 [a0]) w = vm_Rank_none_F a0 w R := by kernel_rfl
theorem vm_Rank_none_calls {a0 : Value} {w : World} {R : Value → World → Prop} (h : vm_Rank_none_F a0 w R) : Calls Try.prog 16 #[a0] w fun e w' => ∃ v, e = .returned v ∧ R v w' :=
  Go.X.calls_of_sx (n := 14) (c := vm_Rank_none_b) Try.func16 (by kernel_rfl) (by kernel_rfl) (Nat.le_of_ble_eq_true rfl) (by kernel_rfl) (Eq.mpr (vm_Rank_none_eq a0 w R) h)
noncomputable def vm_Rank_do_b : Code := (Try.f17.body).getD .skip
noncomputable def vm_Rank_do_R0 : Code := cAt [1, 1, 0, 1, 1, 1, 0] vm_Rank_do_b
noncomputable def vm_Rank_do_R1 : Code := cAt [1, 1, 0, 1, 1, 1, 1, 1, 0] vm_Rank_do_b
noncomputable def vm_Rank_do_R2 : Code := cAt [1, 1, 0, 1, 1, 1, 1, 1, 1, 1, 0, 0, 0] vm_Rank_do_b
noncomputable def vm_Rank_do_R3 : Code := cAt [1, 1, 0, 1, 1, 1, 1, 1, 1, 1, 0, 0, 1] vm_Rank_do_b
noncomputable def vm_Rank_do_R4 : Code := cAt [1, 1, 0, 1, 1, 1, 1, 1, 1, 1, 0, 1] vm_Rank_do_b
noncomputable def vm_Rank_do_R5 : Code := cAt [1, 1, 0, 1, 1, 1, 1, 1, 1, 1, 1, 1, 0, 1, 0, 0] vm_Rank_do_b
noncomputable def vm_Rank_do_R6 : Code := cAt [1, 1, 0, 1, 1, 1, 1, 1, 1, 1, 1, 1, 0, 1, 0, 1] vm_Rank_do_b
noncomputable def vm_Rank_do_R7 : Code := cAt [1, 1, 0, 1, 1, 1, 1, 1, 1, 1, 1, 1, 0, 1, 1] vm_Rank_do_b
noncomputable def vm_Rank_do_R8 : Code := cAt [1, 1, 0, 1, 1, 1, 1, 1, 1, 1, 1, 1, 1, 1, 0, 0, 1, 1] vm_Rank_do_b
noncomputable def vm_Rank_do_R9 : Code := cAt [1, 1, 0, 1, 1, 1, 1, 1, 1, 1, 1, 1, 1, 1, 0, 1] vm_Rank_do_b
noncomputable def vm_Rank_do_R10 : Code := cAt [1, 1, 0, 1, 1, 1, 1, 1, 1, 1, 1, 1, 1, 1, 1, 1, 1, 1, 1, 1, 1, 1, 1, 1] vm_Rank_do_b
noncomputable def vm_Rank_do_R11 : Code := cAt [1, 1, 0, 1, 1, 1, 1, 1, 1, 1, 1, 1, 1, 1, 1, 1, 1, 1, 1, 1, 1, 1, 1, 1, 1, 1] vm_Rank_do_b
noncomputable def vm_Rank_do_R12 : Code := cAt [1, 1, 0, 1, 1, 1, 1, 1, 1, 1, 1, 1, 1, 1, 1, 1, 1, 1, 1, 1, 1, 1, 1, 1, 1, 1, 0, 0] vm_Rank_do_b
noncomputable def vm_Rank_do_R13 : Code := cAt [1, 1, 0, 1, 1, 1, 1, 1, 1, 1, 1, 1, 1, 1, 1, 1, 1, 1, 1, 1, 1, 1, 1, 1, 1, 1, 0, 1] vm_Rank_do_b
noncomputable def vm_Rank_do_R14 : Code := cAt [1, 1, 0, 1, 1, 1, 1, 1, 1, 1, 1, 1, 1, 1, 1, 1, 1, 1, 1, 1, 1, 1, 1, 1, 1, 1, 1, 1, 1, 1, 0] vm_Rank_do_b
noncomputable def vm_Rank_do_R15 : Code := cAt [1, 1, 0, 1, 1, 1, 1, 1, 1, 1, 1, 1, 1, 1, 1, 1, 1, 1, 1, 1, 1, 1, 1, 1, 1, 1, 1, 1, 1, 1, 1, 1, 1, 1, 1, 1, 1, 1, 1, 0, 1] vm_Rank_do_b
noncomputable def vm_Rank_do_R16 : Code := cAt [1, 1, 0, 1, 1, 1, 1, 1, 1, 1, 1, 1, 1, 1, 1, 1, 1, 1, 1, 1, 1, 1, 1, 1, 1, 1, 1, 1, 1, 1, 1, 1, 1, 1, 1, 1, 1, 1, 1, 1] vm_Rank_do_b
noncomputable def vm_Rank_do_R0_ops : Array Oper := opsOf vm_Rank_do_R0
def vm_Rank_do_R0_T (K : Exit → Sl → World → Prop) (ρ : Sl) (w : World) : Prop :=
  let C : World → Prop := fun w' => w' = w; QK Try.prog C (nilCk (ρ 0)) fun x50_1 => QK Try.prog C (do pure (Next.value (← Instr.fieldAt 56 x50_1 5))) fun x51_1 => QK Try.prog C (do pure (Next.value (← Instr.loadAt 22 x51_1))) fun x52_1 => QK Try.prog C (do pure (Next.value (← Instr.fieldAt 30 (ρ 3) 1))) fun x53_1 => QK Try.prog C (do pure (Next.value (← Instr.loadAt 2 x53_1))) fun x54_1 => QK Try.prog C (do pure (Next.value (← Instr.indexAt 22 x52_1 x54_1))) fun x55_1 => QK Try.prog C (do pure (Next.value (← Instr.loadAt 2 x55_1))) fun x56_1 => CK Try.prog (Value.func (Fn.func 24) #[] #[]) [(ρ 0), x56_1] w fun x57_1 w => K Exit.normal (up (up (up (up (up (up (up (up (up (up ρ 48 (ρ 0)) 49 (ρ 0)) 50 x50_1) 51 x51_1) 52 x52_1) 53 x53_1) 54 x54_1) 55 x55_1) 56 x56_1) 57 x57_1) w
theorem vm_Rank_do_R0_tail {D : List Deferred} {K : Exit → Sl → World → Prop} {ρ : Sl} {w : World} (h : vm_Rank_do_R0_T K ρ { w with drawn := w.drawn + 1 }) : W ⟨none, D⟩ Try.prog 221 vm_Rank_do_R0 K ρ w := by
  have e : vm_Rank_do_R0 = .region (idOf vm_Rank_do_R0) vm_Rank_do_R0_ops true := by kernel_rfl
  have q : sxq Try.prog (fun w' => w' = { w with drawn := w.drawn + 1 }) vm_Rank_do_R0_ops (fun ρ' => sxL Try.prog vm_Rank_do_R0_ops (K .normal) (vm_Rank_do_R0_ops.toList.drop 9) ρ' { w with drawn := w.drawn + 1 }) (vm_Rank_do_R0_ops.toList.take 9) ρ = vm_Rank_do_R0_T K ρ { w with drawn := w.drawn + 1 } := by kernel_rfl
  rw [e]
  exact W_tail 9 (by kernel_rfl) (by kernel_rfl) (by kernel_rfl) (by kernel_rfl) (Eq.mpr q h)
noncomputable def vm_Rank_do_R1_ops : Array Oper := opsOf vm_Rank_do_R1
def vm_Rank_do_R1_H (S : World → Prop) (K : Exit → Sl → World → Prop) (ρ : Sl) (w : World) : Prop :=
  HK Try.prog S (nilCk (ρ 0)) fun x61_1 => HK Try.prog S (do pure (Next.value (← Instr.fieldAt 56 x61_1 5))) fun x62_1 => HK Try.prog S (do pure (Next.value (← Instr.loadAt 22 x62_1))) fun x63_1 => HK Try.prog S (do pure (Next.value (← Instr.fieldAt 30 (ρ 3) 1))) fun x64_1 => HK Try.prog S (do pure (Next.value (← Instr.loadAt 2 x64_1))) fun x65_1 => CK Try.prog (Value.func (Fn.func 25) #[] #[]) [(ρ 0)] w fun x67_1 w => S w ∧ (HK Try.prog S (do pure (Next.value (← Instr.indexAt 22 x63_1 x65_1))) fun x68_1 => UK Try.prog (Instr.storeAt 2 x68_1 x67_1) w fun _ w => S w ∧ (K Exit.normal (up (up (up (up (up (up (up (up (up ρ 60 (ρ 0)) 61 x61_1) 62 x62_1) 63 x63_1) 64 x64_1) 65 x65_1) 66 (ρ 0)) 67 x67_1) 68 x68_1) w))
theorem vm_Rank_do_R1_held {D : List Deferred} (S : World → Prop) {K : Exit → Sl → World → Prop} {ρ : Sl} {w : World} (hS : S { w with drawn := w.drawn + 1 }) (h : vm_Rank_do_R1_H S K ρ { w with drawn := w.drawn + 1 }) : W ⟨none, D⟩ Try.prog 221 vm_Rank_do_R1 K ρ w := by
  have e : vm_Rank_do_R1 = .region (idOf vm_Rank_do_R1) vm_Rank_do_R1_ops true := by kernel_rfl
  have q : sxh Try.prog S vm_Rank_do_R1_ops (K .normal) [(0, true), (1, true), (2, true), (3, true), (4, true), (5, true), (6, true), (7, false), (8, true), (9, false)] ρ { w with drawn := w.drawn + 1 } = vm_Rank_do_R1_H S K ρ { w with drawn := w.drawn + 1 } := by kernel_rfl
  rw [e]
  exact W_held S [(0, true), (1, true), (2, true), (3, true), (4, true), (5, true), (6, true), (7, false), (8, true), (9, false)] (by kernel_rfl) (by kernel_rfl) (by kernel_rfl) (by kernel_rfl) hS (Eq.mpr q h)
noncomputable def vm_Rank_do_R2_ops : Array Oper := opsOf vm_Rank_do_R2
def vm_Rank_do_R2_H (S : World → Prop) (K : Exit → Sl → World → Prop) (ρ : Sl) (w : World) : Prop :=
  HK Try.prog S (do pure (Next.value (← Instr.fieldAt 30 (ρ 3) 1))) fun x72_2 => HK Try.prog S (do pure (Next.value (← Instr.loadAt 2 x72_2))) fun x73_2 => CK Try.prog (Value.func (Fn.func 25) #[] #[]) [(ρ 0)] w fun x75_2 w => S w ∧ (CK Try.prog (Value.func (Fn.func 26) #[] #[]) [(ρ 0), x73_2, x75_2] w fun x76_2 w => S w ∧ (K Exit.normal (up (up (up (up (up (up (up ρ 71 (ρ 0)) 72 x72_2) 73 x73_2) 74 (ρ 0)) 75 x75_2) 76 x76_2) 4 x76_2) w))
theorem vm_Rank_do_R2_held {D : List Deferred} (S : World → Prop) {K : Exit → Sl → World → Prop} {ρ : Sl} {w : World} (hS : S { w with drawn := w.drawn + 1 }) (h : vm_Rank_do_R2_H S K ρ { w with drawn := w.drawn + 1 }) : W ⟨none, D⟩ Try.prog 221 vm_Rank_do_R2 K ρ w := by
  have e : vm_Rank_do_R2 = .region (idOf vm_Rank_do_R2) vm_Rank_do_R2_ops true := by kernel_rfl
  have q : sxh Try.prog S vm_Rank_do_R2_ops (K .normal) [(0, true), (1, true), (2, true), (3, true), (4, false), (5, false), (6, true)] ρ { w with drawn := w.drawn + 1 } = vm_Rank_do_R2_H S K ρ { w with drawn := w.drawn + 1 } := by kernel_rfl
  rw [e]
  exact W_held S [(0, true), (1, true), (2, true), (3, true), (4, false), (5, false), (6, true)] (by kernel_rfl) (by kernel_rfl) (by kernel_rfl) (by kernel_rfl) hS (Eq.mpr q h)
noncomputable def vm_Rank_do_R3_F (z : At) (K : Exit → Sl → World → Prop) (ρ : Sl) (w : World) : Prop :=
  BK Try.prog .neq 68 (.tmp 77) (.const (Value.pointer none)) (ρ 4) (Value.pointer none) w fun x78 w => CondK x78 (NK Try.prog (ρ 4) w fun x81 w => VK Try.prog (Instr.loadAt 2 x81) w fun x82 w => CK Try.prog (Value.func (Fn.func 24) #[] #[]) [(ρ 0), x82] w fun x83 w => K .ret (up (up (up (up (up (up (up ρ 77 (ρ 4)) 78 x78) 79 (ρ 0)) 80 (ρ 4)) 81 x81) 82 x82) 83 x83) w) (K .normal (up (up ρ 77 (ρ 4)) 78 x78) w)
theorem vm_Rank_do_R3_eq (z : At) (K : Exit → Sl → World → Prop) (ρ : Sl) (w : World) : sx z Try.prog 221 vm_Rank_do_R3 K ρ w = vm_Rank_do_R3_F z K ρ w := by kernel_rfl
noncomputable def vm_Rank_do_R4_F (z : At) (K : Exit → Sl → World → Prop) (ρ : Sl) (w : World) : Prop :=
  CK Try.prog (Value.func (Fn.func 27) #[] #[]) [(ρ 0), (Value.int .u8 4), (Value.int .u8 2)] w fun x85 w => K .normal (up (up ρ 84 (ρ 0)) 85 x85) w
theorem vm_Rank_do_R4_eq (z : At) (K : Exit → Sl → World → Prop) (ρ : Sl) (w : World) : sx z Try.prog 221 vm_Rank_do_R4 K ρ w = vm_Rank_do_R4_F z K ρ w := by kernel_rfl
noncomputable def vm_Rank_do_R5_ops : Array Oper := opsOf vm_Rank_do_R5
def vm_Rank_do_R5_H (S : World → Prop) (K : Exit → Sl → World → Prop) (ρ : Sl) (w : World) : Prop :=
  HK Try.prog S (do pure (Next.value (← Instr.fieldAt 30 (ρ 3) 1))) fun x91_2 => HK Try.prog S (do pure (Next.value (← Instr.loadAt 2 x91_2))) fun x92_2 => CK Try.prog (Value.func (Fn.func 25) #[] #[]) [(ρ 0)] w fun x94_2 w => S w ∧ (CK Try.prog (Value.func (Fn.func 26) #[] #[]) [(ρ 0), x92_2, x94_2] w fun x95_2 w => S w ∧ (K Exit.normal (up (up (up (up (up (up (up ρ 90 (ρ 0)) 91 x91_2) 92 x92_2) 93 (ρ 0)) 94 x94_2) 95 x95_2) 6 x95_2) w))
theorem vm_Rank_do_R5_held {D : List Deferred} (S : World → Prop) {K : Exit → Sl → World → Prop} {ρ : Sl} {w : World} (hS : S { w with drawn := w.drawn + 1 }) (h : vm_Rank_do_R5_H S K ρ { w with drawn := w.drawn + 1 }) : W ⟨none, D⟩ Try.prog 221 vm_Rank_do_R5 K ρ w := by
  have e : vm_Rank_do_R5 = .region (idOf vm_Rank_do_R5) vm_Rank_do_R5_ops true := by kernel_rfl
  have q : sxh Try.prog S vm_Rank_do_R5_ops (K .normal) [(0, true), (1, true), (2, true), (3, true), (4, false), (5, false), (6, true)] ρ { w with drawn := w.drawn + 1 } = vm_Rank_do_R5_H S K ρ { w with drawn := w.drawn + 1 } := by kernel_rfl
  rw [e]
  exact W_held S [(0, true), (1, true), (2, true), (3, true), (4, false), (5, false), (6, true)] (by kernel_rfl) (by kernel_rfl) (by kernel_rfl) (by kernel_rfl) hS (Eq.mpr q h)
noncomputable def vm_Rank_do_R6_F (z : At) (K : Exit → Sl → World → Prop) (ρ : Sl) (w : World) : Prop :=
  BK Try.prog .neq 68 (.tmp 96) (.const (Value.pointer none)) (ρ 6) (Value.pointer none) w fun x97 w => CondK x97 (NK Try.prog (ρ 6) w fun x100 w => UK Try.prog (Instr.storeAt 2 x100 (ρ 5)) w fun _ w => K .ret (up (up (up (up (up ρ 96 (ρ 6)) 97 x97) 98 (ρ 6)) 99 (ρ 5)) 100 x100) w) (K .normal (up (up ρ 96 (ρ 6)) 97 x97) w)
theorem vm_Rank_do_R6_eq (z : At) (K : Exit → Sl → World → Prop) (ρ : Sl) (w : World) : sx z Try.prog 221 vm_Rank_do_R6 K ρ w = vm_Rank_do_R6_F z K ρ w := by kernel_rfl
noncomputable def vm_Rank_do_R7_F (z : At) (K : Exit → Sl → World → Prop) (ρ : Sl) (w : World) : Prop :=
  CK Try.prog (Value.func (Fn.func 27) #[] #[]) [(ρ 0), (Value.int .u8 4), (Value.int .u8 2)] w fun x102 w => K .normal (up (up ρ 101 (ρ 0)) 102 x102) w
theorem vm_Rank_do_R7_eq (z : At) (K : Exit → Sl → World → Prop) (ρ : Sl) (w : World) : sx z Try.prog 221 vm_Rank_do_R7 K ρ w = vm_Rank_do_R7_F z K ρ w := by kernel_rfl
noncomputable def vm_Rank_do_R8_F (z : At) (K : Exit → Sl → World → Prop) (ρ : Sl) (w : World) : Prop :=
  CondK (ρ 118) (NK Try.prog (ρ 0) w fun x121 w => VK Try.prog (Instr.fieldAt 56 x121 8) w fun x122 w => VK Try.prog (Instr.fieldAt 54 x122 7) w fun x123 w => VK Try.prog (Instr.loadAt 22 x123) w fun x124 w => VK Try.prog (Instr.indexAt 22 x124 (ρ 7)) w fun x126 w => VK Try.prog (Instr.loadAt 2 x126) w fun x127 w => CK Try.prog (Value.func (Fn.func 24) #[] #[]) [(ρ 0), x127] w fun x128 w => K .ret (up (up (up (up (up (up (up (up (up (up ρ 119 (ρ 0)) 120 (ρ 0)) 121 x121) 122 x122) 123 x123) 124 x124) 125 (ρ 7)) 126 x126) 127 x127) 128 x128) w) (K .normal ρ w)
theorem vm_Rank_do_R8_eq (z : At) (K : Exit → Sl → World → Prop) (ρ : Sl) (w : World) : sx z Try.prog 221 vm_Rank_do_R8 K ρ w = vm_Rank_do_R8_F z K ρ w := by kernel_rfl
noncomputable def vm_Rank_do_R9_F (z : At) (K : Exit → Sl → World → Prop) (ρ : Sl) (w : World) : Prop :=
  CK Try.prog (Value.func (Fn.func 27) #[] #[]) [(ρ 0), (Value.int .u8 4), (Value.int .u8 2)] w fun x130 w => K .normal (up (up ρ 129 (ρ 0)) 130 x130) w
theorem vm_Rank_do_R9_eq (z : At) (K : Exit → Sl → World → Prop) (ρ : Sl) (w : World) : sx z Try.prog 221 vm_Rank_do_R9 K ρ w = vm_Rank_do_R9_F z K ρ w := by kernel_rfl
noncomputable def vm_Rank_do_R10_F (z : At) (K : Exit → Sl → World → Prop) (ρ : Sl) (w : World) : Prop :=
  CondK (ρ 162) (VK Try.prog (Instr.fieldAt 30 (ρ 3) 1) w fun x165 w => VK Try.prog (Instr.loadAt 2 x165) w fun x166 w => NK Try.prog (ρ 0) w fun x167 w => VK Try.prog (Instr.fieldAt 56 x167 3) w fun x168 w => UK Try.prog (Instr.storeAt 3 x168 x166) w fun _ w => K .normal (up (up (up (up (up ρ 164 (ρ 0)) 165 x165) 166 x166) 167 x167) 168 x168) w) (BK Try.prog .eql 5 (.tmp 11) (.const (Value.int .u8 23)) (ρ 11) (Value.int .u8 23) w fun x170 w => CondK x170 (sx z Try.prog 221 vm_Rank_do_R11 K (up (up ρ 170 x170) 169 x170) w) (BK Try.prog .eql 5 (.tmp 11) (.const (Value.int .u8 24)) (ρ 11) (Value.int .u8 24) w fun x171 w => sx z Try.prog 221 vm_Rank_do_R11 K (up (up (up (up ρ 170 x170) 169 x170) 171 x171) 169 x171) w))
theorem vm_Rank_do_R10_eq (z : At) (K : Exit → Sl → World → Prop) (ρ : Sl) (w : World) : sx z Try.prog 221 vm_Rank_do_R10 K ρ w = vm_Rank_do_R10_F z K ρ w := by kernel_rfl
noncomputable def vm_Rank_do_R11_F (z : At) (K : Exit → Sl → World → Prop) (ρ : Sl) (w : World) : Prop :=
  CondK (ρ 169) (W z Try.prog 221 vm_Rank_do_R12 (seqK (sx z Try.prog 221 vm_Rank_do_R13 K) K) ρ w) (BK Try.prog .eql 5 (.tmp 11) (.const (Value.int .u8 25)) (ρ 11) (Value.int .u8 25) w fun x185 w => CondK x185 (CK Try.prog (Value.func (Fn.func 25) #[] #[]) [(ρ 0)] w fun x187 w => K .normal (up (up (up (up ρ 185 x185) 184 x185) 186 (ρ 0)) 187 x187) w) (BK Try.prog .eql 5 (.tmp 11) (.const (Value.int .u8 26)) (ρ 11) (Value.int .u8 26) w fun x189 w => CondK x189 (W z Try.prog 221 vm_Rank_do_R14 K (up (up (up (up ρ 185 x185) 184 x185) 189 x189) 188 x189) w) (BK Try.prog .eql 5 (.tmp 11) (.const (Value.int .u8 27)) (ρ 11) (Value.int .u8 27) w fun x205 w => CondK x205 (CK Try.prog (Value.func (Fn.func 25) #[] #[]) [(ρ 0)] w fun x207 w => BK Try.prog .eql 2 (.tmp 207) (.const (Value.int .i64 0)) x207 (Value.int .i64 0) w fun x208 w => CondK x208 (CK Try.prog (Value.func (Fn.func 27) #[] #[]) [(ρ 0), (Value.int .u8 3), (Value.int .u8 0)] w fun x210 w => K .normal (up (up (up (up (up (up (up (up (up (up (up ρ 185 x185) 184 x185) 189 x189) 188 x189) 205 x205) 204 x205) 206 (ρ 0)) 207 x207) 208 x208) 209 (ρ 0)) 210 x210) w) (K .normal (up (up (up (up (up (up (up (up (up ρ 185 x185) 184 x185) 189 x189) 188 x189) 205 x205) 204 x205) 206 (ρ 0)) 207 x207) 208 x208) w)) (BK Try.prog .eql 5 (.tmp 11) (.const (Value.int .u8 28)) (ρ 11) (Value.int .u8 28) w fun x212 w => CondK x212 (VK Try.prog (Instr.fieldAt 30 (ρ 3) 1) w fun x214 w => VK Try.prog (Instr.loadAt 2 x214) w fun x215 w => CK Try.prog (Value.func (Fn.func 30) #[] #[]) [(ρ 0), x215] w fun x216 w => K .normal (up (up (up (up (up (up (up (up (up (up (up (up ρ 185 x185) 184 x185) 189 x189) 188 x189) 205 x205) 204 x205) 212 x212) 211 x212) 213 (ρ 0)) 214 x214) 215 x215) 216 x216) w) (BK Try.prog .eql 5 (.tmp 11) (.const (Value.int .u8 29)) (ρ 11) (Value.int .u8 29) w fun x218 w => CondK x218 (CK Try.prog (Value.func (Fn.func 27) #[] #[]) [(ρ 0), (Value.int .u8 2), (Value.int .u8 0)] w fun x220 w => K .normal (up (up (up (up (up (up (up (up (up (up (up (up ρ 185 x185) 184 x185) 189 x189) 188 x189) 205 x205) 204 x205) 212 x212) 211 x212) 218 x218) 217 x218) 219 (ρ 0)) 220 x220) w) (CK Try.prog (Value.func (Fn.func 25) #[] #[]) [(ρ 0)] w fun x13 w => CK Try.prog (Value.func (Fn.func 25) #[] #[]) [(ρ 0)] w fun x15 w => BK Try.prog .eql 2 (.tmp 16) (.const (Value.int .i64 0)) x13 (Value.int .i64 0) w fun x17 w => VG Try.prog x17 true (Instr.fieldAt 30 (ρ 3) 0) w fun x19 w => VG Try.prog x17 true (Instr.loadAt 5 x19) w fun x20 w => BG Try.prog x17 true .eql 5 (.tmp 20) (.const (Value.int .u8 11)) x20 (Value.int .u8 11) w fun x21 w => MG Try.prog x17 true x21 w fun x22 w => VG Try.prog x22 false (Instr.fieldAt 30 (ρ 3) 0) w fun x23 w => VG Try.prog x22 false (Instr.loadAt 5 x23) w fun x24 w => BG Try.prog x22 false .eql 5 (.tmp 24) (.const (Value.int .u8 12)) x24 (Value.int .u8 12) w fun x25 w => PG Try.prog x17 true x22 (Value.bool true) x25 w fun x26 w => PK Try.prog x17 x26 (Value.bool false) w fun x27 w => sx z Try.prog 221 vm_Rank_do_R15 (seqK (sx z Try.prog 221 vm_Rank_do_R16 K) K) (up (up (up (up (up (up (up (up (up (up (up (up (up (up (up (up (up (up (up (up (up (up (up (up (up (up (up (up ρ 185 x185) 184 x185) 189 x189) 188 x189) 205 x205) 204 x205) 212 x212) 211 x212) 218 x218) 217 x218) 12 (ρ 0)) 13 x13) 8 x13) 14 (ρ 0)) 15 x15) 9 x15) 16 x13) 17 x17) 18 x17) 19 x19) 20 x20) 21 x21) 22 x22) 23 x23) 24 x24) 25 x25) 26 x26) 27 x27) w))))))
theorem vm_Rank_do_R11_eq (z : At) (K : Exit → Sl → World → Prop) (ρ : Sl) (w : World) : sx z Try.prog 221 vm_Rank_do_R11 K ρ w = vm_Rank_do_R11_F z K ρ w := by kernel_rfl
noncomputable def vm_Rank_do_R12_ops : Array Oper := opsOf vm_Rank_do_R12
def vm_Rank_do_R12_H (S : World → Prop) (K : Exit → Sl → World → Prop) (ρ : Sl) (w : World) : Prop :=
  HK Try.prog S (do pure (Next.value (← Instr.fieldAt 30 (ρ 3) 0))) fun x175_2 => HK Try.prog S (do pure (Next.value (← Instr.loadAt 5 x175_2))) fun x176_2 => HK Try.prog S (do pure (Next.value (← (do eqGuard BinOp.eql 5 (Operand.tmp 176) (Operand.const (Value.int IntKind.u8 23)) x176_2 (Value.int IntKind.u8 23); binOp BinOp.eql 5 x176_2 (Value.int IntKind.u8 23))))) fun x177_2 => CK Try.prog (Value.func (Fn.func 25) #[] #[]) [(ρ 0)] w fun x173_2 w => S w ∧ (HK Try.prog S (do pure (Next.value (← (do eqGuard BinOp.eql 2 (Operand.tmp 173) (Operand.const (Value.int IntKind.i64 0)) x173_2 (Value.int IntKind.i64 0); binOp BinOp.eql 2 x173_2 (Value.int IntKind.i64 0))))) fun x174_2 => HK Try.prog S (do pure (Next.value (← (do eqGuard BinOp.eql 4 (Operand.tmp 174) (Operand.tmp 177) x174_2 x177_2; binOp BinOp.eql 4 x174_2 x177_2)))) fun x178_2 => K Exit.normal (up (up (up (up (up (up (up ρ 172 (ρ 0)) 175 x175_2) 176 x176_2) 177 x177_2) 173 x173_2) 174 x174_2) 178 x178_2) w)
theorem vm_Rank_do_R12_held {D : List Deferred} (S : World → Prop) {K : Exit → Sl → World → Prop} {ρ : Sl} {w : World} (hS : S { w with drawn := w.drawn + 1 }) (h : vm_Rank_do_R12_H S K ρ { w with drawn := w.drawn + 1 }) : W ⟨none, D⟩ Try.prog 221 vm_Rank_do_R12 K ρ w := by
  have e : vm_Rank_do_R12 = .region (idOf vm_Rank_do_R12) vm_Rank_do_R12_ops true := by kernel_rfl
  have q : sxh Try.prog S vm_Rank_do_R12_ops (K .normal) [(0, true), (3, true), (4, true), (5, true), (1, false), (2, true), (6, true)] ρ { w with drawn := w.drawn + 1 } = vm_Rank_do_R12_H S K ρ { w with drawn := w.drawn + 1 } := by kernel_rfl
  rw [e]
  exact W_held S [(0, true), (3, true), (4, true), (5, true), (1, false), (2, true), (6, true)] (by kernel_rfl) (by kernel_rfl) (by kernel_rfl) (by kernel_rfl) hS (Eq.mpr q h)
noncomputable def vm_Rank_do_R13_F (z : At) (K : Exit → Sl → World → Prop) (ρ : Sl) (w : World) : Prop :=
  CondK (ρ 178) (VK Try.prog (Instr.fieldAt 30 (ρ 3) 1) w fun x180 w => VK Try.prog (Instr.loadAt 2 x180) w fun x181 w => NK Try.prog (ρ 0) w fun x182 w => VK Try.prog (Instr.fieldAt 56 x182 3) w fun x183 w => UK Try.prog (Instr.storeAt 3 x183 x181) w fun _ w => K .normal (up (up (up (up (up ρ 179 (ρ 0)) 180 x180) 181 x181) 182 x182) 183 x183) w) (K .normal ρ w)
theorem vm_Rank_do_R13_eq (z : At) (K : Exit → Sl → World → Prop) (ρ : Sl) (w : World) : sx z Try.prog 221 vm_Rank_do_R13 K ρ w = vm_Rank_do_R13_F z K ρ w := by kernel_rfl
noncomputable def vm_Rank_do_R14_ops : Array Oper := opsOf vm_Rank_do_R14
def vm_Rank_do_R14_T (K : Exit → Sl → World → Prop) (ρ : Sl) (w : World) : Prop :=
  let C : World → Prop := fun w' => w' = w; QK Try.prog C (nilCk (ρ 0)) fun x192_1 => QK Try.prog C (do pure (Next.value (← Instr.fieldAt 56 x192_1 4))) fun x193_1 => QK Try.prog C (do pure (Next.value (← Instr.loadAt 22 x193_1))) fun x194_1 => QK Try.prog C (nilCk (ρ 0)) fun x196_1 => QK Try.prog C (do pure (Next.value (← Instr.fieldAt 56 x196_1 4))) fun x197_1 => QK Try.prog C (do pure (Next.value (← Instr.loadAt 22 x197_1))) fun x198_1 => QK Try.prog C (builtin Builtin.len #[22] 3 [false].toArray [x198_1].toArray) fun x199_1 => QK Try.prog C (do pure (Next.value (← (do eqGuard BinOp.sub 3 (Operand.tmp 199) (Operand.const (Value.int IntKind.i64 1)) x199_1 (Value.int IntKind.i64 1); binOp BinOp.sub 3 x199_1 (Value.int IntKind.i64 1))))) fun x200_1 => QK Try.prog C (do pure (Next.value (← Instr.indexAt 22 x194_1 x200_1))) fun x201_1 => QK Try.prog C (do pure (Next.value (← Instr.loadAt 2 x201_1))) fun x202_1 => CK Try.prog (Value.func (Fn.func 24) #[] #[]) [(ρ 0), x202_1] w fun x203_1 w => K Exit.normal (up (up (up (up (up (up (up (up (up (up (up (up (up (up ρ 190 (ρ 0)) 191 (ρ 0)) 192 x192_1) 193 x193_1) 194 x194_1) 195 (ρ 0)) 196 x196_1) 197 x197_1) 198 x198_1) 199 x199_1) 200 x200_1) 201 x201_1) 202 x202_1) 203 x203_1) w
theorem vm_Rank_do_R14_tail {D : List Deferred} {K : Exit → Sl → World → Prop} {ρ : Sl} {w : World} (h : vm_Rank_do_R14_T K ρ { w with drawn := w.drawn + 1 }) : W ⟨none, D⟩ Try.prog 221 vm_Rank_do_R14 K ρ w := by
  have e : vm_Rank_do_R14 = .region (idOf vm_Rank_do_R14) vm_Rank_do_R14_ops true := by kernel_rfl
  have q : sxq Try.prog (fun w' => w' = { w with drawn := w.drawn + 1 }) vm_Rank_do_R14_ops (fun ρ' => sxL Try.prog vm_Rank_do_R14_ops (K .normal) (vm_Rank_do_R14_ops.toList.drop 13) ρ' { w with drawn := w.drawn + 1 }) (vm_Rank_do_R14_ops.toList.take 13) ρ = vm_Rank_do_R14_T K ρ { w with drawn := w.drawn + 1 } := by kernel_rfl
  rw [e]
  exact W_tail 13 (by kernel_rfl) (by kernel_rfl) (by kernel_rfl) (by kernel_rfl) (Eq.mpr q h)
noncomputable def vm_Rank_do_R15_F (z : At) (K : Exit → Sl → World → Prop) (ρ : Sl) (w : World) : Prop :=
  CondK (ρ 27) (CK Try.prog (Value.func (Fn.func 27) #[] #[]) [(ρ 0), (Value.int .u8 4), (Value.int .u8 1)] w fun x29 w => K .ret (up (up ρ 28 (ρ 0)) 29 x29) w) (K .normal ρ w)
theorem vm_Rank_do_R15_eq (z : At) (K : Exit → Sl → World → Prop) (ρ : Sl) (w : World) : sx z Try.prog 221 vm_Rank_do_R15 K ρ w = vm_Rank_do_R15_F z K ρ w := by kernel_rfl
noncomputable def vm_Rank_do_R16_ops : Array Oper := opsOf vm_Rank_do_R16
def vm_Rank_do_R16_H (S : World → Prop) (K : Exit → Sl → World → Prop) (ρ : Sl) (w : World) : Prop :=
  HK Try.prog S (do pure (Next.value (← Instr.fieldAt 30 (ρ 3) 0))) fun x32_2 => HK Try.prog S (do pure (Next.value (← Instr.loadAt 5 x32_2))) fun x33_2 => HK Try.prog S (do pure (Next.value (← (do eqGuard BinOp.sub 5 (Operand.tmp 33) (Operand.const (Value.int IntKind.u8 10)) x33_2 (Value.int IntKind.u8 10); binOp BinOp.sub 5 x33_2 (Value.int IntKind.u8 10))))) fun x34_2 => CK Try.prog (Value.func (Fn.func 31) #[] #[]) [] w fun x31_2 w => S w ∧ (HK Try.prog S (do pure (Next.value (← Instr.index 73 x31_2 x34_2))) fun x35_2 => FnL Try.prog x35_2 ∧ (CK Try.prog x35_2 [(ρ 9), (ρ 8)] w fun x38_2 w => S w ∧ (CK Try.prog (Value.func (Fn.func 24) #[] #[]) [(ρ 0), x38_2] w fun x39_2 w => S w ∧ (K Exit.normal (up (up (up (up (up (up (up (up (up (up ρ 30 (ρ 0)) 32 x32_2) 33 x33_2) 34 x34_2) 36 (ρ 9)) 37 (ρ 8)) 31 x31_2) 35 x35_2) 38 x38_2) 39 x39_2) w))))
theorem vm_Rank_do_R16_held {D : List Deferred} (S : World → Prop) {K : Exit → Sl → World → Prop} {ρ : Sl} {w : World} (hS : S { w with drawn := w.drawn + 1 }) (h : vm_Rank_do_R16_H S K ρ { w with drawn := w.drawn + 1 }) : W ⟨none, D⟩ Try.prog 221 vm_Rank_do_R16 K ρ w := by
  have e : vm_Rank_do_R16 = .region (idOf vm_Rank_do_R16) vm_Rank_do_R16_ops true := by kernel_rfl
  have q : sxd Try.prog S vm_Rank_do_R16_ops (K .normal) (Pd.take 0 (Pd.take 2 (Pd.take 3 (Pd.take 4 (Pd.take 6 (Pd.take 7 (Pd.only false 1 (Pd.take 5 (Pd.only true 8 (Pd.only false 9 Pd.done)))))))))) ρ { w with drawn := w.drawn + 1 } = vm_Rank_do_R16_H S K ρ { w with drawn := w.drawn + 1 } := by kernel_rfl
  rw [e]
  exact W_pland S (Pd.take 0 (Pd.take 2 (Pd.take 3 (Pd.take 4 (Pd.take 6 (Pd.take 7 (Pd.only false 1 (Pd.take 5 (Pd.only true 8 (Pd.only false 9 Pd.done)))))))))) (by kernel_rfl) (by kernel_rfl) (by kernel_rfl) (by kernel_rfl) hS (Eq.mpr q h)
noncomputable def vm_Rank_do_F (a0 a1 : Value) (w : World) (R : Value → World → Prop) : Prop :=
  VK Try.prog (Instr.box 30 a1) w fun x3 w => VK Try.prog (Instr.fieldAt 30 x3 0) w fun x10 w => VK Try.prog (Instr.loadAt 5 x10) w fun x11 w => BK Try.prog .eql 5 (.tmp 11) (.const (Value.int .u8 1)) x11 (Value.int .u8 1) w fun x41 w => CondK x41 (VK Try.prog (Instr.fieldAt 30 x3 1) w fun x43 w => VK Try.prog (Instr.loadAt 2 x43) w fun x44 w => CK Try.prog (Value.func (Fn.func 24) #[] #[]) [a0, x44] w fun x45 w => R (Value.tuple #[]) w) (BK Try.prog .eql 5 (.tmp 11) (.const (Value.int .u8 2)) x11 (Value.int .u8 2) w fun x47 w => CondK x47 (W fn_ Try.prog 221 vm_Rank_do_R0 (blkK 0 (retK Try.prog [] R)) (up (up (up (up (up (up (up (rho0 [a0, a1]) 3 x3) 10 x10) 11 x11) 41 x41) 40 x41) 47 x47) 46 x47) w) (BK Try.prog .eql 5 (.tmp 11) (.const (Value.int .u8 3)) x11 (Value.int .u8 3) w fun x59 w => CondK x59 (W fn_ Try.prog 221 vm_Rank_do_R1 (blkK 0 (retK Try.prog [] R)) (up (up (up (up (up (up (up (up (up (rho0 [a0, a1]) 3 x3) 10 x10) 11 x11) 41 x41) 40 x41) 47 x47) 46 x47) 59 x59) 58 x59) w) (BK Try.prog .eql 5 (.tmp 11) (.const (Value.int .u8 4)) x11 (Value.int .u8 4) w fun x70 w => CondK x70 (W fn_ Try.prog 221 vm_Rank_do_R2 (seqK (sx fn_ Try.prog 221 vm_Rank_do_R3 (seqK (sx fn_ Try.prog 221 vm_Rank_do_R4 (blkK 0 (retK Try.prog [] R))) (blkK 0 (retK Try.prog [] R)))) (seqK (sx fn_ Try.prog 221 vm_Rank_do_R4 (blkK 0 (retK Try.prog [] R))) (blkK 0 (retK Try.prog [] R)))) (up (up (up (up (up (up (up (up (up (up (up (rho0 [a0, a1]) 3 x3) 10 x10) 11 x11) 41 x41) 40 x41) 47 x47) 46 x47) 59 x59) 58 x59) 70 x70) 69 x70) w) (BK Try.prog .eql 5 (.tmp 11) (.const (Value.int .u8 5)) x11 (Value.int .u8 5) w fun x87 w => CondK x87 (CK Try.prog (Value.func (Fn.func 25) #[] #[]) [a0] w fun x89 w => W fn_ Try.prog 221 vm_Rank_do_R5 (seqK (sx fn_ Try.prog 221 vm_Rank_do_R6 (seqK (sx fn_ Try.prog 221 vm_Rank_do_R7 (blkK 0 (retK Try.prog [] R))) (blkK 0 (retK Try.prog [] R)))) (seqK (sx fn_ Try.prog 221 vm_Rank_do_R7 (blkK 0 (retK Try.prog [] R))) (blkK 0 (retK Try.prog [] R)))) (up (up (up (up (up (up (up (up (up (up (up (up (up (up (up (up (rho0 [a0, a1]) 3 x3) 10 x10) 11 x11) 41 x41) 40 x41) 47 x47) 46 x47) 59 x59) 58 x59) 70 x70) 69 x70) 87 x87) 86 x87) 88 a0) 89 x89) 5 x89) w) (BK Try.prog .eql 5 (.tmp 11) (.const (Value.int .u8 6)) x11 (Value.int .u8 6) w fun x104 w => CondK x104 (CK Try.prog (Value.func (Fn.func 25) #[] #[]) [a0] w fun x106 w => BK Try.prog .geq 2 (.tmp 107) (.const (Value.int .i64 0)) x106 (Value.int .i64 0) w fun x108 w => MG Try.prog x108 true x106 w fun x110 w => MG Try.prog x108 true a0 w fun x111 w => NG Try.prog x108 true x111 w fun x112 w => VG Try.prog x108 true (Instr.fieldAt 56 x112 8) w fun x113 w => VG Try.prog x108 true (Instr.fieldAt 54 x113 7) w fun x114 w => VG Try.prog x108 true (Instr.loadAt 22 x114) w fun x115 w => IG Try.prog x108 true .len #[22] 3 [false] [x115] w fun x116 w => BG Try.prog x108 true .lss 2 (.tmp 110) (.tmp 116) x110 x116 w fun x117 w => PK Try.prog x108 x117 (Value.bool false) w fun x118 w => sx fn_ Try.prog 221 vm_Rank_do_R8 (seqK (sx fn_ Try.prog 221 vm_Rank_do_R9 (blkK 0 (retK Try.prog [] R))) (blkK 0 (retK Try.prog [] R))) (up (up (up (up (up (up (up (up (up (up (up (up (up (up (up (up (up (up (up (up (up (up (up (up (up (up (up (up (up (up (rho0 [a0, a1]) 3 x3) 10 x10) 11 x11) 41 x41) 40 x41) 47 x47) 46 x47) 59 x59) 58 x59) 70 x70) 69 x70) 87 x87) 86 x87) 104 x104) 103 x104) 105 a0) 106 x106) 7 x106) 107 x106) 108 x108) 109 x108) 110 x110) 111 x111) 112 x112) 113 x113) 114 x114) 115 x115) 116 x116) 117 x117) 118 x118) w) (BK Try.prog .eql 5 (.tmp 11) (.const (Value.int .u8 7)) x11 (Value.int .u8 7) w fun x132 w => CondK x132 (VK Try.prog (Instr.fieldAt 30 x3 1) w fun x135 w => VK Try.prog (Instr.loadAt 2 x135) w fun x136 w => CK Try.prog (Value.func (Fn.func 28) #[] #[]) [a0, x136] w fun x137 w => CK Try.prog (Value.func (Fn.func 24) #[] #[]) [a0, x137] w fun x138 w => R (Value.tuple #[]) w) (BK Try.prog .eql 5 (.tmp 11) (.const (Value.int .u8 8)) x11 (Value.int .u8 8) w fun x140 w => CondK x140 (CK Try.prog (Value.func (Fn.func 25) #[] #[]) [a0] w fun x143 w => VK Try.prog (Op.unary UnOp.neg x143) w fun x144 w => CK Try.prog (Value.func (Fn.func 24) #[] #[]) [a0, x144] w fun x145 w => R (Value.tuple #[]) w) (BK Try.prog .eql 5 (.tmp 11) (.const (Value.int .u8 9)) x11 (Value.int .u8 9) w fun x147 w => CondK x147 (CK Try.prog (Value.func (Fn.func 25) #[] #[]) [a0] w fun x150 w => BK Try.prog .eql 2 (.tmp 150) (.const (Value.int .i64 0)) x150 (Value.int .i64 0) w fun x151 w => CK Try.prog (Value.func (Fn.func 29) #[] #[]) [x151] w fun x152 w => CK Try.prog (Value.func (Fn.func 24) #[] #[]) [a0, x152] w fun x153 w => R (Value.tuple #[]) w) (BK Try.prog .eql 5 (.tmp 11) (.const (Value.int .u8 21)) x11 (Value.int .u8 21) w fun x155 w => CondK x155 (CK Try.prog (Value.func (Fn.func 25) #[] #[]) [a0] w fun x158 w => BK Try.prog .neq 2 (.tmp 158) (.const (Value.int .i64 0)) x158 (Value.int .i64 0) w fun x159 w => CK Try.prog (Value.func (Fn.func 29) #[] #[]) [x159] w fun x160 w => CK Try.prog (Value.func (Fn.func 24) #[] #[]) [a0, x160] w fun x161 w => R (Value.tuple #[]) w) (BK Try.prog .eql 5 (.tmp 11) (.const (Value.int .u8 22)) x11 (Value.int .u8 22) w fun x163 w => sx fn_ Try.prog 221 vm_Rank_do_R10 (blkK 0 (retK Try.prog [] R)) (up (up (up (up (up (up (up (up (up (up (up (up (up (up (up (up (up (up (up (up (up (up (up (up (up (rho0 [a0, a1]) 3 x3) 10 x10) 11 x11) 41 x41) 40 x41) 47 x47) 46 x47) 59 x59) 58 x59) 70 x70) 69 x70) 87 x87) 86 x87) 104 x104) 103 x104) 132 x132) 131 x132) 140 x140) 139 x140) 147 x147) 146 x147) 155 x155) 154 x155) 163 x163) 162 x163) w))))))))))
theorem vm_Rank_do_eq (a0 a1 : Value) (w : World) (R : Value → World → Prop) : sx fn_ Try.prog 221 vm_Rank_do_b (retK Try.prog Try.f17.results.toList R) (rho0 [a0, a1]) w = vm_Rank_do_F a0 a1 w R := by kernel_rfl
theorem vm_Rank_do_calls {a0 a1 : Value} {w : World} {R : Value → World → Prop} (h : vm_Rank_do_F a0 a1 w R) : Calls Try.prog 17 #[a0, a1] w fun e w' => ∃ v, e = .returned v ∧ R v w' :=
  Go.X.calls_of_sx (n := 221) (c := vm_Rank_do_b) Try.func17 (by kernel_rfl) (by kernel_rfl) (Nat.le_of_ble_eq_true rfl) (by kernel_rfl) (Eq.mpr (vm_Rank_do_eq a0 a1 w R) h)
noncomputable def vm_Rank_told_b : Code := (Try.f18.body).getD .skip
noncomputable def vm_Rank_told_F (a0 : Value) (w : World) (R : Value → World → Prop) : Prop :=
  VK Try.prog (Instr.alloc 38 true (.tuple #[])) w fun x2 w => NK Try.prog a0 w fun x5 w => VK Try.prog (Instr.fieldAt 56 x5 9) w fun x6 w => VK Try.prog (Instr.loadAt 38 x6) w fun x7 w => VK Try.prog (Instr.alloc 38 true (.tuple #[])) w fun x3 w => UK Try.prog (Instr.storeAt 38 x3 x7) w fun _ w => VK Try.prog (Instr.fieldAt 38 x3 1) w fun x8 w => VK Try.prog (Instr.fieldAt 36 x8 8) w fun x9 w => VK Try.prog (Instr.loadAt 26 x9) w fun x10 w => CK Try.prog (Value.func (Fn.func 23) #[] #[]) [x10] w fun x11 w => VK Try.prog (Instr.fieldAt 38 x3 1) w fun x12 w => VK Try.prog (Instr.fieldAt 36 x12 8) w fun x13 w => UK Try.prog (Instr.storeAt 26 x13 x11) w fun _ w => VK Try.prog (Instr.loadAt 38 x3) w fun x14 w => UK Try.prog (Instr.storeAt 38 x2 x14) w fun _ w => ∃ x2_1, (do loadVar 38 (← asAddr x2) : Sem Value).run Try.prog w = .ok x2_1 w ∧ R x2_1 w
theorem vm_Rank_told_eq (a0 : Value) (w : World) (R : Value → World → Prop) : sx fn_ Try.prog 15 vm_Rank_told_b (retK Try.prog Try.f18.results.toList R) (rho0 [a0]) w = vm_Rank_told_F a0 w R := by kernel_rfl
theorem vm_Rank_told_calls {a0 : Value} {w : World} {R : Value → World → Prop} (h : vm_Rank_told_F a0 w R) : Calls Try.prog 18 #[a0] w fun e w' => ∃ v, e = .returned v ∧ R v w' :=
  Go.X.calls_of_sx (n := 15) (c := vm_Rank_told_b) Try.func18 (by kernel_rfl) (by kernel_rfl) (Nat.le_of_ble_eq_true rfl) (by kernel_rfl) (Eq.mpr (vm_Rank_told_eq a0 w R) h)
noncomputable def dispatcherref07_truth_b : Code := (Try.f20.body).getD .skip
noncomputable def dispatcherref07_truth_F (a0 : Value) (w : World) (R : Value → World → Prop) : Prop :=
  CondK a0 (R (Value.int .i64 1) w) (R (Value.int .i64 0) w)
theorem dispatcherref07_truth_eq (a0 : Value) (w : World) (R : Value → World → Prop) : sx fn_ Try.prog 4 dispatcherref07_truth_b (retK Try.prog Try.f20.results.toList R) (rho0 [a0]) w = dispatcherref07_truth_F a0 w R := by kernel_rfl
theorem dispatcherref07_truth_calls {a0 : Value} {w : World} {R : Value → World → Prop} (h : dispatcherref07_truth_F a0 w R) : Calls Try.prog 20 #[a0] w fun e w' => ∃ v, e = .returned v ∧ R v w' :=
  Go.X.calls_of_sx (n := 4) (c := dispatcherref07_truth_b) Try.func20 (by kernel_rfl) (by kernel_rfl) (Nat.le_of_ble_eq_true rfl) (by kernel_rfl) (Eq.mpr (dispatcherref07_truth_eq a0 w R) h)
noncomputable def code_Heights_b : Code := (Try.f21.body).getD .skip
noncomputable def code_Heights_L0 : Code := cAt [1, 1, 1, 1, 0, 1, 0, 0] code_Heights_b
noncomputable def code_Heights_R1 : Code := cAt [1, 1, 1, 1, 1] code_Heights_b
noncomputable def code_Heights_R2 : Code := cAt [1, 1, 1, 1, 0, 1, 0, 0, 1, 0, 1, 1, 0] code_Heights_b
noncomputable def code_Heights_R3 : Code := cAt [1, 1, 1, 1, 0, 1, 0, 0, 1, 0, 1, 1, 1] code_Heights_b
noncomputable def code_Heights_R4 : Code := cAt [1, 1, 1, 1, 0, 1, 0, 0, 1, 0, 1, 1, 1, 1, 1, 1] code_Heights_b
noncomputable def code_Heights_L5 : Code := cAt [1, 1, 1, 1, 0, 1, 0, 0, 1, 0, 1, 1, 1, 1, 1, 1, 0, 0] code_Heights_b
noncomputable def code_Heights_R6 : Code := cAt [1, 1, 1, 1, 0, 1, 0, 0, 1, 0, 1, 1, 1, 1, 1, 1, 0, 0, 1, 1, 1] code_Heights_b
noncomputable def code_Heights_R7 : Code := cAt [1, 1, 1, 1, 0, 1, 0, 0, 1, 0, 1, 1, 1, 1, 1, 1, 0, 0, 1, 1, 0, 0, 1, 1, 0, 1, 0, 1, 1, 1, 1] code_Heights_b
noncomputable def code_Heights_L0_F (z : At) (K : Exit → Sl → World → Prop) (ρ : Sl) (w : World) : Prop :=
  IK Try.prog .len #[26] 3 [false] [(ρ 5)] w fun x26 w => BK Try.prog .gtr 3 (.tmp 26) (.const (Value.int .i64 0)) x26 (Value.int .i64 0) w fun x27 w => CondK x27 (IK Try.prog .len #[26] 3 [false] [(ρ 5)] w fun x30 w => BK Try.prog .sub 3 (.tmp 30) (.const (Value.int .i64 1)) x30 (Value.int .i64 1) w fun x31 w => VK Try.prog (Instr.indexAt 26 (ρ 5) x31) w fun x32 w => VK Try.prog (Instr.loadAt 3 x32) w fun x33 w => IK Try.prog .len #[26] 3 [false] [(ρ 5)] w fun x36 w => BK Try.prog .sub 3 (.tmp 36) (.const (Value.int .i64 1)) x36 (Value.int .i64 1) w fun x37 w => VK Try.prog (Instr.sliceAt 26 (ρ 5) none (some x37) none) w fun x38 w => W z Try.prog 108 code_Heights_R2 (seqK (sx z Try.prog 108 code_Heights_R3 (blkK 1 K)) (blkK 1 K)) (up (up (up (up (up (up (up (up (up (up (up (up (up (up (up (up ρ 25 (ρ 5)) 26 x26) 27 x27) 28 (ρ 5)) 29 (ρ 5)) 30 x30) 31 x31) 32 x32) 33 x33) 6 x33) 34 (ρ 5)) 35 (ρ 5)) 36 x36) 37 x37) 38 x38) 5 x38) w) (K (.exit 0) (up (up (up ρ 25 (ρ 5)) 26 x26) 27 x27) w)
theorem code_Heights_L0_eq (z : At) (K : Exit → Sl → World → Prop) (ρ : Sl) (w : World) : sx z Try.prog 108 code_Heights_L0 K ρ w = code_Heights_L0_F z K ρ w := by kernel_rfl
theorem code_Heights_L0_ok : dstOk 108 code_Heights_L0 = true := by kernel_rfl
noncomputable def code_Heights_R1_F (z : At) (K : Exit → Sl → World → Prop) (ρ : Sl) (w : World) : Prop :=
  K .ret (up (up (up ρ 107 (ρ 4)) 2 (ρ 4)) 3 (Value.int .i64 0)) w
theorem code_Heights_R1_eq (z : At) (K : Exit → Sl → World → Prop) (ρ : Sl) (w : World) : sx z Try.prog 108 code_Heights_R1 K ρ w = code_Heights_R1_F z K ρ w := by kernel_rfl
noncomputable def code_Heights_R2_ops : Array Oper := opsOf code_Heights_R2
def code_Heights_R2_Q (C : World → Prop) (K : Exit → Sl → World → Prop) (ρ : Sl) : Prop :=
  QK Try.prog C (do pure (Next.value (← Instr.loadAt 28 (ρ 1)))) fun x40 => QK Try.prog C (do pure (Next.value (← Instr.fieldAt 28 (ρ 1) 0))) fun x41 => QK Try.prog C (do pure (Next.value (← Instr.loadAt 25 x41))) fun x42 => QK Try.prog C (do pure (Next.value (← Instr.indexAt 25 x42 (ρ 6)))) fun x44 => QK Try.prog C (do pure (Next.value (← Instr.loadAt 30 x44))) fun x45 => QK Try.prog C (do let d ← Deferred.ofValue (Value.func (Fn.func 34) #[] #[]) [x40, x45].toArray; invoke d.target d.args) fun x46 => QK Try.prog C (do pure (Next.value (← Instr.extract x46 0))) fun x47 => QK Try.prog C (do pure (Next.value (← Instr.extract x46 1))) fun x48 => QK Try.prog C (do pure (Next.value (← Instr.extract x46 2))) fun x49 => ∀ w', C w' → K Exit.normal (up (up (up (up (up (up (up (up (up (up (up (up (up (up ρ 40 x40) 41 x41) 42 x42) 43 (ρ 6)) 44 x44) 45 x45) 46 x46) 39 x46) 47 x47) 48 x48) 49 x49) 7 x47) 8 x48) 9 x49) w'
theorem code_Heights_R2_quiet {D : List Deferred} (C : World → Prop) {K : Exit → Sl → World → Prop} {ρ : Sl} {w : World} (hC : C { w with drawn := w.drawn + 1 }) (h : code_Heights_R2_Q C K ρ) : W ⟨none, D⟩ Try.prog 108 code_Heights_R2 K ρ w := by
  have e : code_Heights_R2 = .region (idOf code_Heights_R2) code_Heights_R2_ops true := by kernel_rfl
  have q : sxq Try.prog C code_Heights_R2_ops (fun ρ' => ∀ w', C w' → K .normal ρ' w') code_Heights_R2_ops.toList ρ = code_Heights_R2_Q C K ρ := by kernel_rfl
  rw [e]
  exact W_quiet C (by kernel_rfl) (by kernel_rfl) (by kernel_rfl) hC (Eq.mpr q h)
noncomputable def code_Heights_R3_F (z : At) (K : Exit → Sl → World → Prop) (ρ : Sl) (w : World) : Prop :=
  VK Try.prog (Instr.indexAt 26 (ρ 4) (ρ 6)) w fun x52 w => VK Try.prog (Instr.loadAt 3 x52) w fun x53 w => BK Try.prog .sub 3 (.tmp 53) (.tmp 54) x53 (ρ 7) w fun x55 w => BK Try.prog .add 3 (.tmp 55) (.tmp 56) x55 (ρ 8) w fun x57 w => VK Try.prog (Instr.indexAt 26 (ρ 4) (ρ 6)) w fun x60 w => VK Try.prog (Instr.loadAt 3 x60) w fun x61 w => BK Try.prog .lss 3 (.tmp 61) (.tmp 62) x61 (ρ 7) w fun x63 w => MG Try.prog x63 false x57 w fun x65 w => BG Try.prog x63 false .gtr 3 (.tmp 65) (.const (Value.int .i64 200)) x65 (Value.int .i64 200) w fun x66 w => PK Try.prog x63 (Value.bool true) x66 w fun x67 w => CondK x67 (K .ret (up (up (up (up (up (up (up (up (up (up (up (up (up (up (up (up (up (up (up (up (up ρ 50 (ρ 4)) 51 (ρ 6)) 52 x52) 53 x53) 54 (ρ 7)) 55 x55) 56 (ρ 8)) 57 x57) 10 x57) 58 (ρ 4)) 59 (ρ 6)) 60 x60) 61 x61) 62 (ρ 7)) 63 x63) 64 x63) 65 x65) 66 x66) 67 x67) 2 (Value.slice none 0 0)) 3 (Value.int .i64 50)) w) (VK Try.prog (Instr.fieldAt 28 (ρ 1) 0) w fun x69 w => VK Try.prog (Instr.loadAt 25 x69) w fun x70 w => VK Try.prog (Instr.indexAt 25 x70 (ρ 6)) w fun x72 w => VK Try.prog (Instr.loadAt 30 x72) w fun x73 w => CK Try.prog (Value.func (Fn.func 35) #[] #[]) [(ρ 6), x73] w fun x74 w => IK Try.prog .len #[26] 3 [false] [x74] w fun x75 w => sx z Try.prog 108 code_Heights_R4 K (up (up (up (up (up (up (up (up (up (up (up (up (up (up (up (up (up (up (up (up (up (up (up (up (up (up (up (up ρ 50 (ρ 4)) 51 (ρ 6)) 52 x52) 53 x53) 54 (ρ 7)) 55 x55) 56 (ρ 8)) 57 x57) 10 x57) 58 (ρ 4)) 59 (ρ 6)) 60 x60) 61 x61) 62 (ρ 7)) 63 x63) 64 x63) 65 x65) 66 x66) 67 x67) 68 (ρ 6)) 69 x69) 70 x70) 71 (ρ 6)) 72 x72) 73 x73) 74 x74) 75 x75) 76 (Value.int .i64 0)) w)
theorem code_Heights_R3_eq (z : At) (K : Exit → Sl → World → Prop) (ρ : Sl) (w : World) : sx z Try.prog 108 code_Heights_R3 K ρ w = code_Heights_R3_F z K ρ w := by kernel_rfl
noncomputable def code_Heights_R4_F (z : At) (K : Exit → Sl → World → Prop) (ρ : Sl) (w : World) : Prop :=
  W z Try.prog 108 (Code.loop code_Heights_L5) (blkK 2 K) ρ w
theorem code_Heights_R4_eq (z : At) (K : Exit → Sl → World → Prop) (ρ : Sl) (w : World) : sx z Try.prog 108 code_Heights_R4 K ρ w = code_Heights_R4_F z K ρ w := by kernel_rfl
noncomputable def code_Heights_L5_F (z : At) (K : Exit → Sl → World → Prop) (ρ : Sl) (w : World) : Prop :=
  BK Try.prog .lss 3 (.tmp 76) (.tmp 75) (ρ 76) (ρ 75) w fun x77 w => CondK x77 (VK Try.prog (Instr.indexAt 26 (ρ 74) (ρ 76)) w fun x78 w => VK Try.prog (Instr.loadAt 3 x78) w fun x79 w => VK Try.prog (Instr.indexAt 26 (ρ 4) x79) w fun x82 w => VK Try.prog (Instr.loadAt 3 x82) w fun x83 w => BK Try.prog .eql 3 (.tmp 83) (.const (Value.int .i64 (-1))) x83 (Value.int .i64 (-1)) w fun x85 w => CondK x85 (VK Try.prog (Instr.indexAt 26 (ρ 4) x79) w fun x89 w => UK Try.prog (Instr.storeAt 3 x89 (ρ 10)) w fun _ w => IK Try.prog .len #[26] 3 [false] [(ρ 5)] w fun x91 w => BK Try.prog .add 3 (.tmp 91) (.const (Value.int .i64 1)) x91 (Value.int .i64 1) w fun x92 w => VK Try.prog (Instr.makeSlice 26 x92 x92) w fun x93 w => IK Try.prog .copy #[26, 26] 3 [false, false] [x93, (ρ 5)] w fun x96 w => IK Try.prog .len #[26] 3 [false] [(ρ 5)] w fun x99 w => VK Try.prog (Instr.indexAt 26 x93 x99) w fun x101 w => UK Try.prog (Instr.storeAt 3 x101 x79) w fun _ w => sx z Try.prog 108 code_Heights_R7 (blkK 4 (blkK 3 (seqK (sx z Try.prog 108 code_Heights_R6 K) K))) (up (up (up (up (up (up (up (up (up (up (up (up (up (up (up (up (up (up (up (up (up (up (up (up (up (up (up ρ 77 x77) 78 x78) 79 x79) 12 x79) 80 (ρ 4)) 81 x79) 82 x82) 83 x83) 85 x85) 84 x85) 86 (ρ 4)) 87 x79) 88 (ρ 10)) 89 x89) 90 (ρ 5)) 91 x91) 92 x92) 93 x93) 13 x93) 94 x93) 95 (ρ 5)) 96 x96) 97 x93) 98 (ρ 5)) 99 x99) 100 x79) 101 x101) w) (BK Try.prog .eql 3 (.tmp 83) (.tmp 104) x83 (ρ 10) w fun x105 w => CondK x105 (sx z Try.prog 108 code_Heights_R6 K (up (up (up (up (up (up (up (up (up (up (up (up (up ρ 77 x77) 78 x78) 79 x79) 12 x79) 80 (ρ 4)) 81 x79) 82 x82) 83 x83) 85 x85) 84 x85) 104 (ρ 10)) 105 x105) 103 x105) w) (K .ret (up (up (up (up (up (up (up (up (up (up (up (up (up (up (up ρ 77 x77) 78 x78) 79 x79) 12 x79) 80 (ρ 4)) 81 x79) 82 x82) 83 x83) 85 x85) 84 x85) 104 (ρ 10)) 105 x105) 103 x105) 2 (Value.slice none 0 0)) 3 (Value.int .i64 50)) w))) (K (.exit 2) (up ρ 77 x77) w)
theorem code_Heights_L5_eq (z : At) (K : Exit → Sl → World → Prop) (ρ : Sl) (w : World) : sx z Try.prog 108 code_Heights_L5 K ρ w = code_Heights_L5_F z K ρ w := by kernel_rfl
theorem code_Heights_L5_ok : dstOk 108 code_Heights_L5 = true := by kernel_rfl
noncomputable def code_Heights_R6_F (z : At) (K : Exit → Sl → World → Prop) (ρ : Sl) (w : World) : Prop :=
  BK Try.prog .add 3 (.tmp 76) (.const (Value.int .i64 1)) (ρ 76) (Value.int .i64 1) w fun x106 w => K .normal (up (up ρ 106 x106) 76 x106) w
theorem code_Heights_R6_eq (z : At) (K : Exit → Sl → World → Prop) (ρ : Sl) (w : World) : sx z Try.prog 108 code_Heights_R6 K ρ w = code_Heights_R6_F z K ρ w := by kernel_rfl
noncomputable def code_Heights_R7_F (z : At) (K : Exit → Sl → World → Prop) (ρ : Sl) (w : World) : Prop :=
  K .normal (up (up ρ 102 (ρ 13)) 5 (ρ 13)) w
theorem code_Heights_R7_eq (z : At) (K : Exit → Sl → World → Prop) (ρ : Sl) (w : World) : sx z Try.prog 108 code_Heights_R7 K ρ w = code_Heights_R7_F z K ρ w := by kernel_rfl
noncomputable def code_Heights_F (a0 : Value) (w : World) (R : Value → World → Prop) : Prop :=
  VK Try.prog (Instr.box 28 a0) w fun x1 w => VK Try.prog (Instr.loadAt 28 x1) w fun x14 w => CK Try.prog (Value.func (Fn.func 32) #[] #[]) [x14] w fun x15 w => VK Try.prog (Op.unary UnOp.not x15) w fun x16 w => CondK x16 (R (Value.tuple #[(Value.slice none 0 0), (Value.int .i64 50)]) w) (VK Try.prog (Instr.buildSlice 26 1 [(0, (Value.int .i64 (-1)))].toArray) w fun x17 w => VK Try.prog (Instr.fieldAt 28 x1 0) w fun x18 w => VK Try.prog (Instr.loadAt 25 x18) w fun x19 w => IK Try.prog .len #[25] 3 [false] [x19] w fun x20 w => CK Try.prog (Value.func (Fn.func 33) #[] #[]) [x17, x20] w fun x21 w => VK Try.prog (Instr.indexAt 26 x21 (Value.int .i64 0)) w fun x23 w => UK Try.prog (Instr.storeAt 3 x23 (Value.int .i64 0)) w fun _ w => VK Try.prog (Instr.buildSlice 26 1 [(0, (Value.int .i64 0))].toArray) w fun x24 w => W fn_ Try.prog 108 (Code.loop code_Heights_L0) (blkK 0 (seqK (sx fn_ Try.prog 108 code_Heights_R1 (retK Try.prog [ResultVar.tmp 2, ResultVar.tmp 3] R)) (retK Try.prog [ResultVar.tmp 2, ResultVar.tmp 3] R))) (up (up (up (up (up (up (up (up (up (up (up (up (up (up (up (up (rho0 [a0]) 1 x1) 2 (Value.slice none 0 0)) 3 (Value.int .i64 0)) 14 x14) 15 x15) 16 x16) 17 x17) 18 x18) 19 x19) 20 x20) 21 x21) 4 x21) 22 x21) 23 x23) 24 x24) 5 x24) w)
theorem code_Heights_eq (a0 : Value) (w : World) (R : Value → World → Prop) : sx fn_ Try.prog 108 code_Heights_b (retK Try.prog Try.f21.results.toList R) (rho0 [a0]) w = code_Heights_F a0 w R := by kernel_rfl
theorem code_Heights_calls {a0 : Value} {w : World} {R : Value → World → Prop} (h : code_Heights_F a0 w R) : Calls Try.prog 21 #[a0] w fun e w' => ∃ v, e = .returned v ∧ R v w' :=
  Go.X.calls_of_sx (n := 108) (c := code_Heights_b) Try.func21 (by kernel_rfl) (by kernel_rfl) (Nat.le_of_ble_eq_true rfl) (by kernel_rfl) (Eq.mpr (code_Heights_eq a0 w R) h)
noncomputable def slices_Clone_code_Instr_code_Instr_b : Code := (Try.f22.body).getD .skip
noncomputable def slices_Clone_code_Instr_code_Instr_F (a0 : Value) (w : World) (R : Value → World → Prop) : Prop :=
  BK Try.prog .eql 25 (.tmp 3) (.const (Value.slice none 0 0)) a0 (Value.slice none 0 0) w fun x4 w => CondK x4 (R (Value.slice none 0 0) w) (VK Try.prog (Instr.buildSlice 25 0 [].toArray) w fun x5 w => IK Try.prog .append #[25, 25] 25 [false, false] [x5, a0] w fun x7 w => R x7 w)
theorem slices_Clone_code_Instr_code_Instr_eq (a0 : Value) (w : World) (R : Value → World → Prop) : sx fn_ Try.prog 8 slices_Clone_code_Instr_code_Instr_b (retK Try.prog Try.f22.results.toList R) (rho0 [a0]) w = slices_Clone_code_Instr_code_Instr_F a0 w R := by kernel_rfl
theorem slices_Clone_code_Instr_code_Instr_calls {a0 : Value} {w : World} {R : Value → World → Prop} (h : slices_Clone_code_Instr_code_Instr_F a0 w R) : Calls Try.prog 22 #[a0] w fun e w' => ∃ v, e = .returned v ∧ R v w' :=
  Go.X.calls_of_sx (n := 8) (c := slices_Clone_code_Instr_code_Instr_b) Try.func22 (by kernel_rfl) (by kernel_rfl) (Nat.le_of_ble_eq_true rfl) (by kernel_rfl) (Eq.mpr (slices_Clone_code_Instr_code_Instr_eq a0 w R) h)
noncomputable def slices_Clone_int_int_b : Code := (Try.f23.body).getD .skip
noncomputable def slices_Clone_int_int_F (a0 : Value) (w : World) (R : Value → World → Prop) : Prop :=
  BK Try.prog .eql 26 (.tmp 3) (.const (Value.slice none 0 0)) a0 (Value.slice none 0 0) w fun x4 w => CondK x4 (R (Value.slice none 0 0) w) (VK Try.prog (Instr.buildSlice 26 0 [].toArray) w fun x5 w => IK Try.prog .append #[26, 26] 26 [false, false] [x5, a0] w fun x7 w => R x7 w)
theorem slices_Clone_int_int_eq (a0 : Value) (w : World) (R : Value → World → Prop) : sx fn_ Try.prog 8 slices_Clone_int_int_b (retK Try.prog Try.f23.results.toList R) (rho0 [a0]) w = slices_Clone_int_int_F a0 w R := by kernel_rfl
theorem slices_Clone_int_int_calls {a0 : Value} {w : World} {R : Value → World → Prop} (h : slices_Clone_int_int_F a0 w R) : Calls Try.prog 23 #[a0] w fun e w' => ∃ v, e = .returned v ∧ R v w' :=
  Go.X.calls_of_sx (n := 8) (c := slices_Clone_int_int_b) Try.func23 (by kernel_rfl) (by kernel_rfl) (Nat.le_of_ble_eq_true rfl) (by kernel_rfl) (Eq.mpr (slices_Clone_int_int_eq a0 w R) h)
noncomputable def vm_Rank_push_b : Code := (Try.f24.body).getD .skip
noncomputable def vm_Rank_push_F (a0 a1 : Value) (w : World) (R : Value → World → Prop) : Prop :=
  NK Try.prog a0 w fun x6 w => VK Try.prog (Instr.fieldAt 56 x6 4) w fun x7 w => VK Try.prog (Instr.loadAt 22 x7) w fun x8 w => VK Try.prog (Instr.buildSlice 22 1 [(0, a1)].toArray) w fun x10 w => IK Try.prog .append #[22, 22] 22 [false, false] [x8, x10] w fun x11 w => NK Try.prog a0 w fun x12 w => VK Try.prog (Instr.fieldAt 56 x12 4) w fun x13 w => UK Try.prog (Instr.storeAt 22 x13 x11) w fun _ w => R (Value.tuple #[]) w
theorem vm_Rank_push_eq (a0 a1 : Value) (w : World) (R : Value → World → Prop) : sx fn_ Try.prog 14 vm_Rank_push_b (retK Try.prog Try.f24.results.toList R) (rho0 [a0, a1]) w = vm_Rank_push_F a0 a1 w R := by kernel_rfl
theorem vm_Rank_push_calls {a0 a1 : Value} {w : World} {R : Value → World → Prop} (h : vm_Rank_push_F a0 a1 w R) : Calls Try.prog 24 #[a0, a1] w fun e w' => ∃ v, e = .returned v ∧ R v w' :=
  Go.X.calls_of_sx (n := 14) (c := vm_Rank_push_b) Try.func24 (by kernel_rfl) (by kernel_rfl) (Nat.le_of_ble_eq_true rfl) (by kernel_rfl) (Eq.mpr (vm_Rank_push_eq a0 a1 w R) h)
noncomputable def vm_Rank_pop_b : Code := (Try.f25.body).getD .skip
noncomputable def vm_Rank_pop_R0 : Code := cAt [1, 1, 1, 1] vm_Rank_pop_b
noncomputable def vm_Rank_pop_R0_F (z : At) (K : Exit → Sl → World → Prop) (ρ : Sl) (w : World) : Prop :=
  K .ret (up (up ρ 27 (ρ 4)) 2 (ρ 4)) w
theorem vm_Rank_pop_R0_eq (z : At) (K : Exit → Sl → World → Prop) (ρ : Sl) (w : World) : sx z Try.prog 28 vm_Rank_pop_R0 K ρ w = vm_Rank_pop_R0_F z K ρ w := by kernel_rfl
noncomputable def vm_Rank_pop_F (a0 : Value) (w : World) (R : Value → World → Prop) : Prop :=
  NK Try.prog a0 w fun x6 w => VK Try.prog (Instr.fieldAt 56 x6 4) w fun x7 w => VK Try.prog (Instr.loadAt 22 x7) w fun x8 w => IK Try.prog .len #[22] 3 [false] [x8] w fun x9 w => BK Try.prog .sub 3 (.tmp 9) (.const (Value.int .i64 1)) x9 (Value.int .i64 1) w fun x10 w => NK Try.prog a0 w fun x12 w => VK Try.prog (Instr.fieldAt 56 x12 4) w fun x13 w => VK Try.prog (Instr.loadAt 22 x13) w fun x14 w => VK Try.prog (Instr.indexAt 22 x14 x10) w fun x16 w => VK Try.prog (Instr.loadAt 2 x16) w fun x17 w => NK Try.prog a0 w fun x20 w => VK Try.prog (Instr.fieldAt 56 x20 4) w fun x21 w => VK Try.prog (Instr.loadAt 22 x21) w fun x22 w => VK Try.prog (Instr.sliceAt 22 x22 none (some x10) none) w fun x24 w => NK Try.prog a0 w fun x25 w => VK Try.prog (Instr.fieldAt 56 x25 4) w fun x26 w => UK Try.prog (Instr.storeAt 22 x26 x24) w fun _ w => sx fn_ Try.prog 28 vm_Rank_pop_R0 (retK Try.prog [ResultVar.tmp 2] R) (up (up (up (up (up (up (up (up (up (up (up (up (up (up (up (up (up (up (up (up (up (up (up (up (up (rho0 [a0]) 2 (Value.int .i64 0)) 5 a0) 6 x6) 7 x7) 8 x8) 9 x9) 10 x10) 3 x10) 11 a0) 12 x12) 13 x13) 14 x14) 15 x10) 16 x16) 17 x17) 4 x17) 18 a0) 19 a0) 20 x20) 21 x21) 22 x22) 23 x10) 24 x24) 25 x25) 26 x26) w
theorem vm_Rank_pop_eq (a0 : Value) (w : World) (R : Value → World → Prop) : sx fn_ Try.prog 28 vm_Rank_pop_b (retK Try.prog Try.f25.results.toList R) (rho0 [a0]) w = vm_Rank_pop_F a0 w R := by kernel_rfl
theorem vm_Rank_pop_calls {a0 : Value} {w : World} {R : Value → World → Prop} (h : vm_Rank_pop_F a0 w R) : Calls Try.prog 25 #[a0] w fun e w' => ∃ v, e = .returned v ∧ R v w' :=
  Go.X.calls_of_sx (n := 28) (c := vm_Rank_pop_b) Try.func25 (by kernel_rfl) (by kernel_rfl) (Nat.le_of_ble_eq_true rfl) (by kernel_rfl) (Eq.mpr (vm_Rank_pop_eq a0 w R) h)
noncomputable def vm_Rank_cell_b : Code := (Try.f26.body).getD .skip
noncomputable def vm_Rank_cell_R0 : Code := cAt [1, 1, 0] vm_Rank_cell_b
noncomputable def vm_Rank_cell_R1 : Code := cAt [1, 1, 1] vm_Rank_cell_b
noncomputable def vm_Rank_cell_R0_ops : Array Oper := opsOf vm_Rank_cell_R0
def vm_Rank_cell_R0_Q (C : World → Prop) (K : Exit → Sl → World → Prop) (ρ : Sl) : Prop :=
  QK Try.prog C (nilCk (ρ 0)) fun x22 => QK Try.prog C (do pure (Next.value (← Instr.fieldAt 56 x22 6))) fun x23 => QK Try.prog C (do pure (Next.value (← Instr.loadAt 22 x23))) fun x24 => QK Try.prog C (nilCk (ρ 0)) fun x26 => QK Try.prog C (do pure (Next.value (← Instr.fieldAt 56 x26 7))) fun x27 => QK Try.prog C (do pure (Next.value (← Instr.loadAt 26 x27))) fun x28 => QK Try.prog C (do pure (Next.value (← Instr.indexAt 26 x28 (ρ 1)))) fun x30 => QK Try.prog C (do pure (Next.value (← Instr.loadAt 3 x30))) fun x31 => QK Try.prog C (do pure (Next.value (← (do eqGuard BinOp.add 3 (Operand.tmp 31) (Operand.tmp 32) x31 (ρ 2); binOp BinOp.add 3 x31 (ρ 2))))) fun x33 => QK Try.prog C (do pure (Next.value (← Instr.indexAt 22 x24 x33))) fun x34 => ∀ w', C w' → K Exit.normal (up (up (up (up (up (up (up (up (up (up (up (up (up (up (up ρ 21 (ρ 0)) 22 x22) 23 x23) 24 x24) 25 (ρ 0)) 26 x26) 27 x27) 28 x28) 29 (ρ 1)) 30 x30) 31 x31) 32 (ρ 2)) 33 x33) 34 x34) 6 x34) w'
theorem vm_Rank_cell_R0_quiet {D : List Deferred} (C : World → Prop) {K : Exit → Sl → World → Prop} {ρ : Sl} {w : World} (hC : C { w with drawn := w.drawn + 1 }) (h : vm_Rank_cell_R0_Q C K ρ) : W ⟨none, D⟩ Try.prog 35 vm_Rank_cell_R0 K ρ w := by
  have e : vm_Rank_cell_R0 = .region (idOf vm_Rank_cell_R0) vm_Rank_cell_R0_ops true := by kernel_rfl
  have q : sxq Try.prog C vm_Rank_cell_R0_ops (fun ρ' => ∀ w', C w' → K .normal ρ' w') vm_Rank_cell_R0_ops.toList ρ = vm_Rank_cell_R0_Q C K ρ := by kernel_rfl
  rw [e]
  exact W_quiet C (by kernel_rfl) (by kernel_rfl) (by kernel_rfl) hC (Eq.mpr q h)
noncomputable def vm_Rank_cell_R1_F (z : At) (K : Exit → Sl → World → Prop) (ρ : Sl) (w : World) : Prop :=
  K .ret ρ w
theorem vm_Rank_cell_R1_eq (z : At) (K : Exit → Sl → World → Prop) (ρ : Sl) (w : World) : sx z Try.prog 35 vm_Rank_cell_R1 K ρ w = vm_Rank_cell_R1_F z K ρ w := by kernel_rfl
noncomputable def vm_Rank_cell_F (a0 a1 a2 : Value) (w : World) (R : Value → World → Prop) : Prop :=
  BK Try.prog .lss 2 (.tmp 7) (.const (Value.int .i64 0)) a2 (Value.int .i64 0) w fun x8 w => MG Try.prog x8 false a2 w fun x10 w => MG Try.prog x8 false a0 w fun x11 w => NG Try.prog x8 false x11 w fun x12 w => VG Try.prog x8 false (Instr.fieldAt 56 x12 0) w fun x13 w => VG Try.prog x8 false (Instr.fieldAt 28 x13 2) w fun x14 w => VG Try.prog x8 false (Instr.loadAt 26 x14) w fun x15 w => MG Try.prog x8 false a1 w fun x16 w => VG Try.prog x8 false (Instr.indexAt 26 x15 x16) w fun x17 w => VG Try.prog x8 false (Instr.loadAt 3 x17) w fun x18 w => BG Try.prog x8 false .geq 2 (.tmp 10) (.tmp 18) x10 x18 w fun x19 w => PK Try.prog x8 (Value.bool true) x19 w fun x20 w => CondK x20 (R (Value.pointer none) w) (W fn_ Try.prog 35 vm_Rank_cell_R0 (seqK (sx fn_ Try.prog 35 vm_Rank_cell_R1 (retK Try.prog [ResultVar.tmp 6] R)) (retK Try.prog [ResultVar.tmp 6] R)) (up (up (up (up (up (up (up (up (up (up (up (up (up (up (up (rho0 [a0, a1, a2]) 6 (Value.pointer none)) 7 a2) 8 x8) 9 x8) 10 x10) 11 x11) 12 x12) 13 x13) 14 x14) 15 x15) 16 x16) 17 x17) 18 x18) 19 x19) 20 x20) w)
theorem vm_Rank_cell_eq (a0 a1 a2 : Value) (w : World) (R : Value → World → Prop) : sx fn_ Try.prog 35 vm_Rank_cell_b (retK Try.prog Try.f26.results.toList R) (rho0 [a0, a1, a2]) w = vm_Rank_cell_F a0 a1 a2 w R := by kernel_rfl
theorem vm_Rank_cell_calls {a0 a1 a2 : Value} {w : World} {R : Value → World → Prop} (h : vm_Rank_cell_F a0 a1 a2 w R) : Calls Try.prog 26 #[a0, a1, a2] w fun e w' => ∃ v, e = .returned v ∧ R v w' :=
  Go.X.calls_of_sx (n := 35) (c := vm_Rank_cell_b) Try.func26 (by kernel_rfl) (by kernel_rfl) (Nat.le_of_ble_eq_true rfl) (by kernel_rfl) (Eq.mpr (vm_Rank_cell_eq a0 a1 a2 w R) h)
noncomputable def vm_Rank_ends_b : Code := (Try.f27.body).getD .skip
noncomputable def vm_Rank_ends_F (a0 a1 a2 : Value) (w : World) (R : Value → World → Prop) : Prop :=
  VK Try.prog (Instr.build 38 [(0, a1), (2, a2)].toArray) w fun x9 w => NK Try.prog a0 w fun x10 w => VK Try.prog (Instr.fieldAt 56 x10 9) w fun x11 w => UK Try.prog (Instr.storeAt 38 x11 x9) w fun _ w => R (Value.tuple #[]) w
theorem vm_Rank_ends_eq (a0 a1 a2 : Value) (w : World) (R : Value → World → Prop) : sx fn_ Try.prog 12 vm_Rank_ends_b (retK Try.prog Try.f27.results.toList R) (rho0 [a0, a1, a2]) w = vm_Rank_ends_F a0 a1 a2 w R := by kernel_rfl
theorem vm_Rank_ends_calls {a0 a1 a2 : Value} {w : World} {R : Value → World → Prop} (h : vm_Rank_ends_F a0 a1 a2 w R) : Calls Try.prog 27 #[a0, a1, a2] w fun e w' => ∃ v, e = .returned v ∧ R v w' :=
  Go.X.calls_of_sx (n := 12) (c := vm_Rank_ends_b) Try.func27 (by kernel_rfl) (by kernel_rfl) (Nat.le_of_ble_eq_true rfl) (by kernel_rfl) (Eq.mpr (vm_Rank_ends_eq a0 a1 a2 w R) h)
noncomputable def vm_Rank_word_b : Code := (Try.f28.body).getD .skip
noncomputable def vm_Rank_word_R0 : Code := cAt [1, 1, 0] vm_Rank_word_b
noncomputable def vm_Rank_word_R1 : Code := cAt [1, 1, 1] vm_Rank_word_b
noncomputable def vm_Rank_word_R0_ops : Array Oper := opsOf vm_Rank_word_R0
def vm_Rank_word_R0_Q (C : World → Prop) (K : Exit → Sl → World → Prop) (ρ : Sl) : Prop :=
  QK Try.prog C (nilCk (ρ 0)) fun x11 => QK Try.prog C (do pure (Next.value (← Instr.fieldAt 56 x11 1))) fun x12 => QK Try.prog C (do pure (Next.value (← Instr.loadAt 3 x12))) fun x13 => QK Try.prog C (nilCk (ρ 0)) fun x15 => QK Try.prog C (do pure (Next.value (← Instr.fieldAt 56 x15 2))) fun x16 => QK Try.prog C (do pure (Next.value (← Instr.loadAt 3 x16))) fun x17 => QK Try.prog C (do pure (Next.value (← Instr.fieldAt 54 (ρ 5) 1))) fun x18 => QK Try.prog C (do pure (Next.value (← Instr.loadAt 2 x18))) fun x19 => QK Try.prog C (do pure (Next.value (← Instr.fieldAt 54 (ρ 5) 2))) fun x20 => QK Try.prog C (do pure (Next.value (← Instr.loadAt 3 x20))) fun x21 => QK Try.prog C (do pure (Next.value (← Instr.fieldAt 54 (ρ 5) 3))) fun x22 => QK Try.prog C (do pure (Next.value (← Instr.loadAt 3 x22))) fun x23 => QK Try.prog C (do pure (Next.value (← Instr.fieldAt 54 (ρ 5) 0))) fun x24 => QK Try.prog C (do pure (Next.value (← Instr.loadAt 4 x24))) fun x25 => QK Try.prog C (do let d ← Deferred.ofValue (Value.func (Fn.func 29) #[] #[]) [x25].toArray; invoke d.target d.args) fun x26 => QK Try.prog C (do pure (Next.value (← Instr.fieldAt 54 (ρ 5) 5))) fun x27 => QK Try.prog C (do pure (Next.value (← Instr.loadAt 3 x27))) fun x28 => QK Try.prog C (do pure (Next.value (← Instr.fieldAt 54 (ρ 5) 4))) fun x29 => QK Try.prog C (do pure (Next.value (← Instr.loadAt 3 x29))) fun x30 => QK Try.prog C (do pure (Next.value (← Instr.fieldAt 54 (ρ 5) 6))) fun x31 => QK Try.prog C (do pure (Next.value (← Instr.loadAt 3 x31))) fun x32 => QK Try.prog C (do pure (Next.value (← Instr.build 79 [(0, x13), (1, x17), (2, (Value.int IntKind.i64 (-1))), (3, x19), (4, x21), (5, x23), (6, x26), (7, x28), (8, x30), (9, x32)].toArray))) fun x33 => QK Try.prog C (do pure (Next.value (← Instr.index 79 x33 (ρ 1)))) fun x35 => ∀ w', C w' → K Exit.normal (up (up (up (up (up (up (up (up (up (up (up (up (up (up (up (up (up (up (up (up (up (up (up (up (up (up (up ρ 10 (ρ 0)) 11 x11) 12 x12) 13 x13) 14 (ρ 0)) 15 x15) 16 x16) 17 x17) 18 x18) 19 x19) 20 x20) 21 x21) 22 x22) 23 x23) 24 x24) 25 x25) 26 x26) 27 x27) 28 x28) 29 x29) 30 x30) 31 x31) 32 x32) 33 x33) 34 (ρ 1)) 35 x35) 4 x35) w'
theorem vm_Rank_word_R0_quiet {D : List Deferred} (C : World → Prop) {K : Exit → Sl → World → Prop} {ρ : Sl} {w : World} (hC : C { w with drawn := w.drawn + 1 }) (h : vm_Rank_word_R0_Q C K ρ) : W ⟨none, D⟩ Try.prog 36 vm_Rank_word_R0 K ρ w := by
  have e : vm_Rank_word_R0 = .region (idOf vm_Rank_word_R0) vm_Rank_word_R0_ops true := by kernel_rfl
  have q : sxq Try.prog C vm_Rank_word_R0_ops (fun ρ' => ∀ w', C w' → K .normal ρ' w') vm_Rank_word_R0_ops.toList ρ = vm_Rank_word_R0_Q C K ρ := by kernel_rfl
  rw [e]
  exact W_quiet C (by kernel_rfl) (by kernel_rfl) (by kernel_rfl) hC (Eq.mpr q h)
noncomputable def vm_Rank_word_R1_F (z : At) (K : Exit → Sl → World → Prop) (ρ : Sl) (w : World) : Prop :=
  K .ret ρ w
theorem vm_Rank_word_R1_eq (z : At) (K : Exit → Sl → World → Prop) (ρ : Sl) (w : World) : sx z Try.prog 36 vm_Rank_word_R1 K ρ w = vm_Rank_word_R1_F z K ρ w := by kernel_rfl
noncomputable def vm_Rank_word_F (a0 a1 : Value) (w : World) (R : Value → World → Prop) : Prop :=
  NK Try.prog a0 w fun x7 w => VK Try.prog (Instr.fieldAt 56 x7 8) w fun x8 w => VK Try.prog (Instr.loadAt 54 x8) w fun x9 w => VK Try.prog (Instr.alloc 54 true (.tuple #[])) w fun x5 w => UK Try.prog (Instr.storeAt 54 x5 x9) w fun _ w => W fn_ Try.prog 36 vm_Rank_word_R0 (seqK (sx fn_ Try.prog 36 vm_Rank_word_R1 (retK Try.prog [ResultVar.tmp 4] R)) (retK Try.prog [ResultVar.tmp 4] R)) (up (up (up (up (up (up (rho0 [a0, a1]) 4 (Value.int .i64 0)) 6 a0) 7 x7) 8 x8) 9 x9) 5 x5) w
theorem vm_Rank_word_eq (a0 a1 : Value) (w : World) (R : Value → World → Prop) : sx fn_ Try.prog 36 vm_Rank_word_b (retK Try.prog Try.f28.results.toList R) (rho0 [a0, a1]) w = vm_Rank_word_F a0 a1 w R := by kernel_rfl
theorem vm_Rank_word_calls {a0 a1 : Value} {w : World} {R : Value → World → Prop} (h : vm_Rank_word_F a0 a1 w R) : Calls Try.prog 28 #[a0, a1] w fun e w' => ∃ v, e = .returned v ∧ R v w' :=
  Go.X.calls_of_sx (n := 36) (c := vm_Rank_word_b) Try.func28 (by kernel_rfl) (by kernel_rfl) (Nat.le_of_ble_eq_true rfl) (by kernel_rfl) (Eq.mpr (vm_Rank_word_eq a0 a1 w R) h)
noncomputable def vm_truth_b : Code := (Try.f29.body).getD .skip
noncomputable def vm_truth_F (a0 : Value) (w : World) (R : Value → World → Prop) : Prop :=
  CondK a0 (R (Value.int .i64 1) w) (R (Value.int .i64 0) w)
theorem vm_truth_eq (a0 : Value) (w : World) (R : Value → World → Prop) : sx fn_ Try.prog 4 vm_truth_b (retK Try.prog Try.f29.results.toList R) (rho0 [a0]) w = vm_truth_F a0 w R := by kernel_rfl
theorem vm_truth_calls {a0 : Value} {w : World} {R : Value → World → Prop} (h : vm_truth_F a0 w R) : Calls Try.prog 29 #[a0] w fun e w' => ∃ v, e = .returned v ∧ R v w' :=
  Go.X.calls_of_sx (n := 4) (c := vm_truth_b) Try.func29 (by kernel_rfl) (by kernel_rfl) (Nat.le_of_ble_eq_true rfl) (by kernel_rfl) (Eq.mpr (vm_truth_eq a0 w R) h)
noncomputable def vm_two_b : Code := (Try.f31.body).getD .skip
noncomputable def vm_two_F (w : World) (R : Value → World → Prop) : Prop :=
  VK Try.prog (Instr.alloc 73 true (.tuple #[])) w fun x0 w => VK Try.prog (Instr.build 73 [(0, (Value.func (Fn.func 37) #[] #[])), (1, (Value.func (Fn.func 38) #[] #[])), (2, (Value.func (Fn.func 39) #[] #[])), (3, (Value.func (Fn.func 40) #[] #[])), (4, (Value.func (Fn.func 41) #[] #[])), (5, (Value.func (Fn.func 42) #[] #[])), (6, (Value.func (Fn.func 43) #[] #[])), (7, (Value.func (Fn.func 44) #[] #[])), (8, (Value.func (Fn.func 45) #[] #[])), (9, (Value.func (Fn.func 46) #[] #[])), (10, (Value.func (Fn.func 47) #[] #[]))].toArray) w fun x1 w => UK Try.prog (Instr.storeAt 73 x0 x1) w fun _ w => ∃ x0_1, (do loadVar 73 (← asAddr x0) : Sem Value).run Try.prog w = .ok x0_1 w ∧ R x0_1 w
theorem vm_two_calls {w : World} {R : Value → World → Prop} (h : vm_two_F  w R) : Calls Try.prog 31 #[] w fun e w' => ∃ v, e = .returned v ∧ R v w' :=
  Go.X.calls_eq (n := 2) (c := vm_two_b) (fn := Try.f31) (args := #[]) (F := vm_two_F  w R) (R := R) Try.func31 (by kernel_rfl) (by kernel_rfl) (Nat.le_of_ble_eq_true rfl) (by kernel_rfl) (by kernel_rfl) h
noncomputable def code_Program_whole_b : Code := (Try.f32.body).getD .skip
noncomputable def code_Program_whole_L0 : Code := cAt [1, 1, 0, 1, 0, 0] code_Program_whole_b
noncomputable def code_Program_whole_R1 : Code := cAt [1, 1, 1] code_Program_whole_b
noncomputable def code_Program_whole_L0_F (z : At) (K : Exit → Sl → World → Prop) (ρ : Sl) (w : World) : Prop :=
  BK Try.prog .lss 3 (.tmp 11) (.tmp 10) (ρ 11) (ρ 10) w fun x12 w => CondK x12 (VK Try.prog (Instr.indexAt 26 (ρ 9) (ρ 11)) w fun x13 w => VK Try.prog (Instr.loadAt 3 x13) w fun x14 w => BK Try.prog .lss 3 (.tmp 15) (.const (Value.int .i64 1)) x14 (Value.int .i64 1) w fun x16 w => MG Try.prog x16 false x14 w fun x18 w => MG Try.prog x16 false (ρ 3) w fun x19 w => BG Try.prog x16 false .sub 3 (.const (Value.int .i64 1000)) (.tmp 19) (Value.int .i64 1000) x19 w fun x20 w => BG Try.prog x16 false .gtr 3 (.tmp 18) (.tmp 20) x18 x20 w fun x21 w => PK Try.prog x16 (Value.bool true) x21 w fun x22 w => CondK x22 (K .ret (up (up (up (up (up (up (up (up (up (up (up (up (up ρ 12 x12) 13 x13) 14 x14) 5 x14) 15 x14) 16 x16) 17 x16) 18 x18) 19 x19) 20 x20) 21 x21) 22 x22) 2 (Value.bool false)) w) (BK Try.prog .add 3 (.tmp 23) (.tmp 24) (ρ 3) x14 w fun x25 w => BK Try.prog .add 3 (.tmp 11) (.const (Value.int .i64 1)) (ρ 11) (Value.int .i64 1) w fun x26 w => K .normal (up (up (up (up (up (up (up (up (up (up (up (up (up (up (up (up (up (up ρ 12 x12) 13 x13) 14 x14) 5 x14) 15 x14) 16 x16) 17 x16) 18 x18) 19 x19) 20 x20) 21 x21) 22 x22) 23 (ρ 3)) 24 x14) 25 x25) 3 x25) 26 x26) 11 x26) w)) (K (.exit 0) (up ρ 12 x12) w)
theorem code_Program_whole_L0_eq (z : At) (K : Exit → Sl → World → Prop) (ρ : Sl) (w : World) : sx z Try.prog 64 code_Program_whole_L0 K ρ w = code_Program_whole_L0_F z K ρ w := by kernel_rfl
theorem code_Program_whole_L0_ok : dstOk 64 code_Program_whole_L0 = true := by kernel_rfl
noncomputable def code_Program_whole_R1_F (z : At) (K : Exit → Sl → World → Prop) (ρ : Sl) (w : World) : Prop :=
  VK Try.prog (Instr.makeFunc (Fn.func 48) [].toArray [(ρ 1)].toArray) w fun x27 w => VK Try.prog (Instr.fieldAt 28 (ρ 1) 0) w fun x28 w => VK Try.prog (Instr.loadAt 25 x28) w fun x29 w => IK Try.prog .len #[25] 3 [false] [x29] w fun x30 w => BK Try.prog .gtr 3 (.tmp 31) (.const (Value.int .i64 0)) x30 (Value.int .i64 0) w fun x32 w => MG Try.prog x32 true x30 w fun x34 w => BG Try.prog x32 true .leq 3 (.tmp 34) (.const (Value.int .i64 4000)) x34 (Value.int .i64 4000) w fun x35 w => PK Try.prog x32 x35 (Value.bool false) w fun x36 w => VG Try.prog x36 true (Instr.fieldAt 28 (ρ 1) 1) w fun x38 w => VG Try.prog x36 true (Instr.loadAt 3 x38) w fun x39 w => BG Try.prog x36 true .geq 3 (.tmp 39) (.const (Value.int .i64 0)) x39 (Value.int .i64 0) w fun x40 w => PK Try.prog x36 x40 (Value.bool false) w fun x41 w => VG Try.prog x41 true (Instr.fieldAt 28 (ρ 1) 1) w fun x43 w => VG Try.prog x41 true (Instr.loadAt 3 x43) w fun x44 w => BG Try.prog x41 true .leq 3 (.tmp 44) (.const (Value.int .i64 64)) x44 (Value.int .i64 64) w fun x45 w => PK Try.prog x41 x45 (Value.bool false) w fun x46 w => VG Try.prog x46 true (Instr.fieldAt 28 (ρ 1) 0) w fun x48 w => VG Try.prog x46 true (Instr.loadAt 25 x48) w fun x49 w => MG Try.prog x46 true x27 w fun x50 w => CG Try.prog x46 true (Value.func (Fn.func 49) #[] #[]) [x49, x50] w fun x51 w => VG Try.prog x46 true (Op.unary UnOp.not x51) w fun x52 w => PK Try.prog x46 x52 (Value.bool false) w fun x53 w => VG Try.prog x53 true (Instr.fieldAt 28 (ρ 1) 0) w fun x55 w => VG Try.prog x53 true (Instr.loadAt 25 x55) w fun x56 w => MG Try.prog x53 true x30 w fun x57 w => BG Try.prog x53 true .sub 3 (.tmp 57) (.const (Value.int .i64 1)) x57 (Value.int .i64 1) w fun x58 w => VG Try.prog x53 true (Instr.indexAt 25 x56 x58) w fun x59 w => VG Try.prog x53 true (Instr.fieldAt 30 x59 0) w fun x60 w => VG Try.prog x53 true (Instr.loadAt 5 x60) w fun x61 w => BG Try.prog x53 true .eql 5 (.tmp 61) (.const (Value.int .u8 29)) x61 (Value.int .u8 29) w fun x62 w => PK Try.prog x53 x62 (Value.bool false) w fun x63 w => K .ret (up (up (up (up (up (up (up (up (up (up (up (up (up (up (up (up (up (up (up (up (up (up (up (up (up (up (up (up (up (up (up (up (up (up (up (up (up (up (up (up ρ 27 x27) 6 x27) 28 x28) 29 x29) 30 x30) 7 x30) 31 x30) 32 x32) 33 x32) 34 x34) 35 x35) 36 x36) 37 x36) 38 x38) 39 x39) 40 x40) 41 x41) 42 x41) 43 x43) 44 x44) 45 x45) 46 x46) 47 x46) 48 x48) 49 x49) 50 x50) 51 x51) 52 x52) 53 x53) 54 x53) 55 x55) 56 x56) 57 x57) 58 x58) 59 x59) 60 x60) 61 x61) 62 x62) 63 x63) 2 x63) w
theorem code_Program_whole_R1_eq (z : At) (K : Exit → Sl → World → Prop) (ρ : Sl) (w : World) : sx z Try.prog 64 code_Program_whole_R1 K ρ w = code_Program_whole_R1_F z K ρ w := by kernel_rfl
noncomputable def code_Program_whole_F (a0 : Value) (w : World) (R : Value → World → Prop) : Prop :=
  VK Try.prog (Instr.box 28 a0) w fun x1 w => VK Try.prog (Instr.fieldAt 28 x1 2) w fun x8 w => VK Try.prog (Instr.loadAt 26 x8) w fun x9 w => IK Try.prog .len #[26] 3 [false] [x9] w fun x10 w => W fn_ Try.prog 64 (Code.loop code_Program_whole_L0) (blkK 0 (seqK (sx fn_ Try.prog 64 code_Program_whole_R1 (retK Try.prog [ResultVar.tmp 2] R)) (retK Try.prog [ResultVar.tmp 2] R))) (up (up (up (up (up (up (up (rho0 [a0]) 1 x1) 2 (Value.bool false)) 3 (Value.int .i64 0)) 8 x8) 9 x9) 10 x10) 11 (Value.int .i64 0)) w
theorem code_Program_whole_eq (a0 : Value) (w : World) (R : Value → World → Prop) : sx fn_ Try.prog 64 code_Program_whole_b (retK Try.prog Try.f32.results.toList R) (rho0 [a0]) w = code_Program_whole_F a0 w R := by kernel_rfl
theorem code_Program_whole_calls {a0 : Value} {w : World} {R : Value → World → Prop} (h : code_Program_whole_F a0 w R) : Calls Try.prog 32 #[a0] w fun e w' => ∃ v, e = .returned v ∧ R v w' :=
  Go.X.calls_of_sx (n := 64) (c := code_Program_whole_b) Try.func32 (by kernel_rfl) (by kernel_rfl) (Nat.le_of_ble_eq_true rfl) (by kernel_rfl) (Eq.mpr (code_Program_whole_eq a0 w R) h)
noncomputable def slices_Repeat_int_int_b : Code := (Try.f33.body).getD .skip
noncomputable def slices_Repeat_int_int_R0 : Code := cAt [1, 1] slices_Repeat_int_int_b
noncomputable def slices_Repeat_int_int_R1 : Code := cAt [1, 1, 1, 1] slices_Repeat_int_int_b
noncomputable def slices_Repeat_int_int_L2 : Code := cAt [1, 1, 1, 1, 1, 1, 0, 0, 0] slices_Repeat_int_int_b
noncomputable def slices_Repeat_int_int_R3 : Code := cAt [1, 1, 1, 1, 1, 1, 1] slices_Repeat_int_int_b
noncomputable def slices_Repeat_int_int_R4 : Code := cAt [1, 1, 1, 1, 1, 1, 0, 0, 0, 1, 0] slices_Repeat_int_int_b
noncomputable def slices_Repeat_int_int_R0_F (z : At) (K : Exit → Sl → World → Prop) (ρ : Sl) (w : World) : Prop :=
  IK Try.prog .len #[26] 3 [false] [(ρ 0)] w fun x14 w => VK Try.prog (convert 3 83 x14) w fun x15 w => VK Try.prog (convert 3 83 (ρ 1)) w fun x17 w => CK Try.prog (Value.func (Fn.func 50) #[] #[]) [x15, x17] w fun x18 w => VK Try.prog (Instr.extract x18 0) w fun x19 w => VK Try.prog (Instr.extract x18 1) w fun x20 w => BK Try.prog .gtr 83 (.tmp 21) (.const (Value.int .u64 0)) x19 (Value.int .u64 0) w fun x22 w => MG Try.prog x22 false x20 w fun x24 w => BG Try.prog x22 false .gtr 83 (.tmp 24) (.const (Value.int .u64 9223372036854775807)) x24 (Value.int .u64 9223372036854775807) w fun x25 w => PK Try.prog x22 (Value.bool true) x25 w fun x26 w => CondK x26 (VK Try.prog (Instr.makeInterface 9 (Value.string { data := #[116, 104, 101, 32, 114, 101, 115, 117, 108, 116, 32, 111, 102, 32, 40, 108, 101, 110, 40, 120, 41, 32, 42, 32, 99, 111, 117, 110, 116, 41, 32, 111, 118, 101, 114, 102, 108, 111, 119, 115] })) w fun x27 w => VK Try.prog (Instr.panic x27) w fun _ w => sx z Try.prog 48 slices_Repeat_int_int_R1 K (up (up (up (up (up (up (up (up (up (up (up (up (up (up (up (up (up (up ρ 13 (ρ 0)) 14 x14) 15 x15) 16 (ρ 1)) 17 x17) 18 x18) 12 x18) 19 x19) 20 x20) 5 x19) 6 x20) 21 x19) 22 x22) 23 x22) 24 x24) 25 x25) 26 x26) 27 x27) w) (sx z Try.prog 48 slices_Repeat_int_int_R1 K (up (up (up (up (up (up (up (up (up (up (up (up (up (up (up (up (up ρ 13 (ρ 0)) 14 x14) 15 x15) 16 (ρ 1)) 17 x17) 18 x18) 12 x18) 19 x19) 20 x20) 5 x19) 6 x20) 21 x19) 22 x22) 23 x22) 24 x24) 25 x25) 26 x26) w)
theorem slices_Repeat_int_int_R0_eq (z : At) (K : Exit → Sl → World → Prop) (ρ : Sl) (w : World) : sx z Try.prog 48 slices_Repeat_int_int_R0 K ρ w = slices_Repeat_int_int_R0_F z K ρ w := by kernel_rfl
noncomputable def slices_Repeat_int_int_R1_F (z : At) (K : Exit → Sl → World → Prop) (ρ : Sl) (w : World) : Prop :=
  VK Try.prog (convert 83 3 (ρ 6)) w fun x29 w => VK Try.prog (Instr.makeSlice 26 x29 x29) w fun x30 w => IK Try.prog .copy #[26, 26] 3 [false, false] [x30, (ρ 0)] w fun x33 w => W z Try.prog 48 (Code.loop slices_Repeat_int_int_L2) (blkK 0 (seqK (sx z Try.prog 48 slices_Repeat_int_int_R3 K) K)) (up (up (up (up (up (up (up (up ρ 28 (ρ 6)) 29 x29) 30 x30) 7 x30) 31 x30) 32 (ρ 0)) 33 x33) 8 x33) w
theorem slices_Repeat_int_int_R1_eq (z : At) (K : Exit → Sl → World → Prop) (ρ : Sl) (w : World) : sx z Try.prog 48 slices_Repeat_int_int_R1 K ρ w = slices_Repeat_int_int_R1_F z K ρ w := by kernel_rfl
noncomputable def slices_Repeat_int_int_L2_F (z : At) (K : Exit → Sl → World → Prop) (ρ : Sl) (w : World) : Prop :=
  IK Try.prog .len #[26] 3 [false] [(ρ 7)] w fun x36 w => BK Try.prog .lss 3 (.tmp 34) (.tmp 36) (ρ 8) x36 w fun x37 w => CondK x37 (W z Try.prog 48 slices_Repeat_int_int_R4 (blkK 1 K) (up (up (up (up ρ 34 (ρ 8)) 35 (ρ 7)) 36 x36) 37 x37) w) (K (.exit 0) (up (up (up (up ρ 34 (ρ 8)) 35 (ρ 7)) 36 x36) 37 x37) w)
theorem slices_Repeat_int_int_L2_eq (z : At) (K : Exit → Sl → World → Prop) (ρ : Sl) (w : World) : sx z Try.prog 48 slices_Repeat_int_int_L2 K ρ w = slices_Repeat_int_int_L2_F z K ρ w := by kernel_rfl
theorem slices_Repeat_int_int_L2_ok : dstOk 48 slices_Repeat_int_int_L2 = true := by kernel_rfl
noncomputable def slices_Repeat_int_int_R3_F (z : At) (K : Exit → Sl → World → Prop) (ρ : Sl) (w : World) : Prop :=
  K .ret (up (up ρ 47 (ρ 7)) 4 (ρ 7)) w
theorem slices_Repeat_int_int_R3_eq (z : At) (K : Exit → Sl → World → Prop) (ρ : Sl) (w : World) : sx z Try.prog 48 slices_Repeat_int_int_R3 K ρ w = slices_Repeat_int_int_R3_F z K ρ w := by kernel_rfl
noncomputable def slices_Repeat_int_int_R4_ops : Array Oper := opsOf slices_Repeat_int_int_R4
def slices_Repeat_int_int_R4_H (S : World → Prop) (K : Exit → Sl → World → Prop) (ρ : Sl) (w : World) : Prop :=
  HK Try.prog S (do pure (Next.value (← Instr.sliceAt 26 (ρ 7) (some (ρ 8)) none none))) fun x41 => HK Try.prog S (do pure (Next.value (← Instr.sliceAt 26 (ρ 7) none (some (ρ 8)) none))) fun x44 => IK Try.prog Builtin.copy #[26, 26] 3 [false, false] [x41, x44] w fun x45 w => S w ∧ (HK Try.prog S (do pure (Next.value (← (do eqGuard BinOp.add 3 (Operand.tmp 38) (Operand.tmp 45) (ρ 8) x45; binOp BinOp.add 3 (ρ 8) x45)))) fun x46 => K Exit.normal (up (up (up (up (up (up (up (up (up (up ρ 38 (ρ 8)) 39 (ρ 7)) 40 (ρ 8)) 41 x41) 42 (ρ 7)) 43 (ρ 8)) 44 x44) 45 x45) 46 x46) 8 x46) w)
theorem slices_Repeat_int_int_R4_held {D : List Deferred} (S : World → Prop) {K : Exit → Sl → World → Prop} {ρ : Sl} {w : World} (hS : S { w with drawn := w.drawn + 1 }) (h : slices_Repeat_int_int_R4_H S K ρ { w with drawn := w.drawn + 1 }) : W ⟨none, D⟩ Try.prog 48 slices_Repeat_int_int_R4 K ρ w := by
  have e : slices_Repeat_int_int_R4 = .region (idOf slices_Repeat_int_int_R4) slices_Repeat_int_int_R4_ops true := by kernel_rfl
  have q : sxh Try.prog S slices_Repeat_int_int_R4_ops (K .normal) [(0, true), (1, true), (2, true), (3, true), (4, true), (5, true), (6, true), (7, false), (8, true), (9, true)] ρ { w with drawn := w.drawn + 1 } = slices_Repeat_int_int_R4_H S K ρ { w with drawn := w.drawn + 1 } := by kernel_rfl
  rw [e]
  exact W_held S [(0, true), (1, true), (2, true), (3, true), (4, true), (5, true), (6, true), (7, false), (8, true), (9, true)] (by kernel_rfl) (by kernel_rfl) (by kernel_rfl) (by kernel_rfl) hS (Eq.mpr q h)
noncomputable def slices_Repeat_int_int_F (a0 a1 : Value) (w : World) (R : Value → World → Prop) : Prop :=
  BK Try.prog .lss 3 (.tmp 9) (.const (Value.int .i64 0)) a1 (Value.int .i64 0) w fun x10 w => CondK x10 (VK Try.prog (Instr.makeInterface 9 (Value.string { data := #[99, 97, 110, 110, 111, 116, 32, 98, 101, 32, 110, 101, 103, 97, 116, 105, 118, 101] })) w fun x11 w => VK Try.prog (Instr.panic x11) w fun _ w => sx fn_ Try.prog 48 slices_Repeat_int_int_R0 (retK Try.prog [ResultVar.tmp 4] R) (up (up (up (up (rho0 [a0, a1]) 4 (Value.slice none 0 0)) 9 a1) 10 x10) 11 x11) w) (sx fn_ Try.prog 48 slices_Repeat_int_int_R0 (retK Try.prog [ResultVar.tmp 4] R) (up (up (up (rho0 [a0, a1]) 4 (Value.slice none 0 0)) 9 a1) 10 x10) w)
theorem slices_Repeat_int_int_eq (a0 a1 : Value) (w : World) (R : Value → World → Prop) : sx fn_ Try.prog 48 slices_Repeat_int_int_b (retK Try.prog Try.f33.results.toList R) (rho0 [a0, a1]) w = slices_Repeat_int_int_F a0 a1 w R := by kernel_rfl
theorem slices_Repeat_int_int_calls {a0 a1 : Value} {w : World} {R : Value → World → Prop} (h : slices_Repeat_int_int_F a0 a1 w R) : Calls Try.prog 33 #[a0, a1] w fun e w' => ∃ v, e = .returned v ∧ R v w' :=
  Go.X.calls_of_sx (n := 48) (c := slices_Repeat_int_int_b) Try.func33 (by kernel_rfl) (by kernel_rfl) (Nat.le_of_ble_eq_true rfl) (by kernel_rfl) (Eq.mpr (slices_Repeat_int_int_eq a0 a1 w R) h)
noncomputable def code_Program_takes_b : Code := (Try.f34.body).getD .skip
noncomputable def code_Program_takes_R0 : Code := cAt [1, 1, 0, 1, 0, 1, 1, 1, 1, 1, 1, 1, 1, 1, 1, 1, 1, 0, 1] code_Program_takes_b
noncomputable def code_Program_takes_R1 : Code := cAt [1, 1, 0, 1, 0, 1, 1, 1, 1, 1, 1, 1, 1, 1, 1, 1, 1, 1] code_Program_takes_b
noncomputable def code_Program_takes_R2 : Code := cAt [1, 1, 1] code_Program_takes_b
noncomputable def code_Program_takes_R3 : Code := cAt [1, 1, 0, 1, 0, 1, 1, 1, 1, 1, 1, 1, 1, 1, 1, 1, 1, 1, 1, 1] code_Program_takes_b
noncomputable def code_Program_takes_R4 : Code := cAt [1, 1, 1, 0] code_Program_takes_b
noncomputable def code_Program_takes_R5 : Code := cAt [1, 1, 1, 1] code_Program_takes_b
noncomputable def code_Program_takes_R6 : Code := cAt [1, 1, 0, 1, 0, 1, 1, 1, 1, 1, 1, 1, 1, 1, 1, 1, 1, 1, 1, 1, 1, 1, 1, 1, 1, 1] code_Program_takes_b
noncomputable def code_Program_takes_R0_F (z : At) (K : Exit → Sl → World → Prop) (ρ : Sl) (w : World) : Prop :=
  CondK (ρ 50) (K .normal ρ w) (BK Try.prog .eql 5 (.tmp 12) (.const (Value.int .u8 8)) (ρ 12) (Value.int .u8 8) w fun x52 w => CondK x52 (K .normal (up (up ρ 52 x52) 50 x52) w) (BK Try.prog .eql 5 (.tmp 12) (.const (Value.int .u8 9)) (ρ 12) (Value.int .u8 9) w fun x53 w => CondK x53 (K .normal (up (up (up (up ρ 52 x52) 50 x52) 53 x53) 50 x53) w) (BK Try.prog .eql 5 (.tmp 12) (.const (Value.int .u8 21)) (ρ 12) (Value.int .u8 21) w fun x54 w => K .normal (up (up (up (up (up (up ρ 52 x52) 50 x52) 53 x53) 50 x53) 54 x54) 50 x54) w)))
theorem code_Program_takes_R0_eq (z : At) (K : Exit → Sl → World → Prop) (ρ : Sl) (w : World) : sx z Try.prog 102 code_Program_takes_R0 K ρ w = code_Program_takes_R0_F z K ρ w := by kernel_rfl
noncomputable def code_Program_takes_R1_F (z : At) (K : Exit → Sl → World → Prop) (ρ : Sl) (w : World) : Prop :=
  CondK (ρ 50) (K .ret (up (up (up (up ρ 55 (ρ 6)) 4 (Value.int .i64 1)) 5 (Value.int .i64 1)) 6 (ρ 6)) w) (BK Try.prog .eql 5 (.tmp 12) (.const (Value.int .u8 25)) (ρ 12) (Value.int .u8 25) w fun x57 w => CondK x57 (sx z Try.prog 102 code_Program_takes_R3 K (up (up ρ 57 x57) 56 x57) w) (BK Try.prog .eql 5 (.tmp 12) (.const (Value.int .u8 27)) (ρ 12) (Value.int .u8 27) w fun x58 w => sx z Try.prog 102 code_Program_takes_R3 K (up (up (up (up ρ 57 x57) 56 x57) 58 x58) 56 x58) w))
theorem code_Program_takes_R1_eq (z : At) (K : Exit → Sl → World → Prop) (ρ : Sl) (w : World) : sx z Try.prog 102 code_Program_takes_R1 K ρ w = code_Program_takes_R1_F z K ρ w := by kernel_rfl
noncomputable def code_Program_takes_R2_F (z : At) (K : Exit → Sl → World → Prop) (ρ : Sl) (w : World) : Prop :=
  W z Try.prog 102 code_Program_takes_R4 (seqK (sx z Try.prog 102 code_Program_takes_R5 K) K) ρ w
theorem code_Program_takes_R2_eq (z : At) (K : Exit → Sl → World → Prop) (ρ : Sl) (w : World) : sx z Try.prog 102 code_Program_takes_R2 K ρ w = code_Program_takes_R2_F z K ρ w := by kernel_rfl
noncomputable def code_Program_takes_R3_F (z : At) (K : Exit → Sl → World → Prop) (ρ : Sl) (w : World) : Prop :=
  CondK (ρ 56) (K .ret (up (up (up (up ρ 59 (ρ 6)) 4 (Value.int .i64 1)) 5 (Value.int .i64 0)) 6 (ρ 6)) w) (BK Try.prog .eql 5 (.tmp 12) (.const (Value.int .u8 26)) (ρ 12) (Value.int .u8 26) w fun x61 w => CondK x61 (K .ret (up (up (up (up (up (up ρ 61 x61) 60 x61) 62 (ρ 6)) 4 (Value.int .i64 1)) 5 (Value.int .i64 2)) 6 (ρ 6)) w) (BK Try.prog .eql 5 (.tmp 12) (.const (Value.int .u8 22)) (ρ 12) (Value.int .u8 22) w fun x64 w => CondK x64 (VK Try.prog (Instr.fieldAt 30 (ρ 3) 1) w fun x65 w => VK Try.prog (Instr.loadAt 2 x65) w fun x66 w => VK Try.prog (Instr.fieldAt 28 (ρ 2) 0) w fun x67 w => VK Try.prog (Instr.loadAt 25 x67) w fun x68 w => IK Try.prog .len #[25] 3 [false] [x68] w fun x69 w => CK Try.prog (Value.func (Fn.func 51) #[] #[]) [x66, x69] w fun x70 w => K .ret (up (up (up (up (up (up (up (up (up (up (up (up (up ρ 61 x61) 60 x61) 64 x64) 63 x64) 65 x65) 66 x66) 67 x67) 68 x68) 69 x69) 70 x70) 4 (Value.int .i64 0)) 5 (Value.int .i64 0)) 6 x70) w) (BK Try.prog .eql 5 (.tmp 12) (.const (Value.int .u8 23)) (ρ 12) (Value.int .u8 23) w fun x72 w => CondK x72 (sx z Try.prog 102 code_Program_takes_R6 K (up (up (up (up (up (up ρ 61 x61) 60 x61) 64 x64) 63 x64) 72 x72) 71 x72) w) (BK Try.prog .eql 5 (.tmp 12) (.const (Value.int .u8 24)) (ρ 12) (Value.int .u8 24) w fun x73 w => sx z Try.prog 102 code_Program_takes_R6 K (up (up (up (up (up (up (up (up ρ 61 x61) 60 x61) 64 x64) 63 x64) 72 x72) 71 x72) 73 x73) 71 x73) w))))
theorem code_Program_takes_R3_eq (z : At) (K : Exit → Sl → World → Prop) (ρ : Sl) (w : World) : sx z Try.prog 102 code_Program_takes_R3 K ρ w = code_Program_takes_R3_F z K ρ w := by kernel_rfl
noncomputable def code_Program_takes_R4_ops : Array Oper := opsOf code_Program_takes_R4
def code_Program_takes_R4_Q (C : World → Prop) (K : Exit → Sl → World → Prop) (ρ : Sl) : Prop :=
  QG Try.prog C (ρ 6) true  (do pure (Next.value (← Instr.fieldAt 30 (ρ 3) 0))) fun x93 => QG Try.prog C (ρ 6) true  (do pure (Next.value (← Instr.loadAt 5 x93))) fun x94 => QG Try.prog C (ρ 6) true  (do pure (Next.value (← (do eqGuard BinOp.geq 5 (Operand.tmp 94) (Operand.const (Value.int IntKind.u8 10)) x94 (Value.int IntKind.u8 10); binOp BinOp.geq 5 x94 (Value.int IntKind.u8 10))))) fun x95 => QK Try.prog C (do pure (Next.value (if ← asBool (ρ 6) then x95 else (Value.bool false)))) fun x96 => QG Try.prog C x96 true  (do pure (Next.value (← Instr.fieldAt 30 (ρ 3) 0))) fun x98 => QG Try.prog C x96 true  (do pure (Next.value (← Instr.loadAt 5 x98))) fun x99 => QG Try.prog C x96 true  (do pure (Next.value (← (do eqGuard BinOp.leq 5 (Operand.tmp 99) (Operand.const (Value.int IntKind.u8 20)) x99 (Value.int IntKind.u8 20); binOp BinOp.leq 5 x99 (Value.int IntKind.u8 20))))) fun x100 => QK Try.prog C (do pure (Next.value (if ← asBool x96 then x100 else (Value.bool false)))) fun x101 => ∀ w', C w' → K Exit.normal (up (up (up (up (up (up (up (up (up (up (up (up (up (up ρ 91 (ρ 6)) 92 (ρ 6)) 93 x93) 94 x94) 95 x95) 96 x96) 97 x96) 98 x98) 99 x99) 100 x100) 101 x101) 4 (Value.int IntKind.i64 2)) 5 (Value.int IntKind.i64 1)) 6 x101) w'
theorem code_Program_takes_R4_quiet {D : List Deferred} (C : World → Prop) {K : Exit → Sl → World → Prop} {ρ : Sl} {w : World} (hC : C { w with drawn := w.drawn + 1 }) (h : code_Program_takes_R4_Q C K ρ) : W ⟨none, D⟩ Try.prog 102 code_Program_takes_R4 K ρ w := by
  have e : code_Program_takes_R4 = .region (idOf code_Program_takes_R4) code_Program_takes_R4_ops true := by kernel_rfl
  have q : sxq Try.prog C code_Program_takes_R4_ops (fun ρ' => ∀ w', C w' → K .normal ρ' w') code_Program_takes_R4_ops.toList ρ = code_Program_takes_R4_Q C K ρ := by kernel_rfl
  rw [e]
  exact W_quiet C (by kernel_rfl) (by kernel_rfl) (by kernel_rfl) hC (Eq.mpr q h)
noncomputable def code_Program_takes_R5_F (z : At) (K : Exit → Sl → World → Prop) (ρ : Sl) (w : World) : Prop :=
  K .ret ρ w
theorem code_Program_takes_R5_eq (z : At) (K : Exit → Sl → World → Prop) (ρ : Sl) (w : World) : sx z Try.prog 102 code_Program_takes_R5 K ρ w = code_Program_takes_R5_F z K ρ w := by kernel_rfl
noncomputable def code_Program_takes_R6_F (z : At) (K : Exit → Sl → World → Prop) (ρ : Sl) (w : World) : Prop :=
  CondK (ρ 71) (VK Try.prog (Instr.fieldAt 30 (ρ 3) 1) w fun x74 w => VK Try.prog (Instr.loadAt 2 x74) w fun x75 w => VK Try.prog (Instr.fieldAt 28 (ρ 2) 0) w fun x76 w => VK Try.prog (Instr.loadAt 25 x76) w fun x77 w => IK Try.prog .len #[25] 3 [false] [x77] w fun x78 w => CK Try.prog (Value.func (Fn.func 51) #[] #[]) [x75, x78] w fun x79 w => K .ret (up (up (up (up (up (up (up (up (up ρ 74 x74) 75 x75) 76 x76) 77 x77) 78 x78) 79 x79) 4 (Value.int .i64 1)) 5 (Value.int .i64 0)) 6 x79) w) (BK Try.prog .eql 5 (.tmp 12) (.const (Value.int .u8 28)) (ρ 12) (Value.int .u8 28) w fun x81 w => CondK x81 (VK Try.prog (Instr.fieldAt 30 (ρ 3) 1) w fun x82 w => VK Try.prog (Instr.loadAt 2 x82) w fun x83 w => CK Try.prog (Value.func (Fn.func 52) #[] #[]) [x83] w fun x84 w => BK Try.prog .geq 3 (.tmp 86) (.const (Value.int .i64 0)) x84 (Value.int .i64 0) w fun x87 w => K .ret (up (up (up (up (up (up (up (up (up (up (up (up ρ 81 x81) 80 x81) 82 x82) 83 x83) 84 x84) 7 x84) 85 x84) 86 x84) 87 x87) 4 x84) 5 (Value.int .i64 0)) 6 x87) w) (BK Try.prog .eql 5 (.tmp 12) (.const (Value.int .u8 29)) (ρ 12) (Value.int .u8 29) w fun x89 w => CondK x89 (K .ret (up (up (up (up (up (up (up (up ρ 81 x81) 80 x81) 89 x89) 88 x89) 90 (ρ 6)) 4 (Value.int .i64 0)) 5 (Value.int .i64 0)) 6 (ρ 6)) w) (K .normal (up (up (up (up ρ 81 x81) 80 x81) 89 x89) 88 x89) w)))
theorem code_Program_takes_R6_eq (z : At) (K : Exit → Sl → World → Prop) (ρ : Sl) (w : World) : sx z Try.prog 102 code_Program_takes_R6 K ρ w = code_Program_takes_R6_F z K ρ w := by kernel_rfl
noncomputable def code_Program_takes_F (a0 a1 : Value) (w : World) (R : Value → World → Prop) : Prop :=
  VK Try.prog (Instr.box 28 a0) w fun x2 w => VK Try.prog (Instr.box 30 a1) w fun x3 w => VK Try.prog (Instr.fieldAt 30 x3 1) w fun x8 w => VK Try.prog (Instr.loadAt 2 x8) w fun x9 w => BK Try.prog .eql 2 (.tmp 9) (.const (Value.int .i64 0)) x9 (Value.int .i64 0) w fun x10 w => VK Try.prog (Instr.fieldAt 30 x3 0) w fun x11 w => VK Try.prog (Instr.loadAt 5 x11) w fun x12 w => BK Try.prog .eql 5 (.tmp 12) (.const (Value.int .u8 1)) x12 (Value.int .u8 1) w fun x14 w => CondK x14 (R (Value.tuple #[(Value.int .i64 0), (Value.int .i64 1), (Value.bool true)]) w) (BK Try.prog .eql 5 (.tmp 12) (.const (Value.int .u8 2)) x12 (Value.int .u8 2) w fun x16 w => CondK x16 (VK Try.prog (Instr.fieldAt 30 x3 1) w fun x17 w => VK Try.prog (Instr.loadAt 2 x17) w fun x18 w => VK Try.prog (Instr.fieldAt 28 x2 1) w fun x19 w => VK Try.prog (Instr.loadAt 3 x19) w fun x20 w => CK Try.prog (Value.func (Fn.func 51) #[] #[]) [x18, x20] w fun x21 w => R (Value.tuple #[(Value.int .i64 0), (Value.int .i64 1), x21]) w) (BK Try.prog .eql 5 (.tmp 12) (.const (Value.int .u8 3)) x12 (Value.int .u8 3) w fun x23 w => CondK x23 (VK Try.prog (Instr.fieldAt 30 x3 1) w fun x24 w => VK Try.prog (Instr.loadAt 2 x24) w fun x25 w => VK Try.prog (Instr.fieldAt 28 x2 1) w fun x26 w => VK Try.prog (Instr.loadAt 3 x26) w fun x27 w => CK Try.prog (Value.func (Fn.func 51) #[] #[]) [x25, x27] w fun x28 w => R (Value.tuple #[(Value.int .i64 1), (Value.int .i64 0), x28]) w) (BK Try.prog .eql 5 (.tmp 12) (.const (Value.int .u8 4)) x12 (Value.int .u8 4) w fun x30 w => CondK x30 (VK Try.prog (Instr.fieldAt 30 x3 1) w fun x31 w => VK Try.prog (Instr.loadAt 2 x31) w fun x32 w => VK Try.prog (Instr.fieldAt 28 x2 2) w fun x33 w => VK Try.prog (Instr.loadAt 26 x33) w fun x34 w => IK Try.prog .len #[26] 3 [false] [x34] w fun x35 w => CK Try.prog (Value.func (Fn.func 51) #[] #[]) [x32, x35] w fun x36 w => R (Value.tuple #[(Value.int .i64 1), (Value.int .i64 1), x36]) w) (BK Try.prog .eql 5 (.tmp 12) (.const (Value.int .u8 5)) x12 (Value.int .u8 5) w fun x38 w => CondK x38 (VK Try.prog (Instr.fieldAt 30 x3 1) w fun x39 w => VK Try.prog (Instr.loadAt 2 x39) w fun x40 w => VK Try.prog (Instr.fieldAt 28 x2 2) w fun x41 w => VK Try.prog (Instr.loadAt 26 x41) w fun x42 w => IK Try.prog .len #[26] 3 [false] [x42] w fun x43 w => CK Try.prog (Value.func (Fn.func 51) #[] #[]) [x40, x43] w fun x44 w => R (Value.tuple #[(Value.int .i64 2), (Value.int .i64 0), x44]) w) (BK Try.prog .eql 5 (.tmp 12) (.const (Value.int .u8 7)) x12 (Value.int .u8 7) w fun x46 w => CondK x46 (VK Try.prog (Instr.fieldAt 30 x3 1) w fun x47 w => VK Try.prog (Instr.loadAt 2 x47) w fun x48 w => CK Try.prog (Value.func (Fn.func 51) #[] #[]) [x48, (Value.int .i64 10)] w fun x49 w => R (Value.tuple #[(Value.int .i64 0), (Value.int .i64 1), x49]) w) (BK Try.prog .eql 5 (.tmp 12) (.const (Value.int .u8 6)) x12 (Value.int .u8 6) w fun x51 w => sx fn_ Try.prog 102 code_Program_takes_R0 (seqK (sx fn_ Try.prog 102 code_Program_takes_R1 (blkK 0 (seqK (sx fn_ Try.prog 102 code_Program_takes_R2 (retK Try.prog [ResultVar.tmp 4, ResultVar.tmp 5, ResultVar.tmp 6] R)) (retK Try.prog [ResultVar.tmp 4, ResultVar.tmp 5, ResultVar.tmp 6] R)))) (blkK 0 (seqK (sx fn_ Try.prog 102 code_Program_takes_R2 (retK Try.prog [ResultVar.tmp 4, ResultVar.tmp 5, ResultVar.tmp 6] R)) (retK Try.prog [ResultVar.tmp 4, ResultVar.tmp 5, ResultVar.tmp 6] R)))) (up (up (up (up (up (up (up (up (up (up (up (up (up (up (up (up (up (up (up (up (up (up (up (up (up (rho0 [a0, a1]) 2 x2) 3 x3) 4 (Value.int .i64 0)) 5 (Value.int .i64 0)) 6 (Value.bool false)) 8 x8) 9 x9) 10 x10) 6 x10) 11 x11) 12 x12) 14 x14) 13 x14) 16 x16) 15 x16) 23 x23) 22 x23) 30 x30) 29 x30) 38 x38) 37 x38) 46 x46) 45 x46) 51 x51) 50 x51) w))))))
theorem code_Program_takes_eq (a0 a1 : Value) (w : World) (R : Value → World → Prop) : sx fn_ Try.prog 102 code_Program_takes_b (retK Try.prog Try.f34.results.toList R) (rho0 [a0, a1]) w = code_Program_takes_F a0 a1 w R := by kernel_rfl
theorem code_Program_takes_calls {a0 a1 : Value} {w : World} {R : Value → World → Prop} (h : code_Program_takes_F a0 a1 w R) : Calls Try.prog 34 #[a0, a1] w fun e w' => ∃ v, e = .returned v ∧ R v w' :=
  Go.X.calls_of_sx (n := 102) (c := code_Program_takes_b) Try.func34 (by kernel_rfl) (by kernel_rfl) (Nat.le_of_ble_eq_true rfl) (by kernel_rfl) (Eq.mpr (code_Program_takes_eq a0 a1 w R) h)
noncomputable def code_ways_b : Code := (Try.f35.body).getD .skip
noncomputable def code_ways_R0 : Code := cAt [1, 0, 1, 0, 1, 1, 1, 1, 1] code_ways_b
noncomputable def code_ways_R1 : Code := cAt [1, 1] code_ways_b
noncomputable def code_ways_R0_F (z : At) (K : Exit → Sl → World → Prop) (ρ : Sl) (w : World) : Prop :=
  CondK (ρ 14) (BK Try.prog .add 3 (.tmp 17) (.const (Value.int .i64 1)) (ρ 0) (Value.int .i64 1) w fun x18 w => VK Try.prog (Instr.fieldAt 30 (ρ 3) 1) w fun x19 w => VK Try.prog (Instr.loadAt 2 x19) w fun x20 w => VK Try.prog (Instr.buildSlice 26 2 [(0, x18), (1, x20)].toArray) w fun x21 w => K .ret (up (up (up (up (up (up ρ 17 (ρ 0)) 18 x18) 19 x19) 20 x20) 21 x21) 4 x21) w) (K .normal ρ w)
theorem code_ways_R0_eq (z : At) (K : Exit → Sl → World → Prop) (ρ : Sl) (w : World) : sx z Try.prog 25 code_ways_R0 K ρ w = code_ways_R0_F z K ρ w := by kernel_rfl
noncomputable def code_ways_R1_F (z : At) (K : Exit → Sl → World → Prop) (ρ : Sl) (w : World) : Prop :=
  BK Try.prog .add 3 (.tmp 22) (.const (Value.int .i64 1)) (ρ 0) (Value.int .i64 1) w fun x23 w => VK Try.prog (Instr.buildSlice 26 1 [(0, x23)].toArray) w fun x24 w => K .ret (up (up (up (up ρ 22 (ρ 0)) 23 x23) 24 x24) 4 x24) w
theorem code_ways_R1_eq (z : At) (K : Exit → Sl → World → Prop) (ρ : Sl) (w : World) : sx z Try.prog 25 code_ways_R1 K ρ w = code_ways_R1_F z K ρ w := by kernel_rfl
noncomputable def code_ways_F (a0 a1 : Value) (w : World) (R : Value → World → Prop) : Prop :=
  VK Try.prog (Instr.box 30 a1) w fun x3 w => VK Try.prog (Instr.fieldAt 30 x3 0) w fun x5 w => VK Try.prog (Instr.loadAt 5 x5) w fun x6 w => BK Try.prog .eql 5 (.tmp 6) (.const (Value.int .u8 29)) x6 (Value.int .u8 29) w fun x8 w => CondK x8 (R (Value.slice none 0 0) w) (BK Try.prog .eql 5 (.tmp 6) (.const (Value.int .u8 22)) x6 (Value.int .u8 22) w fun x10 w => CondK x10 (VK Try.prog (Instr.fieldAt 30 x3 1) w fun x11 w => VK Try.prog (Instr.loadAt 2 x11) w fun x12 w => VK Try.prog (Instr.buildSlice 26 1 [(0, x12)].toArray) w fun x13 w => R x13 w) (BK Try.prog .eql 5 (.tmp 6) (.const (Value.int .u8 23)) x6 (Value.int .u8 23) w fun x15 w => CondK x15 (sx fn_ Try.prog 25 code_ways_R0 (blkK 0 (seqK (sx fn_ Try.prog 25 code_ways_R1 (retK Try.prog [ResultVar.tmp 4] R)) (retK Try.prog [ResultVar.tmp 4] R))) (up (up (up (up (up (up (up (up (up (up (rho0 [a0, a1]) 3 x3) 4 (Value.slice none 0 0)) 5 x5) 6 x6) 8 x8) 7 x8) 10 x10) 9 x10) 15 x15) 14 x15) w) (BK Try.prog .eql 5 (.tmp 6) (.const (Value.int .u8 24)) x6 (Value.int .u8 24) w fun x16 w => sx fn_ Try.prog 25 code_ways_R0 (blkK 0 (seqK (sx fn_ Try.prog 25 code_ways_R1 (retK Try.prog [ResultVar.tmp 4] R)) (retK Try.prog [ResultVar.tmp 4] R))) (up (up (up (up (up (up (up (up (up (up (up (up (rho0 [a0, a1]) 3 x3) 4 (Value.slice none 0 0)) 5 x5) 6 x6) 8 x8) 7 x8) 10 x10) 9 x10) 15 x15) 14 x15) 16 x16) 14 x16) w)))
theorem code_ways_eq (a0 a1 : Value) (w : World) (R : Value → World → Prop) : sx fn_ Try.prog 25 code_ways_b (retK Try.prog Try.f35.results.toList R) (rho0 [a0, a1]) w = code_ways_F a0 a1 w R := by kernel_rfl
theorem code_ways_calls {a0 a1 : Value} {w : World} {R : Value → World → Prop} (h : code_ways_F a0 a1 w R) : Calls Try.prog 35 #[a0, a1] w fun e w' => ∃ v, e = .returned v ∧ R v w' :=
  Go.X.calls_of_sx (n := 25) (c := code_ways_b) Try.func35 (by kernel_rfl) (by kernel_rfl) (Nat.le_of_ble_eq_true rfl) (by kernel_rfl) (Eq.mpr (code_ways_eq a0 a1 w R) h)
noncomputable def vm_two_1_b : Code := (Try.f37.body).getD .skip
noncomputable def vm_two_1_F (a0 a1 : Value) (w : World) (R : Value → World → Prop) : Prop :=
  BK Try.prog .mul 2 (.tmp 5) (.tmp 6) a0 a1 w fun x7 w => R x7 w
theorem vm_two_1_eq (a0 a1 : Value) (w : World) (R : Value → World → Prop) : sx fn_ Try.prog 8 vm_two_1_b (retK Try.prog Try.f37.results.toList R) (rho0 [a0, a1]) w = vm_two_1_F a0 a1 w R := by kernel_rfl
theorem vm_two_1_calls {a0 a1 : Value} {w : World} {R : Value → World → Prop} (h : vm_two_1_F a0 a1 w R) : Calls Try.prog 37 #[a0, a1] w fun e w' => ∃ v, e = .returned v ∧ R v w' :=
  Go.X.calls_of_sx (n := 8) (c := vm_two_1_b) Try.func37 (by kernel_rfl) (by kernel_rfl) (Nat.le_of_ble_eq_true rfl) (by kernel_rfl) (Eq.mpr (vm_two_1_eq a0 a1 w R) h)
noncomputable def vm_two_2_b : Code := (Try.f38.body).getD .skip
noncomputable def vm_two_2_F (a0 a1 : Value) (w : World) (R : Value → World → Prop) : Prop :=
  BK Try.prog .eql 2 (.tmp 5) (.const (Value.int .i64 (-9223372036854775808))) a0 (Value.int .i64 (-9223372036854775808)) w fun x6 w => MG Try.prog x6 true a1 w fun x8 w => BG Try.prog x6 true .eql 2 (.tmp 8) (.const (Value.int .i64 (-1))) x8 (Value.int .i64 (-1)) w fun x9 w => PK Try.prog x6 x9 (Value.bool false) w fun x10 w => CondK x10 (R a0 w) (BK Try.prog .quo 2 (.tmp 12) (.tmp 13) a0 a1 w fun x14 w => R x14 w)
theorem vm_two_2_eq (a0 a1 : Value) (w : World) (R : Value → World → Prop) : sx fn_ Try.prog 15 vm_two_2_b (retK Try.prog Try.f38.results.toList R) (rho0 [a0, a1]) w = vm_two_2_F a0 a1 w R := by kernel_rfl
theorem vm_two_2_calls {a0 a1 : Value} {w : World} {R : Value → World → Prop} (h : vm_two_2_F a0 a1 w R) : Calls Try.prog 38 #[a0, a1] w fun e w' => ∃ v, e = .returned v ∧ R v w' :=
  Go.X.calls_of_sx (n := 15) (c := vm_two_2_b) Try.func38 (by kernel_rfl) (by kernel_rfl) (Nat.le_of_ble_eq_true rfl) (by kernel_rfl) (Eq.mpr (vm_two_2_eq a0 a1 w R) h)
noncomputable def vm_two_3_b : Code := (Try.f39.body).getD .skip
noncomputable def vm_two_3_F (a0 a1 : Value) (w : World) (R : Value → World → Prop) : Prop :=
  BK Try.prog .eql 2 (.tmp 5) (.const (Value.int .i64 (-1))) a1 (Value.int .i64 (-1)) w fun x6 w => CondK x6 (R (Value.int .i64 0) w) (BK Try.prog .rem 2 (.tmp 7) (.tmp 8) a0 a1 w fun x9 w => R x9 w)
theorem vm_two_3_eq (a0 a1 : Value) (w : World) (R : Value → World → Prop) : sx fn_ Try.prog 10 vm_two_3_b (retK Try.prog Try.f39.results.toList R) (rho0 [a0, a1]) w = vm_two_3_F a0 a1 w R := by kernel_rfl
theorem vm_two_3_calls {a0 a1 : Value} {w : World} {R : Value → World → Prop} (h : vm_two_3_F a0 a1 w R) : Calls Try.prog 39 #[a0, a1] w fun e w' => ∃ v, e = .returned v ∧ R v w' :=
  Go.X.calls_of_sx (n := 10) (c := vm_two_3_b) Try.func39 (by kernel_rfl) (by kernel_rfl) (Nat.le_of_ble_eq_true rfl) (by kernel_rfl) (Eq.mpr (vm_two_3_eq a0 a1 w R) h)
noncomputable def vm_two_4_b : Code := (Try.f40.body).getD .skip
noncomputable def vm_two_4_F (a0 a1 : Value) (w : World) (R : Value → World → Prop) : Prop :=
  BK Try.prog .add 2 (.tmp 5) (.tmp 6) a0 a1 w fun x7 w => R x7 w
theorem vm_two_4_eq (a0 a1 : Value) (w : World) (R : Value → World → Prop) : sx fn_ Try.prog 8 vm_two_4_b (retK Try.prog Try.f40.results.toList R) (rho0 [a0, a1]) w = vm_two_4_F a0 a1 w R := by kernel_rfl
theorem vm_two_4_calls {a0 a1 : Value} {w : World} {R : Value → World → Prop} (h : vm_two_4_F a0 a1 w R) : Calls Try.prog 40 #[a0, a1] w fun e w' => ∃ v, e = .returned v ∧ R v w' :=
  Go.X.calls_of_sx (n := 8) (c := vm_two_4_b) Try.func40 (by kernel_rfl) (by kernel_rfl) (Nat.le_of_ble_eq_true rfl) (by kernel_rfl) (Eq.mpr (vm_two_4_eq a0 a1 w R) h)
noncomputable def vm_two_5_b : Code := (Try.f41.body).getD .skip
noncomputable def vm_two_5_F (a0 a1 : Value) (w : World) (R : Value → World → Prop) : Prop :=
  BK Try.prog .sub 2 (.tmp 5) (.tmp 6) a0 a1 w fun x7 w => R x7 w
theorem vm_two_5_eq (a0 a1 : Value) (w : World) (R : Value → World → Prop) : sx fn_ Try.prog 8 vm_two_5_b (retK Try.prog Try.f41.results.toList R) (rho0 [a0, a1]) w = vm_two_5_F a0 a1 w R := by kernel_rfl
theorem vm_two_5_calls {a0 a1 : Value} {w : World} {R : Value → World → Prop} (h : vm_two_5_F a0 a1 w R) : Calls Try.prog 41 #[a0, a1] w fun e w' => ∃ v, e = .returned v ∧ R v w' :=
  Go.X.calls_of_sx (n := 8) (c := vm_two_5_b) Try.func41 (by kernel_rfl) (by kernel_rfl) (Nat.le_of_ble_eq_true rfl) (by kernel_rfl) (Eq.mpr (vm_two_5_eq a0 a1 w R) h)
noncomputable def vm_two_6_b : Code := (Try.f42.body).getD .skip
noncomputable def vm_two_6_F (a0 a1 : Value) (w : World) (R : Value → World → Prop) : Prop :=
  BK Try.prog .lss 2 (.tmp 5) (.tmp 6) a0 a1 w fun x7 w => CK Try.prog (Value.func (Fn.func 29) #[] #[]) [x7] w fun x8 w => R x8 w
theorem vm_two_6_eq (a0 a1 : Value) (w : World) (R : Value → World → Prop) : sx fn_ Try.prog 9 vm_two_6_b (retK Try.prog Try.f42.results.toList R) (rho0 [a0, a1]) w = vm_two_6_F a0 a1 w R := by kernel_rfl
theorem vm_two_6_calls {a0 a1 : Value} {w : World} {R : Value → World → Prop} (h : vm_two_6_F a0 a1 w R) : Calls Try.prog 42 #[a0, a1] w fun e w' => ∃ v, e = .returned v ∧ R v w' :=
  Go.X.calls_of_sx (n := 9) (c := vm_two_6_b) Try.func42 (by kernel_rfl) (by kernel_rfl) (Nat.le_of_ble_eq_true rfl) (by kernel_rfl) (Eq.mpr (vm_two_6_eq a0 a1 w R) h)
noncomputable def vm_two_7_b : Code := (Try.f43.body).getD .skip
noncomputable def vm_two_7_F (a0 a1 : Value) (w : World) (R : Value → World → Prop) : Prop :=
  BK Try.prog .leq 2 (.tmp 5) (.tmp 6) a0 a1 w fun x7 w => CK Try.prog (Value.func (Fn.func 29) #[] #[]) [x7] w fun x8 w => R x8 w
theorem vm_two_7_eq (a0 a1 : Value) (w : World) (R : Value → World → Prop) : sx fn_ Try.prog 9 vm_two_7_b (retK Try.prog Try.f43.results.toList R) (rho0 [a0, a1]) w = vm_two_7_F a0 a1 w R := by kernel_rfl
theorem vm_two_7_calls {a0 a1 : Value} {w : World} {R : Value → World → Prop} (h : vm_two_7_F a0 a1 w R) : Calls Try.prog 43 #[a0, a1] w fun e w' => ∃ v, e = .returned v ∧ R v w' :=
  Go.X.calls_of_sx (n := 9) (c := vm_two_7_b) Try.func43 (by kernel_rfl) (by kernel_rfl) (Nat.le_of_ble_eq_true rfl) (by kernel_rfl) (Eq.mpr (vm_two_7_eq a0 a1 w R) h)
noncomputable def vm_two_8_b : Code := (Try.f44.body).getD .skip
noncomputable def vm_two_8_F (a0 a1 : Value) (w : World) (R : Value → World → Prop) : Prop :=
  BK Try.prog .gtr 2 (.tmp 5) (.tmp 6) a0 a1 w fun x7 w => CK Try.prog (Value.func (Fn.func 29) #[] #[]) [x7] w fun x8 w => R x8 w
theorem vm_two_8_eq (a0 a1 : Value) (w : World) (R : Value → World → Prop) : sx fn_ Try.prog 9 vm_two_8_b (retK Try.prog Try.f44.results.toList R) (rho0 [a0, a1]) w = vm_two_8_F a0 a1 w R := by kernel_rfl
theorem vm_two_8_calls {a0 a1 : Value} {w : World} {R : Value → World → Prop} (h : vm_two_8_F a0 a1 w R) : Calls Try.prog 44 #[a0, a1] w fun e w' => ∃ v, e = .returned v ∧ R v w' :=
  Go.X.calls_of_sx (n := 9) (c := vm_two_8_b) Try.func44 (by kernel_rfl) (by kernel_rfl) (Nat.le_of_ble_eq_true rfl) (by kernel_rfl) (Eq.mpr (vm_two_8_eq a0 a1 w R) h)
noncomputable def vm_two_9_b : Code := (Try.f45.body).getD .skip
noncomputable def vm_two_9_F (a0 a1 : Value) (w : World) (R : Value → World → Prop) : Prop :=
  BK Try.prog .geq 2 (.tmp 5) (.tmp 6) a0 a1 w fun x7 w => CK Try.prog (Value.func (Fn.func 29) #[] #[]) [x7] w fun x8 w => R x8 w
theorem vm_two_9_eq (a0 a1 : Value) (w : World) (R : Value → World → Prop) : sx fn_ Try.prog 9 vm_two_9_b (retK Try.prog Try.f45.results.toList R) (rho0 [a0, a1]) w = vm_two_9_F a0 a1 w R := by kernel_rfl
theorem vm_two_9_calls {a0 a1 : Value} {w : World} {R : Value → World → Prop} (h : vm_two_9_F a0 a1 w R) : Calls Try.prog 45 #[a0, a1] w fun e w' => ∃ v, e = .returned v ∧ R v w' :=
  Go.X.calls_of_sx (n := 9) (c := vm_two_9_b) Try.func45 (by kernel_rfl) (by kernel_rfl) (Nat.le_of_ble_eq_true rfl) (by kernel_rfl) (Eq.mpr (vm_two_9_eq a0 a1 w R) h)
noncomputable def vm_two_10_b : Code := (Try.f46.body).getD .skip
noncomputable def vm_two_10_F (a0 a1 : Value) (w : World) (R : Value → World → Prop) : Prop :=
  BK Try.prog .eql 2 (.tmp 5) (.tmp 6) a0 a1 w fun x7 w => CK Try.prog (Value.func (Fn.func 29) #[] #[]) [x7] w fun x8 w => R x8 w
theorem vm_two_10_eq (a0 a1 : Value) (w : World) (R : Value → World → Prop) : sx fn_ Try.prog 9 vm_two_10_b (retK Try.prog Try.f46.results.toList R) (rho0 [a0, a1]) w = vm_two_10_F a0 a1 w R := by kernel_rfl
theorem vm_two_10_calls {a0 a1 : Value} {w : World} {R : Value → World → Prop} (h : vm_two_10_F a0 a1 w R) : Calls Try.prog 46 #[a0, a1] w fun e w' => ∃ v, e = .returned v ∧ R v w' :=
  Go.X.calls_of_sx (n := 9) (c := vm_two_10_b) Try.func46 (by kernel_rfl) (by kernel_rfl) (Nat.le_of_ble_eq_true rfl) (by kernel_rfl) (Eq.mpr (vm_two_10_eq a0 a1 w R) h)
noncomputable def vm_two_11_b : Code := (Try.f47.body).getD .skip
noncomputable def vm_two_11_F (a0 a1 : Value) (w : World) (R : Value → World → Prop) : Prop :=
  BK Try.prog .neq 2 (.tmp 5) (.tmp 6) a0 a1 w fun x7 w => CK Try.prog (Value.func (Fn.func 29) #[] #[]) [x7] w fun x8 w => R x8 w
theorem vm_two_11_eq (a0 a1 : Value) (w : World) (R : Value → World → Prop) : sx fn_ Try.prog 9 vm_two_11_b (retK Try.prog Try.f47.results.toList R) (rho0 [a0, a1]) w = vm_two_11_F a0 a1 w R := by kernel_rfl
theorem vm_two_11_calls {a0 a1 : Value} {w : World} {R : Value → World → Prop} (h : vm_two_11_F a0 a1 w R) : Calls Try.prog 47 #[a0, a1] w fun e w' => ∃ v, e = .returned v ∧ R v w' :=
  Go.X.calls_of_sx (n := 9) (c := vm_two_11_b) Try.func47 (by kernel_rfl) (by kernel_rfl) (Nat.le_of_ble_eq_true rfl) (by kernel_rfl) (Eq.mpr (vm_two_11_eq a0 a1 w R) h)
noncomputable def code_Program_whole_1_b : Code := (Try.f48.body).getD .skip
noncomputable def code_Program_whole_1_F (a0 a1 : Value) (w : World) (R : Value → World → Prop) : Prop :=
  VK Try.prog (Instr.box 30 a0) w fun x2 w => VK Try.prog (Instr.loadAt 28 a1) w fun x8 w => VK Try.prog (Instr.loadAt 30 x2) w fun x9 w => CK Try.prog (Value.func (Fn.func 34) #[] #[]) [x8, x9] w fun x10 w => VK Try.prog (Instr.extract x10 0) w fun x11 w => VK Try.prog (Instr.extract x10 1) w fun x12 w => VK Try.prog (Instr.extract x10 2) w fun x13 w => VK Try.prog (Op.unary UnOp.not x13) w fun x15 w => R x15 w
theorem code_Program_whole_1_eq (a0 a1 : Value) (w : World) (R : Value → World → Prop) : sx fn_ Try.prog 16 code_Program_whole_1_b (retK Try.prog Try.f48.results.toList R) (rho0 [a0, a1]) w = code_Program_whole_1_F a0 a1 w R := by kernel_rfl
theorem code_Program_whole_1_calls {a0 a1 : Value} {w : World} {R : Value → World → Prop} (h : code_Program_whole_1_F a0 a1 w R) : Calls Try.prog 48 #[a0, a1] w fun e w' => ∃ v, e = .returned v ∧ R v w' :=
  Go.X.calls_of_sx (n := 16) (c := code_Program_whole_1_b) Try.func48 (by kernel_rfl) (by kernel_rfl) (Nat.le_of_ble_eq_true rfl) (by kernel_rfl) (Eq.mpr (code_Program_whole_1_eq a0 a1 w R) h)
noncomputable def slices_ContainsFunc_code_Instr_code_Instr_b : Code := (Try.f49.body).getD .skip
noncomputable def slices_ContainsFunc_code_Instr_code_Instr_F (a0 a1 : Value) (w : World) (R : Value → World → Prop) : Prop :=
  CK Try.prog (Value.func (Fn.func 53) #[] #[]) [a0, a1] w fun x7 w => BK Try.prog .geq 3 (.tmp 7) (.const (Value.int .i64 0)) x7 (Value.int .i64 0) w fun x8 w => R x8 w
theorem slices_ContainsFunc_code_Instr_code_Instr_eq (a0 a1 : Value) (w : World) (R : Value → World → Prop) : sx fn_ Try.prog 9 slices_ContainsFunc_code_Instr_code_Instr_b (retK Try.prog Try.f49.results.toList R) (rho0 [a0, a1]) w = slices_ContainsFunc_code_Instr_code_Instr_F a0 a1 w R := by kernel_rfl
theorem slices_ContainsFunc_code_Instr_code_Instr_calls {a0 a1 : Value} {w : World} {R : Value → World → Prop} (h : slices_ContainsFunc_code_Instr_code_Instr_F a0 a1 w R) : Calls Try.prog 49 #[a0, a1] w fun e w' => ∃ v, e = .returned v ∧ R v w' :=
  Go.X.calls_of_sx (n := 9) (c := slices_ContainsFunc_code_Instr_code_Instr_b) Try.func49 (by kernel_rfl) (by kernel_rfl) (Nat.le_of_ble_eq_true rfl) (by kernel_rfl) (Eq.mpr (slices_ContainsFunc_code_Instr_code_Instr_eq a0 a1 w R) h)
noncomputable def math_bits_Mul_b : Code := (Try.f50.body).getD .skip
noncomputable def math_bits_Mul_F (a0 a1 : Value) (w : World) (R : Value → World → Prop) : Prop :=
  CondK (Value.bool false) (VK Try.prog (convert 83 89 a0) w fun x12 w => VK Try.prog (convert 83 89 a1) w fun x14 w => CK Try.prog (Value.func (Fn.func 54) #[] #[]) [x12, x14] w fun x15 w => VK Try.prog (Instr.extract x15 0) w fun x16 w => VK Try.prog (Instr.extract x15 1) w fun x17 w => VK Try.prog (convert 89 83 x16) w fun x19 w => VK Try.prog (convert 89 83 x17) w fun x21 w => R (Value.tuple #[x19, x21]) w) (CK Try.prog (Value.func (Fn.func 55) #[] #[]) [a0, a1] w fun x25 w => VK Try.prog (Instr.extract x25 0) w fun x26 w => VK Try.prog (Instr.extract x25 1) w fun x27 w => R (Value.tuple #[x26, x27]) w)
theorem math_bits_Mul_eq (a0 a1 : Value) (w : World) (R : Value → World → Prop) : sx fn_ Try.prog 30 math_bits_Mul_b (retK Try.prog Try.f50.results.toList R) (rho0 [a0, a1]) w = math_bits_Mul_F a0 a1 w R := by kernel_rfl
theorem math_bits_Mul_calls {a0 a1 : Value} {w : World} {R : Value → World → Prop} (h : math_bits_Mul_F a0 a1 w R) : Calls Try.prog 50 #[a0, a1] w fun e w' => ∃ v, e = .returned v ∧ R v w' :=
  Go.X.calls_of_sx (n := 30) (c := math_bits_Mul_b) Try.func50 (by kernel_rfl) (by kernel_rfl) (Nat.le_of_ble_eq_true rfl) (by kernel_rfl) (Eq.mpr (math_bits_Mul_eq a0 a1 w R) h)
noncomputable def code_in_b : Code := (Try.f51.body).getD .skip
noncomputable def code_in_F (a0 a1 : Value) (w : World) (R : Value → World → Prop) : Prop :=
  BK Try.prog .geq 2 (.tmp 5) (.const (Value.int .i64 0)) a0 (Value.int .i64 0) w fun x6 w => MG Try.prog x6 true a0 w fun x8 w => MG Try.prog x6 true a1 w fun x9 w => BG Try.prog x6 true .lss 2 (.tmp 8) (.tmp 9) x8 x9 w fun x10 w => PK Try.prog x6 x10 (Value.bool false) w fun x11 w => R x11 w
theorem code_in_eq (a0 a1 : Value) (w : World) (R : Value → World → Prop) : sx fn_ Try.prog 12 code_in_b (retK Try.prog Try.f51.results.toList R) (rho0 [a0, a1]) w = code_in_F a0 a1 w R := by kernel_rfl
theorem code_in_calls {a0 a1 : Value} {w : World} {R : Value → World → Prop} (h : code_in_F a0 a1 w R) : Calls Try.prog 51 #[a0, a1] w fun e w' => ∃ v, e = .returned v ∧ R v w' :=
  Go.X.calls_of_sx (n := 12) (c := code_in_b) Try.func51 (by kernel_rfl) (by kernel_rfl) (Nat.le_of_ble_eq_true rfl) (by kernel_rfl) (Eq.mpr (code_in_eq a0 a1 w R) h)
noncomputable def code_args_b : Code := (Try.f52.body).getD .skip
noncomputable def code_args_R0 : Code := cAt [1, 1, 1, 1, 1] code_args_b
noncomputable def code_args_R1 : Code := cAt [1, 1, 1, 1, 0, 0, 1] code_args_b
noncomputable def code_args_R2 : Code := cAt [1, 1, 1, 1, 1, 0, 1] code_args_b
noncomputable def code_args_R3 : Code := cAt [1, 1, 1, 1, 1, 1] code_args_b
noncomputable def code_args_R4 : Code := cAt [1, 1, 1, 1, 0, 0, 1, 1, 1] code_args_b
noncomputable def code_args_R5 : Code := cAt [1, 1, 1, 1, 0, 0, 1, 1, 1, 1, 1] code_args_b
noncomputable def code_args_R0_F (z : At) (K : Exit → Sl → World → Prop) (ρ : Sl) (w : World) : Prop :=
  BK Try.prog .eql 3 (.tmp 57) (.const (Value.int .i64 0)) (ρ 7) (Value.int .i64 0) w fun x58 w => MG Try.prog x58 false (ρ 4) w fun x60 w => MG Try.prog x58 false (ρ 6) w fun x61 w => BG Try.prog x58 false .lss 3 (.tmp 60) (.tmp 61) x60 x61 w fun x62 w => PK Try.prog x58 (Value.bool true) x62 w fun x63 w => MG Try.prog x63 false (ρ 4) w fun x65 w => MG Try.prog x63 false (ρ 7) w fun x66 w => BG Try.prog x63 false .gtr 3 (.tmp 65) (.tmp 66) x65 x66 w fun x67 w => PK Try.prog x63 (Value.bool true) x67 w fun x68 w => MG Try.prog x68 false (ρ 5) w fun x70 w => BG Try.prog x68 false .gtr 2 (.tmp 70) (.const (Value.int .i64 0)) x70 (Value.int .i64 0) w fun x71 w => MG Try.prog x68 false x71 w fun x72 w => MG Try.prog x72 true (ρ 3) w fun x73 w => BG Try.prog x72 true .neq 5 (.tmp 73) (.const (Value.int .u8 17)) x73 (Value.int .u8 17) w fun x74 w => PG Try.prog x68 false x72 x74 (Value.bool false) w fun x75 w => MG Try.prog x68 false x75 w fun x76 w => MG Try.prog x76 true (ρ 3) w fun x77 w => BG Try.prog x76 true .neq 5 (.tmp 77) (.const (Value.int .u8 18)) x77 (Value.int .u8 18) w fun x78 w => PG Try.prog x68 false x76 x78 (Value.bool false) w fun x79 w => PK Try.prog x68 (Value.bool true) x79 w fun x80 w => sx z Try.prog 82 code_args_R2 (seqK (sx z Try.prog 82 code_args_R3 K) K) (up (up (up (up (up (up (up (up (up (up (up (up (up (up (up (up (up (up (up (up (up (up (up (up ρ 57 (ρ 7)) 58 x58) 59 x58) 60 x60) 61 x61) 62 x62) 63 x63) 64 x63) 65 x65) 66 x66) 67 x67) 68 x68) 69 x68) 70 x70) 71 x71) 72 x72) 73 x73) 74 x74) 75 x75) 76 x76) 77 x77) 78 x78) 79 x79) 80 x80) w
theorem code_args_R0_eq (z : At) (K : Exit → Sl → World → Prop) (ρ : Sl) (w : World) : sx z Try.prog 82 code_args_R0 K ρ w = code_args_R0_F z K ρ w := by kernel_rfl
noncomputable def code_args_R1_F (z : At) (K : Exit → Sl → World → Prop) (ρ : Sl) (w : World) : Prop :=
  CondK (ρ 22) (K .normal (up (up ρ 6 (Value.int .i64 5)) 7 (Value.int .i64 5)) w) (BK Try.prog .eql 5 (.tmp 30) (.const (Value.int .u8 9)) (ρ 3) (Value.int .u8 9) w fun x31 w => CondK x31 (sx z Try.prog 82 code_args_R4 K (up (up (up ρ 30 (ρ 3)) 31 x31) 29 x31) w) (BK Try.prog .eql 5 (.tmp 32) (.const (Value.int .u8 10)) (ρ 3) (Value.int .u8 10) w fun x33 w => CondK x33 (sx z Try.prog 82 code_args_R4 K (up (up (up (up (up (up ρ 30 (ρ 3)) 31 x31) 29 x31) 32 (ρ 3)) 33 x33) 29 x33) w) (BK Try.prog .eql 5 (.tmp 34) (.const (Value.int .u8 12)) (ρ 3) (Value.int .u8 12) w fun x35 w => sx z Try.prog 82 code_args_R4 K (up (up (up (up (up (up (up (up (up ρ 30 (ρ 3)) 31 x31) 29 x31) 32 (ρ 3)) 33 x33) 29 x33) 34 (ρ 3)) 35 x35) 29 x35) w)))
theorem code_args_R1_eq (z : At) (K : Exit → Sl → World → Prop) (ρ : Sl) (w : World) : sx z Try.prog 82 code_args_R1 K ρ w = code_args_R1_F z K ρ w := by kernel_rfl
noncomputable def code_args_R2_F (z : At) (K : Exit → Sl → World → Prop) (ρ : Sl) (w : World) : Prop :=
  CondK (ρ 80) (K .ret (up ρ 2 (Value.int .i64 (-1))) w) (K .normal ρ w)
theorem code_args_R2_eq (z : At) (K : Exit → Sl → World → Prop) (ρ : Sl) (w : World) : sx z Try.prog 82 code_args_R2 K ρ w = code_args_R2_F z K ρ w := by kernel_rfl
noncomputable def code_args_R3_F (z : At) (K : Exit → Sl → World → Prop) (ρ : Sl) (w : World) : Prop :=
  K .ret (up (up ρ 81 (ρ 4)) 2 (ρ 4)) w
theorem code_args_R3_eq (z : At) (K : Exit → Sl → World → Prop) (ρ : Sl) (w : World) : sx z Try.prog 82 code_args_R3 K ρ w = code_args_R3_F z K ρ w := by kernel_rfl
noncomputable def code_args_R4_F (z : At) (K : Exit → Sl → World → Prop) (ρ : Sl) (w : World) : Prop :=
  CondK (ρ 29) (K .normal (up (up ρ 6 (Value.int .i64 1)) 7 (Value.int .i64 8)) w) (BK Try.prog .eql 5 (.tmp 37) (.const (Value.int .u8 8)) (ρ 3) (Value.int .u8 8) w fun x38 w => CondK x38 (sx z Try.prog 82 code_args_R5 K (up (up (up ρ 37 (ρ 3)) 38 x38) 36 x38) w) (BK Try.prog .eql 5 (.tmp 39) (.const (Value.int .u8 11)) (ρ 3) (Value.int .u8 11) w fun x40 w => CondK x40 (sx z Try.prog 82 code_args_R5 K (up (up (up (up (up (up ρ 37 (ρ 3)) 38 x38) 36 x38) 39 (ρ 3)) 40 x40) 36 x40) w) (BK Try.prog .eql 5 (.tmp 41) (.const (Value.int .u8 15)) (ρ 3) (Value.int .u8 15) w fun x42 w => CondK x42 (sx z Try.prog 82 code_args_R5 K (up (up (up (up (up (up (up (up (up ρ 37 (ρ 3)) 38 x38) 36 x38) 39 (ρ 3)) 40 x40) 36 x40) 41 (ρ 3)) 42 x42) 36 x42) w) (BK Try.prog .eql 5 (.tmp 43) (.const (Value.int .u8 20)) (ρ 3) (Value.int .u8 20) w fun x44 w => CondK x44 (sx z Try.prog 82 code_args_R5 K (up (up (up (up (up (up (up (up (up (up (up (up ρ 37 (ρ 3)) 38 x38) 36 x38) 39 (ρ 3)) 40 x40) 36 x40) 41 (ρ 3)) 42 x42) 36 x42) 43 (ρ 3)) 44 x44) 36 x44) w) (BK Try.prog .eql 5 (.tmp 45) (.const (Value.int .u8 22)) (ρ 3) (Value.int .u8 22) w fun x46 w => sx z Try.prog 82 code_args_R5 K (up (up (up (up (up (up (up (up (up (up (up (up (up (up (up ρ 37 (ρ 3)) 38 x38) 36 x38) 39 (ρ 3)) 40 x40) 36 x40) 41 (ρ 3)) 42 x42) 36 x42) 43 (ρ 3)) 44 x44) 36 x44) 45 (ρ 3)) 46 x46) 36 x46) w)))))
theorem code_args_R4_eq (z : At) (K : Exit → Sl → World → Prop) (ρ : Sl) (w : World) : sx z Try.prog 82 code_args_R4 K ρ w = code_args_R4_F z K ρ w := by kernel_rfl
noncomputable def code_args_R5_F (z : At) (K : Exit → Sl → World → Prop) (ρ : Sl) (w : World) : Prop :=
  CondK (ρ 36) (K .normal (up (up ρ 6 (Value.int .i64 1)) 7 (Value.int .i64 1)) w) (BK Try.prog .eql 5 (.tmp 48) (.const (Value.int .u8 18)) (ρ 3) (Value.int .u8 18) w fun x49 w => CondK x49 (K .normal (up (up (up (up (up ρ 48 (ρ 3)) 49 x49) 47 x49) 6 (Value.int .i64 2)) 7 (Value.int .i64 2)) w) (BK Try.prog .geq 5 (.tmp 51) (.const (Value.int .u8 1)) (ρ 3) (Value.int .u8 1) w fun x52 w => MG Try.prog x52 true (ρ 3) w fun x54 w => BG Try.prog x52 true .leq 5 (.tmp 54) (.const (Value.int .u8 22)) x54 (Value.int .u8 22) w fun x55 w => PK Try.prog x52 x55 (Value.bool false) w fun x56 w => CondK x56 (K .normal (up (up (up (up (up (up (up (up (up (up (up (up ρ 48 (ρ 3)) 49 x49) 47 x49) 51 (ρ 3)) 52 x52) 53 x52) 54 x54) 55 x55) 56 x56) 50 x56) 6 (Value.int .i64 3)) 7 (Value.int .i64 3)) w) (K .normal (up (up (up (up (up (up (up (up (up (up ρ 48 (ρ 3)) 49 x49) 47 x49) 51 (ρ 3)) 52 x52) 53 x52) 54 x54) 55 x55) 56 x56) 50 x56) w)))
theorem code_args_R5_eq (z : At) (K : Exit → Sl → World → Prop) (ρ : Sl) (w : World) : sx z Try.prog 82 code_args_R5 K ρ w = code_args_R5_F z K ρ w := by kernel_rfl
noncomputable def code_args_F (a0 : Value) (w : World) (R : Value → World → Prop) : Prop :=
  BK Try.prog .lss 2 (.tmp 8) (.const (Value.int .i64 0)) a0 (Value.int .i64 0) w fun x9 w => MG Try.prog x9 false a0 w fun x11 w => BG Try.prog x9 false .geq 2 (.tmp 11) (.const (Value.int .i64 3072)) x11 (Value.int .i64 3072) w fun x12 w => PK Try.prog x9 (Value.bool true) x12 w fun x13 w => CondK x13 (R (Value.int .i64 (-1)) w) (BK Try.prog .rem 2 (.tmp 14) (.const (Value.int .i64 32)) a0 (Value.int .i64 32) w fun x15 w => VK Try.prog (convert 2 5 x15) w fun x16 w => BK Try.prog .rem 2 (.tmp 17) (.const (Value.int .i64 1024)) a0 (Value.int .i64 1024) w fun x18 w => BK Try.prog .quo 2 (.tmp 18) (.const (Value.int .i64 32)) x18 (Value.int .i64 32) w fun x19 w => BK Try.prog .quo 2 (.tmp 20) (.const (Value.int .i64 1024)) a0 (Value.int .i64 1024) w fun x21 w => BK Try.prog .geq 5 (.tmp 23) (.const (Value.int .u8 1)) x16 (Value.int .u8 1) w fun x24 w => MG Try.prog x24 true x16 w fun x26 w => BG Try.prog x24 true .leq 5 (.tmp 26) (.const (Value.int .u8 5)) x26 (Value.int .u8 5) w fun x27 w => PK Try.prog x24 x27 (Value.bool false) w fun x28 w => sx fn_ Try.prog 82 code_args_R1 (blkK 0 (seqK (sx fn_ Try.prog 82 code_args_R0 (retK Try.prog [ResultVar.tmp 2] R)) (retK Try.prog [ResultVar.tmp 2] R))) (up (up (up (up (up (up (up (up (up (up (up (up (up (up (up (up (up (up (up (up (up (up (up (up (up (up (up (rho0 [a0]) 2 (Value.int .i64 0)) 8 a0) 9 x9) 10 x9) 11 x11) 12 x12) 13 x13) 14 a0) 15 x15) 16 x16) 17 a0) 18 x18) 19 x19) 20 a0) 21 x21) 3 x16) 4 x19) 5 x21) 6 (Value.int .i64 0)) 7 (Value.int .i64 0)) 23 x16) 24 x24) 25 x24) 26 x26) 27 x27) 28 x28) 22 x28) w)
theorem code_args_eq (a0 : Value) (w : World) (R : Value → World → Prop) : sx fn_ Try.prog 82 code_args_b (retK Try.prog Try.f52.results.toList R) (rho0 [a0]) w = code_args_F a0 w R := by kernel_rfl
theorem code_args_calls {a0 : Value} {w : World} {R : Value → World → Prop} (h : code_args_F a0 w R) : Calls Try.prog 52 #[a0] w fun e w' => ∃ v, e = .returned v ∧ R v w' :=
  Go.X.calls_of_sx (n := 82) (c := code_args_b) Try.func52 (by kernel_rfl) (by kernel_rfl) (Nat.le_of_ble_eq_true rfl) (by kernel_rfl) (Eq.mpr (code_args_eq a0 w R) h)
noncomputable def slices_IndexFunc_code_Instr_code_Instr_b : Code := (Try.f53.body).getD .skip
noncomputable def slices_IndexFunc_code_Instr_code_Instr_L0 : Code := cAt [1, 0, 1, 0, 0] slices_IndexFunc_code_Instr_code_Instr_b
noncomputable def slices_IndexFunc_code_Instr_code_Instr_R1 : Code := cAt [1, 1] slices_IndexFunc_code_Instr_code_Instr_b
noncomputable def slices_IndexFunc_code_Instr_code_Instr_L0_F (z : At) (K : Exit → Sl → World → Prop) (ρ : Sl) (w : World) : Prop :=
  BK Try.prog .lss 3 (.tmp 8) (.tmp 7) (ρ 8) (ρ 7) w fun x9 w => CondK x9 (VK Try.prog (Instr.indexAt 25 (ρ 0) (ρ 8)) w fun x14 w => VK Try.prog (Instr.loadAt 30 x14) w fun x15 w => CK Try.prog (ρ 1) [x15] w fun x16 w => CondK x16 (K .ret (up (up (up (up (up (up (up (up (up (up (up ρ 9 x9) 10 (ρ 8)) 5 (ρ 8)) 11 (ρ 1)) 12 (ρ 0)) 13 (ρ 8)) 14 x14) 15 x15) 16 x16) 17 (ρ 8)) 4 (ρ 8)) w) (BK Try.prog .add 3 (.tmp 8) (.const (Value.int .i64 1)) (ρ 8) (Value.int .i64 1) w fun x18 w => K .normal (up (up (up (up (up (up (up (up (up (up (up ρ 9 x9) 10 (ρ 8)) 5 (ρ 8)) 11 (ρ 1)) 12 (ρ 0)) 13 (ρ 8)) 14 x14) 15 x15) 16 x16) 18 x18) 8 x18) w)) (K (.exit 0) (up ρ 9 x9) w)
theorem slices_IndexFunc_code_Instr_code_Instr_L0_eq (z : At) (K : Exit → Sl → World → Prop) (ρ : Sl) (w : World) : sx z Try.prog 19 slices_IndexFunc_code_Instr_code_Instr_L0 K ρ w = slices_IndexFunc_code_Instr_code_Instr_L0_F z K ρ w := by kernel_rfl
theorem slices_IndexFunc_code_Instr_code_Instr_L0_ok : dstOk 19 slices_IndexFunc_code_Instr_code_Instr_L0 = true := by kernel_rfl
noncomputable def slices_IndexFunc_code_Instr_code_Instr_R1_F (z : At) (K : Exit → Sl → World → Prop) (ρ : Sl) (w : World) : Prop :=
  K .ret (up ρ 4 (Value.int .i64 (-1))) w
theorem slices_IndexFunc_code_Instr_code_Instr_R1_eq (z : At) (K : Exit → Sl → World → Prop) (ρ : Sl) (w : World) : sx z Try.prog 19 slices_IndexFunc_code_Instr_code_Instr_R1 K ρ w = slices_IndexFunc_code_Instr_code_Instr_R1_F z K ρ w := by kernel_rfl
noncomputable def slices_IndexFunc_code_Instr_code_Instr_F (a0 a1 : Value) (w : World) (R : Value → World → Prop) : Prop :=
  IK Try.prog .len #[25] 3 [false] [a0] w fun x7 w => W fn_ Try.prog 19 (Code.loop slices_IndexFunc_code_Instr_code_Instr_L0) (blkK 0 (seqK (sx fn_ Try.prog 19 slices_IndexFunc_code_Instr_code_Instr_R1 (retK Try.prog [ResultVar.tmp 4] R)) (retK Try.prog [ResultVar.tmp 4] R))) (up (up (up (up (rho0 [a0, a1]) 4 (Value.int .i64 0)) 6 a0) 7 x7) 8 (Value.int .i64 0)) w
theorem slices_IndexFunc_code_Instr_code_Instr_eq (a0 a1 : Value) (w : World) (R : Value → World → Prop) : sx fn_ Try.prog 19 slices_IndexFunc_code_Instr_code_Instr_b (retK Try.prog Try.f53.results.toList R) (rho0 [a0, a1]) w = slices_IndexFunc_code_Instr_code_Instr_F a0 a1 w R := by kernel_rfl
theorem slices_IndexFunc_code_Instr_code_Instr_calls {a0 a1 : Value} {w : World} {R : Value → World → Prop} (h : slices_IndexFunc_code_Instr_code_Instr_F a0 a1 w R) : Calls Try.prog 53 #[a0, a1] w fun e w' => ∃ v, e = .returned v ∧ R v w' :=
  Go.X.calls_of_sx (n := 19) (c := slices_IndexFunc_code_Instr_code_Instr_b) Try.func53 (by kernel_rfl) (by kernel_rfl) (Nat.le_of_ble_eq_true rfl) (by kernel_rfl) (Eq.mpr (slices_IndexFunc_code_Instr_code_Instr_eq a0 a1 w R) h)
noncomputable def math_bits_Mul64_b : Code := (Try.f55.body).getD .skip
noncomputable def math_bits_Mul64_R0 : Code := cAt [1, 1, 1, 1, 1, 1, 1] math_bits_Mul64_b
noncomputable def math_bits_Mul64_R0_F (z : At) (K : Exit → Sl → World → Prop) (ρ : Sl) (w : World) : Prop :=
  BK Try.prog .and 92 (.tmp 31) (.const (Value.int .u64 4294967295)) (ρ 11) (Value.int .u64 4294967295) w fun x32 w => BK Try.prog .shr 92 (.tmp 33) (.const (Value.int .u64 32)) (ρ 11) (Value.int .u64 32) w fun x34 w => BK Try.prog .mul 92 (.tmp 36) (.tmp 37) (ρ 6) (ρ 9) w fun x38 w => BK Try.prog .add 92 (.tmp 35) (.tmp 38) x32 x38 w fun x39 w => BK Try.prog .mul 92 (.tmp 40) (.tmp 41) (ρ 7) (ρ 9) w fun x42 w => BK Try.prog .add 92 (.tmp 42) (.tmp 43) x42 x34 w fun x44 w => BK Try.prog .shr 92 (.tmp 45) (.const (Value.int .u64 32)) x39 (Value.int .u64 32) w fun x46 w => BK Try.prog .add 92 (.tmp 44) (.tmp 46) x44 x46 w fun x47 w => BK Try.prog .mul 92 (.tmp 48) (.tmp 49) (ρ 0) (ρ 1) w fun x50 w => K .ret (up (up (up (up (up (up (up (up (up (up (up (up (up (up (up (up (up (up (up (up (up (up (up (up (up ρ 31 (ρ 11)) 32 x32) 12 x32) 33 (ρ 11)) 34 x34) 13 x34) 35 x32) 36 (ρ 6)) 37 (ρ 9)) 38 x38) 39 x39) 12 x39) 40 (ρ 7)) 41 (ρ 9)) 42 x42) 43 x34) 44 x44) 45 x39) 46 x46) 47 x47) 4 x47) 48 (ρ 0)) 49 (ρ 1)) 50 x50) 5 x50) w
theorem math_bits_Mul64_R0_eq (z : At) (K : Exit → Sl → World → Prop) (ρ : Sl) (w : World) : sx z Try.prog 51 math_bits_Mul64_R0 K ρ w = math_bits_Mul64_R0_F z K ρ w := by kernel_rfl
noncomputable def math_bits_Mul64_F (a0 a1 : Value) (w : World) (R : Value → World → Prop) : Prop :=
  BK Try.prog .and 92 (.tmp 14) (.const (Value.int .u64 4294967295)) a0 (Value.int .u64 4294967295) w fun x15 w => BK Try.prog .shr 92 (.tmp 16) (.const (Value.int .u64 32)) a0 (Value.int .u64 32) w fun x17 w => BK Try.prog .and 92 (.tmp 18) (.const (Value.int .u64 4294967295)) a1 (Value.int .u64 4294967295) w fun x19 w => BK Try.prog .shr 92 (.tmp 20) (.const (Value.int .u64 32)) a1 (Value.int .u64 32) w fun x21 w => BK Try.prog .mul 92 (.tmp 22) (.tmp 23) x15 x19 w fun x24 w => BK Try.prog .mul 92 (.tmp 25) (.tmp 26) x17 x19 w fun x27 w => BK Try.prog .shr 92 (.tmp 28) (.const (Value.int .u64 32)) x24 (Value.int .u64 32) w fun x29 w => BK Try.prog .add 92 (.tmp 27) (.tmp 29) x27 x29 w fun x30 w => sx fn_ Try.prog 51 math_bits_Mul64_R0 (retK Try.prog [ResultVar.tmp 4, ResultVar.tmp 5] R) (up (up (up (up (up (up (up (up (up (up (up (up (up (up (up (up (up (up (up (up (up (up (up (up (up (rho0 [a0, a1]) 4 (Value.int .u64 0)) 5 (Value.int .u64 0)) 14 a0) 15 x15) 6 x15) 16 a0) 17 x17) 7 x17) 18 a1) 19 x19) 8 x19) 20 a1) 21 x21) 9 x21) 22 x15) 23 x19) 24 x24) 10 x24) 25 x17) 26 x19) 27 x27) 28 x24) 29 x29) 30 x30) 11 x30) w
theorem math_bits_Mul64_eq (a0 a1 : Value) (w : World) (R : Value → World → Prop) : sx fn_ Try.prog 51 math_bits_Mul64_b (retK Try.prog Try.f55.results.toList R) (rho0 [a0, a1]) w = math_bits_Mul64_F a0 a1 w R := by kernel_rfl
theorem math_bits_Mul64_calls {a0 a1 : Value} {w : World} {R : Value → World → Prop} (h : math_bits_Mul64_F a0 a1 w R) : Calls Try.prog 55 #[a0, a1] w fun e w' => ∃ v, e = .returned v ∧ R v w' :=
  Go.X.calls_of_sx (n := 51) (c := math_bits_Mul64_b) Try.func55 (by kernel_rfl) (by kernel_rfl) (Nat.le_of_ble_eq_true rfl) (by kernel_rfl) (Eq.mpr (math_bits_Mul64_eq a0 a1 w R) h)
end Go.Proofs.Ytmbgbffgkdcieaa.XF
set_option linter.unusedVariables false
namespace Go.Proofs.Ytmbgbffgkdcieaa.XK
open Go Go.X
theorem fo28_0 {w : World} {K : Value → World → Prop} (a : Addr) : VK Try.prog (Instr.fieldAt 28 (.pointer (some a)) 0) w K = K (.pointer (some (a.add 0))) w := fo (by kernel_rfl) a
theorem fo28_1 {w : World} {K : Value → World → Prop} (a : Addr) : VK Try.prog (Instr.fieldAt 28 (.pointer (some a)) 1) w K = K (.pointer (some (a.add 1))) w := fo (by kernel_rfl) a
theorem fo28_2 {w : World} {K : Value → World → Prop} (a : Addr) : VK Try.prog (Instr.fieldAt 28 (.pointer (some a)) 2) w K = K (.pointer (some (a.add 2))) w := fo (by kernel_rfl) a
theorem fo30_0 {w : World} {K : Value → World → Prop} (a : Addr) : VK Try.prog (Instr.fieldAt 30 (.pointer (some a)) 0) w K = K (.pointer (some (a.add 0))) w := fo (by kernel_rfl) a
theorem fo30_1 {w : World} {K : Value → World → Prop} (a : Addr) : VK Try.prog (Instr.fieldAt 30 (.pointer (some a)) 1) w K = K (.pointer (some (a.add 1))) w := fo (by kernel_rfl) a
theorem fo36_0 {w : World} {K : Value → World → Prop} (a : Addr) : VK Try.prog (Instr.fieldAt 36 (.pointer (some a)) 0) w K = K (.pointer (some (a.add 0))) w := fo (by kernel_rfl) a
theorem fo36_1 {w : World} {K : Value → World → Prop} (a : Addr) : VK Try.prog (Instr.fieldAt 36 (.pointer (some a)) 1) w K = K (.pointer (some (a.add 1))) w := fo (by kernel_rfl) a
theorem fo36_2 {w : World} {K : Value → World → Prop} (a : Addr) : VK Try.prog (Instr.fieldAt 36 (.pointer (some a)) 2) w K = K (.pointer (some (a.add 2))) w := fo (by kernel_rfl) a
theorem fo36_3 {w : World} {K : Value → World → Prop} (a : Addr) : VK Try.prog (Instr.fieldAt 36 (.pointer (some a)) 3) w K = K (.pointer (some (a.add 3))) w := fo (by kernel_rfl) a
theorem fo36_4 {w : World} {K : Value → World → Prop} (a : Addr) : VK Try.prog (Instr.fieldAt 36 (.pointer (some a)) 4) w K = K (.pointer (some (a.add 4))) w := fo (by kernel_rfl) a
theorem fo36_5 {w : World} {K : Value → World → Prop} (a : Addr) : VK Try.prog (Instr.fieldAt 36 (.pointer (some a)) 5) w K = K (.pointer (some (a.add 5))) w := fo (by kernel_rfl) a
theorem fo36_6 {w : World} {K : Value → World → Prop} (a : Addr) : VK Try.prog (Instr.fieldAt 36 (.pointer (some a)) 6) w K = K (.pointer (some (a.add 6))) w := fo (by kernel_rfl) a
theorem fo36_7 {w : World} {K : Value → World → Prop} (a : Addr) : VK Try.prog (Instr.fieldAt 36 (.pointer (some a)) 7) w K = K (.pointer (some (a.add 7))) w := fo (by kernel_rfl) a
theorem fo36_8 {w : World} {K : Value → World → Prop} (a : Addr) : VK Try.prog (Instr.fieldAt 36 (.pointer (some a)) 8) w K = K (.pointer (some (a.add 8))) w := fo (by kernel_rfl) a
theorem fo36_9 {w : World} {K : Value → World → Prop} (a : Addr) : VK Try.prog (Instr.fieldAt 36 (.pointer (some a)) 9) w K = K (.pointer (some (a.add 9))) w := fo (by kernel_rfl) a
theorem fo36_10 {w : World} {K : Value → World → Prop} (a : Addr) : VK Try.prog (Instr.fieldAt 36 (.pointer (some a)) 10) w K = K (.pointer (some (a.add 10))) w := fo (by kernel_rfl) a
theorem fo38_0 {w : World} {K : Value → World → Prop} (a : Addr) : VK Try.prog (Instr.fieldAt 38 (.pointer (some a)) 0) w K = K (.pointer (some (a.add 0))) w := fo (by kernel_rfl) a
theorem fo38_1 {w : World} {K : Value → World → Prop} (a : Addr) : VK Try.prog (Instr.fieldAt 38 (.pointer (some a)) 1) w K = K (.pointer (some (a.add 1))) w := fo (by kernel_rfl) a
theorem fo38_2 {w : World} {K : Value → World → Prop} (a : Addr) : VK Try.prog (Instr.fieldAt 38 (.pointer (some a)) 2) w K = K (.pointer (some (a.add 12))) w := fo (by kernel_rfl) a
theorem fo54_0 {w : World} {K : Value → World → Prop} (a : Addr) : VK Try.prog (Instr.fieldAt 54 (.pointer (some a)) 0) w K = K (.pointer (some (a.add 0))) w := fo (by kernel_rfl) a
theorem fo54_1 {w : World} {K : Value → World → Prop} (a : Addr) : VK Try.prog (Instr.fieldAt 54 (.pointer (some a)) 1) w K = K (.pointer (some (a.add 1))) w := fo (by kernel_rfl) a
theorem fo54_2 {w : World} {K : Value → World → Prop} (a : Addr) : VK Try.prog (Instr.fieldAt 54 (.pointer (some a)) 2) w K = K (.pointer (some (a.add 2))) w := fo (by kernel_rfl) a
theorem fo54_3 {w : World} {K : Value → World → Prop} (a : Addr) : VK Try.prog (Instr.fieldAt 54 (.pointer (some a)) 3) w K = K (.pointer (some (a.add 3))) w := fo (by kernel_rfl) a
theorem fo54_4 {w : World} {K : Value → World → Prop} (a : Addr) : VK Try.prog (Instr.fieldAt 54 (.pointer (some a)) 4) w K = K (.pointer (some (a.add 4))) w := fo (by kernel_rfl) a
theorem fo54_5 {w : World} {K : Value → World → Prop} (a : Addr) : VK Try.prog (Instr.fieldAt 54 (.pointer (some a)) 5) w K = K (.pointer (some (a.add 5))) w := fo (by kernel_rfl) a
theorem fo54_6 {w : World} {K : Value → World → Prop} (a : Addr) : VK Try.prog (Instr.fieldAt 54 (.pointer (some a)) 6) w K = K (.pointer (some (a.add 6))) w := fo (by kernel_rfl) a
theorem fo54_7 {w : World} {K : Value → World → Prop} (a : Addr) : VK Try.prog (Instr.fieldAt 54 (.pointer (some a)) 7) w K = K (.pointer (some (a.add 7))) w := fo (by kernel_rfl) a
theorem fo56_0 {w : World} {K : Value → World → Prop} (a : Addr) : VK Try.prog (Instr.fieldAt 56 (.pointer (some a)) 0) w K = K (.pointer (some (a.add 0))) w := fo (by kernel_rfl) a
theorem fo56_1 {w : World} {K : Value → World → Prop} (a : Addr) : VK Try.prog (Instr.fieldAt 56 (.pointer (some a)) 1) w K = K (.pointer (some (a.add 3))) w := fo (by kernel_rfl) a
theorem fo56_2 {w : World} {K : Value → World → Prop} (a : Addr) : VK Try.prog (Instr.fieldAt 56 (.pointer (some a)) 2) w K = K (.pointer (some (a.add 4))) w := fo (by kernel_rfl) a
theorem fo56_3 {w : World} {K : Value → World → Prop} (a : Addr) : VK Try.prog (Instr.fieldAt 56 (.pointer (some a)) 3) w K = K (.pointer (some (a.add 5))) w := fo (by kernel_rfl) a
theorem fo56_4 {w : World} {K : Value → World → Prop} (a : Addr) : VK Try.prog (Instr.fieldAt 56 (.pointer (some a)) 4) w K = K (.pointer (some (a.add 6))) w := fo (by kernel_rfl) a
theorem fo56_5 {w : World} {K : Value → World → Prop} (a : Addr) : VK Try.prog (Instr.fieldAt 56 (.pointer (some a)) 5) w K = K (.pointer (some (a.add 7))) w := fo (by kernel_rfl) a
theorem fo56_6 {w : World} {K : Value → World → Prop} (a : Addr) : VK Try.prog (Instr.fieldAt 56 (.pointer (some a)) 6) w K = K (.pointer (some (a.add 8))) w := fo (by kernel_rfl) a
theorem fo56_7 {w : World} {K : Value → World → Prop} (a : Addr) : VK Try.prog (Instr.fieldAt 56 (.pointer (some a)) 7) w K = K (.pointer (some (a.add 9))) w := fo (by kernel_rfl) a
theorem fo56_8 {w : World} {K : Value → World → Prop} (a : Addr) : VK Try.prog (Instr.fieldAt 56 (.pointer (some a)) 8) w K = K (.pointer (some (a.add 10))) w := fo (by kernel_rfl) a
theorem fo56_9 {w : World} {K : Value → World → Prop} (a : Addr) : VK Try.prog (Instr.fieldAt 56 (.pointer (some a)) 9) w K = K (.pointer (some (a.add 18))) w := fo (by kernel_rfl) a
theorem ld2 {w : World} {K : Value → World → Prop} (a : Addr) : VK Try.prog (Instr.loadAt 2 (.pointer (some a))) w K = ldK (w.cell? a) (ldStuck Try.prog 2 a K w) K w := ldE Try.underlying2 rfl a
theorem ld3 {w : World} {K : Value → World → Prop} (a : Addr) : VK Try.prog (Instr.loadAt 3 (.pointer (some a))) w K = ldK (w.cell? a) (ldStuck Try.prog 3 a K w) K w := ldE Try.underlying3 rfl a
theorem ld4 {w : World} {K : Value → World → Prop} (a : Addr) : VK Try.prog (Instr.loadAt 4 (.pointer (some a))) w K = ldK (w.cell? a) (ldStuck Try.prog 4 a K w) K w := ldE Try.underlying4 rfl a
theorem ld5 {w : World} {K : Value → World → Prop} (a : Addr) : VK Try.prog (Instr.loadAt 5 (.pointer (some a))) w K = ldK (w.cell? a) (ldStuck Try.prog 5 a K w) K w := ldE Try.underlying5 rfl a
theorem ld22 {w : World} {K : Value → World → Prop} (a : Addr) : VK Try.prog (Instr.loadAt 22 (.pointer (some a))) w K = ldK (w.cell? a) (ldStuck Try.prog 22 a K w) K w := ldE Try.underlying22 rfl a
theorem ld25 {w : World} {K : Value → World → Prop} (a : Addr) : VK Try.prog (Instr.loadAt 25 (.pointer (some a))) w K = ldK (w.cell? a) (ldStuck Try.prog 25 a K w) K w := ldE Try.underlying25 rfl a
theorem ld26 {w : World} {K : Value → World → Prop} (a : Addr) : VK Try.prog (Instr.loadAt 26 (.pointer (some a))) w K = ldK (w.cell? a) (ldStuck Try.prog 26 a K w) K w := ldE Try.underlying26 rfl a
theorem len22 {w : World} {K : Value → World → Prop} (ty : TypeId) (cs : List Bool) (A : Option Addr) (n c : Nat) : IK Try.prog .len #[22] ty cs [.slice A n c] w K = K (.int .i64 n) w := len_sl Try.underlying22 cs A n c
theorem len25 {w : World} {K : Value → World → Prop} (ty : TypeId) (cs : List Bool) (A : Option Addr) (n c : Nat) : IK Try.prog .len #[25] ty cs [.slice A n c] w K = K (.int .i64 n) w := len_sl Try.underlying25 cs A n c
theorem len26 {w : World} {K : Value → World → Prop} (ty : TypeId) (cs : List Bool) (A : Option Addr) (n c : Nat) : IK Try.prog .len #[26] ty cs [.slice A n c] w K = K (.int .i64 n) w := len_sl Try.underlying26 cs A n c
end Go.Proofs.Ytmbgbffgkdcieaa.XK
set_option linter.unusedVariables false
set_option linter.unusedSimpArgs false
namespace Go.X
open Go Go.RowKit
section
variable {P : Program} {w : World} {K : Value → World → Prop}
theorem VGtt (s : Sem Value) : VG P (.bool true) true s w K = VK P s w K := by rw [VG_b]; rfl
theorem VGtf (s : Sem Value) : VG P (.bool true) false s w K = K undef w := by rw [VG_b]; rfl
theorem VGft (s : Sem Value) : VG P (.bool false) true s w K = K undef w := by rw [VG_b]; rfl
theorem VGff (s : Sem Value) : VG P (.bool false) false s w K = VK P s w K := by rw [VG_b]; rfl
theorem UGtt (s : Sem Unit) : UG P (.bool true) true s w K = UK P s w K := by rw [UG_b]; rfl
theorem UGtf (s : Sem Unit) : UG P (.bool true) false s w K = K undef w := by rw [UG_b]; rfl
theorem UGft (s : Sem Unit) : UG P (.bool false) true s w K = K undef w := by rw [UG_b]; rfl
theorem UGff (s : Sem Unit) : UG P (.bool false) false s w K = UK P s w K := by rw [UG_b]; rfl
theorem MGtt (v : Value) : MG P (.bool true) true v w K = K v w := by rw [MG_b]; rfl
theorem MGtf (v : Value) : MG P (.bool true) false v w K = K undef w := by rw [MG_b]; rfl
theorem MGft (v : Value) : MG P (.bool false) true v w K = K undef w := by rw [MG_b]; rfl
theorem MGff (v : Value) : MG P (.bool false) false v w K = K v w := by rw [MG_b]; rfl
theorem NGtt (v : Value) : NG P (.bool true) true v w K = NK P v w K := by rw [NG_b]; rfl
theorem NGtf (v : Value) : NG P (.bool true) false v w K = K undef w := by rw [NG_b]; rfl
theorem NGft (v : Value) : NG P (.bool false) true v w K = K undef w := by rw [NG_b]; rfl
theorem NGff (v : Value) : NG P (.bool false) false v w K = NK P v w K := by rw [NG_b]; rfl
theorem PGtt (c a b : Value) : PG P (.bool true) true c a b w K = PK P c a b w K := by rw [PG_b]; rfl
theorem PGtf (c a b : Value) : PG P (.bool true) false c a b w K = K undef w := by rw [PG_b]; rfl
theorem PGft (c a b : Value) : PG P (.bool false) true c a b w K = K undef w := by rw [PG_b]; rfl
theorem PGff (c a b : Value) : PG P (.bool false) false c a b w K = PK P c a b w K := by rw [PG_b]; rfl
theorem BGtt (op : BinOp) (ty : TypeId) (x y : Operand) (a b : Value) : BG P (.bool true) true op ty x y a b w K = BK P op ty x y a b w K := by rw [BG_b]; rfl
theorem BGtf (op : BinOp) (ty : TypeId) (x y : Operand) (a b : Value) : BG P (.bool true) false op ty x y a b w K = K undef w := by rw [BG_b]; rfl
theorem BGft (op : BinOp) (ty : TypeId) (x y : Operand) (a b : Value) : BG P (.bool false) true op ty x y a b w K = K undef w := by rw [BG_b]; rfl
theorem BGff (op : BinOp) (ty : TypeId) (x y : Operand) (a b : Value) : BG P (.bool false) false op ty x y a b w K = BK P op ty x y a b w K := by rw [BG_b]; rfl
theorem CGtt (f : Value) (args : List Value) : CG P (.bool true) true f args w K = CK P f args w K := by rw [CG_b]; rfl
theorem CGtf (f : Value) (args : List Value) : CG P (.bool true) false f args w K = K undef w := by rw [CG_b]; rfl
theorem CGft (f : Value) (args : List Value) : CG P (.bool false) true f args w K = K undef w := by rw [CG_b]; rfl
theorem CGff (f : Value) (args : List Value) : CG P (.bool false) false f args w K = CK P f args w K := by rw [CG_b]; rfl
theorem IGtt (b : Builtin) (ts : Array TypeId) (ty : TypeId) (cs : List Bool) (args : List Value) : IG P (.bool true) true b ts ty cs args w K = IK P b ts ty cs args w K := by rw [IG_b]; rfl
theorem IGtf (b : Builtin) (ts : Array TypeId) (ty : TypeId) (cs : List Bool) (args : List Value) : IG P (.bool true) false b ts ty cs args w K = K undef w := by rw [IG_b]; rfl
theorem IGft (b : Builtin) (ts : Array TypeId) (ty : TypeId) (cs : List Bool) (args : List Value) : IG P (.bool false) true b ts ty cs args w K = K undef w := by rw [IG_b]; rfl
theorem IGff (b : Builtin) (ts : Array TypeId) (ty : TypeId) (cs : List Bool) (args : List Value) : IG P (.bool false) false b ts ty cs args w K = IK P b ts ty cs args w K := by rw [IG_b]; rfl
theorem PKt (a b : Value) : PK P (.bool true) a b w K = K a w := by rw [PK_bool]; rfl
theorem PKf (a b : Value) : PK P (.bool false) a b w K = K b w := by rw [PK_bool]; rfl
theorem CDt (A B : Prop) : CondK (.bool true) A B = A := by rw [CondK_bool]; rfl
theorem CDf (A B : Prop) : CondK (.bool false) A B = B := by rw [CondK_bool]; rfl
theorem NOTt : VK P (Op.unary .not (.bool true)) w K = K (.bool false) w := not_ok true
theorem NOTf : VK P (Op.unary .not (.bool false)) w K = K (.bool true) w := not_ok false
section
variable {k : IntKind} {a b : Int}
theorem EQt (h : a = b) (t : TypeId) (x y : Operand) (K : Value → World → Prop) : BK P .eql t x y (.int k a) (.int k b) w K = K (.bool true) w := by rw [BK_eql, h]; simp
theorem EQf (h : a ≠ b) (t : TypeId) (x y : Operand) (K : Value → World → Prop) : BK P .eql t x y (.int k a) (.int k b) w K = K (.bool false) w := by rw [BK_eql, beq_eq_false_iff_ne.2 h]
theorem NEt (h : a ≠ b) (t : TypeId) (x y : Operand) (K : Value → World → Prop) : BK P .neq t x y (.int k a) (.int k b) w K = K (.bool true) w := by rw [BK_neq, bne_iff_ne.2 h]
theorem NEf (h : a = b) (t : TypeId) (x y : Operand) (K : Value → World → Prop) : BK P .neq t x y (.int k a) (.int k b) w K = K (.bool false) w := by rw [BK_neq, h]; simp
end
section
variable {a b : ByteArray}
end
structure FO (P : Program) (w : World) (t : TypeId) (i off : Nat) (a : Addr) (t' : TypeId) (v : Value) : Prop where
  h1 : fieldOff P t i = some off
  h2 : ∀ K : Value → World → Prop, VK P (Instr.loadAt t' (.pointer (some (a.add off)))) w K = K v w
theorem FO.mk' {t t' : TypeId} {i off : Nat} {a : Addr} {v : Value} {d : TypeDesc} (h1 : fieldOff P t i = some off) (h2 : P.underlying t' = some d) (h3 : (match d with | .struct _ | .array _ _ => true | _ => false) = false) (h4 : w.cell? (a.add off) = some v) : FO P w t i off a t' v :=
  ⟨h1, fun K => VK_eq_of (run_ld1 h2 h3 h4)⟩
theorem FO.blk {t t' ty : TypeId} {i off b : Nat} {fr : Nat × Nat} {cs : Array Value} {v : Value} {d : TypeDesc} (hb : w.heap[b]? = some (.cells cs ty fr)) (h1 : fieldOff P t i = some off) (h2 : P.underlying t' = some d) (h3 : (match d with | .struct _ | .array _ _ => true | _ => false) = false) (h4 : cs[off]? = some v) : FO P w t i off ⟨b, 0, none⟩ t' v :=
  FO.mk' h1 h2 h3 (by rw [add_pl, Nat.zero_add, cell_blk hb]; exact h4)
theorem FO.e {t t' : TypeId} {i off : Nat} {a : Addr} {v : Value} (h : FO P w t i off a t' v) (K : Value → Value → World → Prop) :
    (VK P (Instr.fieldAt t (.pointer (some a)) i) w fun x w => VK P (Instr.loadAt t' x) w (K x)) = K (.pointer (some (a.add off))) v w := by
  rw [fo h.h1, h.h2]
end
theorem least_of {p : Nat → Prop} : ∀ n, p n → ∃ m, p m ∧ ∀ k, p k → m ≤ k := by
  intro n
  induction n using Nat.strongRecOn with
  | ind n ih =>
    intro hn
    by_cases h : ∃ k, k < n ∧ p k
    · obtain ⟨k, hk, hp⟩ := h
      exact ih k hk hp
    · exact ⟨n, hn, fun k hk => Nat.le_of_not_lt fun q => h ⟨k, q, hk⟩⟩
open Classical in
theorem W_loopG {P : Program} {z : At} {n : Nat} {c : Code} {K : Exit → Sl → World → Prop} {ρ : Sl} {w : World} (hd : dstOk n c = true) (I : Nat → Sl → World → Prop) (m : Nat) (h0 : I m ρ w)
    (round : ∀ m ρ w, I m ρ w → sx z P n c (seqK (fun ρ' w' => ∃ m', m' < m ∧ I m' ρ' w') K) ρ w) : W z P n (.loop c) K ρ w := by
  intro a hl
  have hmin : ∀ {ρ w}, (∃ m, I m ρ w) → ∃ m, I m ρ w ∧ ∀ k, I k ρ w → m ≤ k := fun ⟨m, h⟩ => least_of m h
  let μ : Sl → World → Nat := fun ρ w => if h : ∃ m, I m ρ w then Classical.choose (hmin h) else 0
  let M : Act → World → Nat := fun a w => μ (fun i => a.tmps.getD i undef) w
  have hM : ∀ a ρ w, Lk z n a ρ → M a w = μ ρ w := by
    intro a ρ w hl
    have : (fun i => a.tmps.getD i undef) = ρ := funext hl.val
    show μ (fun i => a.tmps.getD i undef) w = μ ρ w
    rw [this]
  refine wpIn_loop (fun a w => ∃ ρ, Lk z n a ρ ∧ ∃ m, I m ρ w) M ⟨ρ, hl, m, h0⟩ ?_
  rintro a w ⟨ρ, hl, hI⟩
  obtain ⟨hs, hle⟩ := Classical.choose_spec (hmin hI)
  have hμ : μ ρ w = Classical.choose (hmin hI) := dif_pos hI
  refine wpIn_mono (sx_W c _ ρ w hd (round _ ρ w hs) a hl) ?_
  rintro e a' w' ⟨ρ', hl', hk⟩
  cases e with
  | normal =>
    obtain ⟨m', hlt, hI'⟩ := hk
    refine ⟨⟨ρ', hl', m', hI'⟩, ?_⟩
    rw [hM a' ρ' w' hl', hM a ρ w hl, hμ]
    have h' : ∃ m, I m ρ' w' := ⟨m', hI'⟩
    have : μ ρ' w' = Classical.choose (hmin h') := dif_pos h'
    rw [this]
    exact Nat.lt_of_le_of_lt ((Classical.choose_spec (hmin h')).2 _ hI') hlt
  | exit id => exact ⟨ρ', hl', hk⟩
  | goto l => exact ⟨ρ', hl', hk⟩
  | ret => exact ⟨ρ', hl', hk⟩
  | panic c => exact ⟨ρ', hl', hk⟩
  | outgrown => exact ⟨ρ', hl', hk⟩
end Go.X
set_option linter.unusedVariables false
namespace Go.X
open Go Go.RowKit
section
variable {P : Program} {w : World} {K : Value → World → Prop}
theorem stS {t ty : TypeId} {b : Nat} {old cs : Array Value} {x v : Value} (hx : x = .pointer (some ⟨b, 0, none⟩)) (hv : v = .agg cs) (hi : (P.info? t).map (·.size) = some cs.size) (ho : old.size = cs.size) (h1 : cs.all (·.oneCell') = true) (hb : w.heap[b]? = some (.cells old ty (0, 0)))
    (hk : ∀ w', w'.heap[b]? = some (.cells cs ty (0, 0)) → Mod (fun i => i = b) w w' → w'.heap.size = w.heap.size → K undef w') : UK P (Instr.storeAt t x v) w K := by
  rw [hx, hv]
  exact stB hi ho h1 hb (hk _ (setB_new _ _ _ (blk_lt hb)) ((Mod.refl _ w).set _ (fun _ => rfl)) (by rw [setB_size]))
theorem stC {t ty : TypeId} {b o : Nat} {cs : Array Value} {x v : Value} (hx : x = .pointer (some ⟨b, o, none⟩)) (hc1 : P.cellsOf t = 1) (hv : v.oneCell' = true) (hb : w.heap[b]? = some (.cells cs ty (0, 0))) (ho : o < cs.size)
    (hk : ∀ w', w'.heap[b]? = some (.cells (cs.setIfInBounds o v) ty (0, 0)) → Mod (fun i => i = b) w w' → w'.heap.size = w.heap.size → K undef w') : UK P (Instr.storeAt t x v) w K := by
  rw [hx]
  exact st1 hc1 hv hb ho (hk _ (setB_new _ _ _ (blk_lt hb)) ((Mod.refl _ w).set _ (fun _ => rfl)) (by rw [setB_size]))
theorem FAt.vs {t t' : TypeId} {i : Nat} {a : Addr} {v x : Value} {K : Value → Value → World → Prop} (h : FAt P w t i a t' v) (hx : x = .pointer (some a)) (hk : ∀ y, K y v w) : VK P (Instr.fieldAt t x i) w fun y w => VK P (Instr.loadAt t' y) w (K y) := by
  rw [hx]; exact h.vk' hk
theorem CK_eq {f g : Value} {as1 bs : List Value} (hf : f = g) (h : as1 = bs) (hk : CK P g bs w K) : CK P f as1 w K := by rw [hf, h]; exact hk
theorem rtCell {t ty : TypeId} {d : TypeDesc} {b i : Nat} {cs : Array Value} {R : Value → World → Prop} {ρ : Sl} (hx : ρ i = .pointer (some ⟨b, 0, none⟩)) (hu : P.underlying t = some d) (hd : (match d with | .struct _ | .array _ _ => true | _ => false) = true) (hi : (P.info? t).map (·.size) = some cs.size) (hb : w.heap[b]? = some (.cells cs ty (0, 0))) (hk : R (.agg cs) w) :
    retK P [ResultVar.cell i t] R .ret ρ w := by
  show ∃ v, (do loadVar t (← asAddr (ρ i)) : Sem Value).run P w = .ok v w ∧ R v w
  rw [hx]
  exact ⟨_, res_ld (run_ldB hu hd hi hb), hk⟩
theorem rsCell {t ty : TypeId} {d : TypeDesc} {b : Nat} {cs : Array Value} {R : Value → World → Prop} {x : Value} (hx : x = .pointer (some ⟨b, 0, none⟩)) (hu : P.underlying t = some d) (hd : (match d with | .struct _ | .array _ _ => true | _ => false) = true) (hi : (P.info? t).map (·.size) = some cs.size) (hb : w.heap[b]? = some (.cells cs ty (0, 0))) (hk : R (.agg cs) w) :
    ∃ v, (do loadVar t (← asAddr x) : Sem Value).run P w = .ok v w ∧ R v w := by
  rw [hx]
  exact ⟨_, res_ld (run_ldB hu hd hi hb), hk⟩
end
end Go.X
set_option linter.unusedVariables false
set_option linter.unusedSimpArgs false
set_option maxRecDepth 4000
namespace Go.X
open Go Go.RowKit
theorem run_append_none {P : Program} (w : World) (base : Nat) (t ty e : TypeId) (i : TypeInfo) (size c2 : Nat) (ht : P.underlying t = some (.slice e)) (hi : P.info? e = some i) (v : Value) (n : Nat) (xs : List Value) (hown : w.ownsRow base e size v n xs) :
    (Builtin.append_ #[t, t] ty #[v, .slice none 0 c2]).run P w = .ok v w := by
  rcases hown.2 with ⟨rfl, rfl⟩ | ⟨g, cap, cur, rfl, _, _, hnc, _⟩
  · simp [Builtin.append_, run_underlying ht, sizeOf, typeInfo, hi, Builtin.lenOf, Builtin.firstCells]
  · simp [Builtin.append_, run_underlying ht, sizeOf, typeInfo, hi, Builtin.lenOf, Builtin.firstCells, hnc, storeCells]
theorem ap_any {P : Program} {w : World} {K : Value → World → Prop} {t ty e : TypeId} {size bytes base : Nat} (hE : elemOk P t e size bytes = true) {v : Value} {n : Nat} {xs : List Value} (hown : w.ownsRow base e size v n xs) {v2 : Value} {m : Nat} {news : List Value} (hr : reads w size v2 m news) (h1 : ∀ u ∈ news, u.oneCell' = true)
    (h63 : n + m ≤ maxLen) (hbytes : (n + m) * bytes ≤ 140737488355328) (hbase : base ≤ w.heap.size)
    (hk : ∀ v' w', w'.ownsRow base e size v' (n + m) (xs ++ news) → Mod (fun k => some k = v.ownBlock) w w' → (v'.ownBlock = v.ownBlock ∨ v'.ownBlock = some w.heap.size) → K v' w') : IK P .append #[t, t] ty [false, false] [v, v2] w K := by
  have hE' := hE
  unfold elemOk at hE
  split at hE
  · rename_i e' i hu hi
    simp only [Bool.and_eq_true, beq_iff_eq] at hE
    obtain ⟨⟨⟨⟨rfl, hz⟩, hs⟩, hb⟩, hp⟩ := hE
    split at hz
    · rename_i z hzz
      have hz : z.cells.size = size := by simpa using hz
      have hpos : 0 < size := Nat.le_of_ble_eq_true hp
      obtain ⟨hl, A, c, rfl, _, hrd⟩ := hr
      cases A with
      | none =>
        have h0 : news = [] := by
          rcases Nat.eq_zero_or_pos news.length with q | q
          · exact List.length_eq_zero_iff.1 q
          · obtain ⟨a, ha, _⟩ := hrd 0 _ (List.getElem?_eq_getElem q)
            cases ha
        subst h0
        have hm0 : m = 0 := by
          rcases Nat.eq_zero_or_pos m with q | q
          · exact q
          · have := Nat.mul_pos q hpos; simp at hl; omega
        subst hm0
        refine IK_of (s := Builtin.append_ #[t, t] ty #[v, .slice none 0 c]) rfl (run_append_none w base t ty _ i size c hu hi v n xs hown) (hk v w (by simpa using hown) (Mod.refl _ _) (.inl rfl))
      | some a =>
        obtain ⟨v', w', hrun, h2, h3, h4, h5⟩ := run_append_own_at (P := P) w base t ty _ i z size bytes hu hi hzz hs hb hz hpos v n xs hown a m c news hl (fun j u hj => by obtain ⟨a', ha, hc⟩ := hrd j u hj; cases ha; exact hc) h1 h63 hbytes hbase
        exact IK_of (s := Builtin.append_ #[t, t] ty #[v, .slice (some a) m c]) rfl hrun (hk v' w' h2 (Mod.ofGrown h3) h5)
    · cases hz
  · cases hE
end Go.X
set_option linter.unusedVariables false
set_option linter.unusedSimpArgs false
set_option maxRecDepth 4000
namespace Go.Proofs.Ytmbgbffgkdcieaa.Tr
open Go Go.X Go.RowKit Go.Proofs.Ytmbgbffgkdcieaa.XF Go.Proofs.Ytmbgbffgkdcieaa.XK
theorem vU8 : Try.prog.underlying 5 = some (.int .u8) := by kernel_rfl
theorem vI : Try.prog.underlying 3 = some (.int .i64) := by kernel_rfl
theorem vN : Try.prog.underlying 2 = some (.int .i64) := by kernel_rfl
theorem vB : Try.prog.underlying 4 = some .bool := by kernel_rfl
theorem vIs : Try.prog.underlying 26 = some (.slice 3) := by kernel_rfl
theorem vNs : Try.prog.underlying 22 = some (.slice 2) := by kernel_rfl
theorem vCs : Try.prog.underlying 25 = some (.slice 30) := by kernel_rfl
theorem cI : Try.prog.cellsOf 3 = 1 := by kernel_rfl
theorem cN : Try.prog.cellsOf 2 = 1 := by kernel_rfl
theorem cC : Try.prog.cellsOf 30 = 2 := by kernel_rfl
theorem truth_ok (b : Bool) (w : World) : Rt Try.prog 29 #[.bool b] w fun v w' => v = .int .i64 (truV b) ∧ w' = w := by
  refine vm_truth_calls ?_
  unfold vm_truth_F
  cases b <;> simp only [CDt, CDf] <;> exact ⟨by trivial, by trivial⟩
theorem in_ok (n m : Int) (w : World) : Rt Try.prog 51 #[.int .i64 n, .int .i64 m] w fun v w' => v = .bool (inV n m) ∧ w' = w := by
  refine code_in_calls ?_
  unfold code_in_F inV
  rw [BK_geq]
  by_cases h : 0 ≤ n
  · simp only [h, decide_true, ↓VG_u, ↓UG_u, ↓MG_u, ↓NG_u, ↓PG_u, ↓BG_u, ↓CG_u, ↓IG_u, ↓VGtt, ↓VGtf, ↓VGft, ↓VGff, ↓UGtt, ↓UGtf, ↓UGft, ↓UGff, ↓MGtt, ↓MGtf, ↓MGft, ↓MGff, ↓NGtt, ↓NGtf, ↓NGft, ↓NGff, ↓PGtt, ↓PGtf, ↓PGft, ↓PGff, ↓BGtt, ↓BGtf, ↓BGft, ↓BGff, ↓CGtt, ↓CGtf, ↓CGft, ↓CGff, ↓IGtt, ↓IGtf, ↓IGft, ↓IGff, ↓PKt, ↓PKf, ↓CDt, ↓CDf, ↓NOTt, ↓NOTf, ↓NK_ptr, BK_lss]
    exact ⟨by simp, trivial⟩
  · simp only [h, decide_false, ↓VG_u, ↓UG_u, ↓MG_u, ↓NG_u, ↓PG_u, ↓BG_u, ↓CG_u, ↓IG_u, ↓VGtt, ↓VGtf, ↓VGft, ↓VGff, ↓UGtt, ↓UGtf, ↓UGft, ↓UGff, ↓MGtt, ↓MGtf, ↓MGft, ↓MGff, ↓NGtt, ↓NGtf, ↓NGft, ↓NGff, ↓PGtt, ↓PGtf, ↓PGft, ↓PGff, ↓BGtt, ↓BGtf, ↓BGft, ↓BGff, ↓CGtt, ↓CGtf, ↓CGft, ↓CGff, ↓IGtt, ↓IGtf, ↓IGft, ↓IGff, ↓PKt, ↓PKf, ↓CDt, ↓CDf, ↓NOTt, ↓NOTf, ↓NK_ptr]
    exact ⟨by simp, trivial⟩
theorem BK_quo {P : Program} {w : World} {K : Value → World → Prop} {t : TypeId} {x y : Operand} {a b : Int} (hb : b ≠ 0) : BK P .quo t x y (.int .i64 a) (.int .i64 b) w K = K (.int .i64 (IntKind.i64.wrap (a.tdiv b))) w := by
  refine BK_of rfl ?_
  rw [binOp_quo]
  simp [Op.intDiv, hb]
theorem conv_k {w : World} {K : Value → World → Prop} {src dst : TypeId} {q k : IntKind} {n : Int} (hs : (Try.prog.underlying src).isSome = true) (hd : Try.prog.underlying dst = some (.int k)) : VK Try.prog (convert src dst (.int q n)) w K = K (.int k (k.wrap n)) w := by
  have ek : Try.prog.intKind dst = k := by simp [Program.intKind, hd]
  have := run_convert_int (P := Try.prog) w src dst q n hs (by rw [ek]; exact hd)
  rw [ek] at this
  exact VK_eq_of this
def lm (k : Int) : Int × Int := (isCall k).getD (0, 0)
theorem args_R5 {K : Exit → Sl → World → Prop} {ρ : Sl} {w : World} {k : Int} {b : Bool} (h3 : ρ 3 = .int .u8 k) (h36 : ρ 36 = .bool b) (hb : b = true → lm k = (1, 1)) (hn : b = false → k ≠ 8 ∧ k ≠ 11 ∧ k ≠ 15 ∧ k ≠ 20 ∧ k ≠ 22 ∧ ¬ (1 ≤ k ∧ k ≤ 5) ∧ k ≠ 9 ∧ k ≠ 10 ∧ k ≠ 12) (h6 : ρ 6 = .int .i64 0) (h7 : ρ 7 = .int .i64 0)
    (hK : ∀ ρ' : Sl, ρ' 3 = ρ 3 → ρ' 4 = ρ 4 → ρ' 5 = ρ 5 → ρ' 6 = .int .i64 (lm k).1 → ρ' 7 = .int .i64 (lm k).2 → K .normal ρ' w) : sx fn_ Try.prog 82 code_args_R5 K ρ w := by
  rw [code_args_R5_eq]; unfold code_args_R5_F
  rw [h36]
  cases b with
  | true => refine condT ?_; exact hK _ rfl rfl rfl (by rw [hb rfl]; rfl) (by rw [hb rfl]; rfl)
  | false =>
    refine condF ?_
    obtain ⟨n1, n2, n3, n4, n5, n6, n7, n8, n9⟩ := hn rfl
    rw [h3]
    refine caseI (fun q => ?_) (fun q => ?_)
    · refine condT ?_; exact hK _ rfl rfl rfl (by rw [q]; rfl) (by rw [q]; rfl)
    refine condF ?_
    rw [BK_geq]
    by_cases c1 : 1 ≤ k
    · simp only [c1, decide_true, ↓VG_u, ↓UG_u, ↓MG_u, ↓NG_u, ↓PG_u, ↓BG_u, ↓CG_u, ↓IG_u, ↓VGtt, ↓VGtf, ↓VGft, ↓VGff, ↓UGtt, ↓UGtf, ↓UGft, ↓UGff, ↓MGtt, ↓MGtf, ↓MGft, ↓MGff, ↓NGtt, ↓NGtf, ↓NGft, ↓NGff, ↓PGtt, ↓PGtf, ↓PGft, ↓PGff, ↓BGtt, ↓BGtf, ↓BGft, ↓BGff, ↓CGtt, ↓CGtf, ↓CGft, ↓CGff, ↓IGtt, ↓IGtf, ↓IGft, ↓IGff, ↓PKt, ↓PKf, ↓CDt, ↓CDf, ↓NOTt, ↓NOTf, ↓NK_ptr, ↓BK_leq]
      by_cases c2 : k ≤ 22
      · simp only [c2, decide_true, ↓VG_u, ↓UG_u, ↓MG_u, ↓NG_u, ↓PG_u, ↓BG_u, ↓CG_u, ↓IG_u, ↓VGtt, ↓VGtf, ↓VGft, ↓VGff, ↓UGtt, ↓UGtf, ↓UGft, ↓UGff, ↓MGtt, ↓MGtf, ↓MGft, ↓MGff, ↓NGtt, ↓NGtf, ↓NGft, ↓NGff, ↓PGtt, ↓PGtf, ↓PGft, ↓PGff, ↓BGtt, ↓BGtf, ↓BGft, ↓BGff, ↓CGtt, ↓CGtf, ↓CGft, ↓CGff, ↓IGtt, ↓IGtf, ↓IGft, ↓IGff, ↓PKt, ↓PKf, ↓CDt, ↓CDf, ↓NOTt, ↓NOTf, ↓NK_ptr]
        have e : lm k = (3, 3) := by unfold lm isCall; rw [if_neg n6, if_neg (by omega), if_neg (by omega), if_neg q, if_pos ⟨c1, c2⟩]; rfl
        exact hK _ rfl rfl rfl (by rw [e]; rfl) (by rw [e]; rfl)
      · simp only [c2, decide_false, ↓VG_u, ↓UG_u, ↓MG_u, ↓NG_u, ↓PG_u, ↓BG_u, ↓CG_u, ↓IG_u, ↓VGtt, ↓VGtf, ↓VGft, ↓VGff, ↓UGtt, ↓UGtf, ↓UGft, ↓UGff, ↓MGtt, ↓MGtf, ↓MGft, ↓MGff, ↓NGtt, ↓NGtf, ↓NGft, ↓NGff, ↓PGtt, ↓PGtf, ↓PGft, ↓PGff, ↓BGtt, ↓BGtf, ↓BGft, ↓BGff, ↓CGtt, ↓CGtf, ↓CGft, ↓CGff, ↓IGtt, ↓IGtf, ↓IGft, ↓IGff, ↓PKt, ↓PKf, ↓CDt, ↓CDf, ↓NOTt, ↓NOTf, ↓NK_ptr]
        have e : lm k = (0, 0) := by unfold lm isCall; rw [if_neg n6, if_neg (by omega), if_neg (by omega), if_neg q, if_neg (by omega)]; rfl
        exact hK _ rfl rfl rfl (by rw [e]; exact h6) (by rw [e]; exact h7)
    · simp only [c1, decide_false, ↓VG_u, ↓UG_u, ↓MG_u, ↓NG_u, ↓PG_u, ↓BG_u, ↓CG_u, ↓IG_u, ↓VGtt, ↓VGtf, ↓VGft, ↓VGff, ↓UGtt, ↓UGtf, ↓UGft, ↓UGff, ↓MGtt, ↓MGtf, ↓MGft, ↓MGff, ↓NGtt, ↓NGtf, ↓NGft, ↓NGff, ↓PGtt, ↓PGtf, ↓PGft, ↓PGff, ↓BGtt, ↓BGtf, ↓BGft, ↓BGff, ↓CGtt, ↓CGtf, ↓CGft, ↓CGff, ↓IGtt, ↓IGtf, ↓IGft, ↓IGff, ↓PKt, ↓PKf, ↓CDt, ↓CDf, ↓NOTt, ↓NOTf, ↓NK_ptr]
      have e : lm k = (0, 0) := by unfold lm isCall; rw [if_neg n6, if_neg (by omega), if_neg (by omega), if_neg q, if_neg (by omega)]; rfl
      exact hK _ rfl rfl rfl (by rw [e]; exact h6) (by rw [e]; exact h7)
theorem args_R4 {K : Exit → Sl → World → Prop} {ρ : Sl} {w : World} {k : Int} {b : Bool} (h3 : ρ 3 = .int .u8 k) (h29 : ρ 29 = .bool b) (hb : b = true → lm k = (1, 8)) (hn : b = false → ¬ (1 ≤ k ∧ k ≤ 5) ∧ k ≠ 9 ∧ k ≠ 10 ∧ k ≠ 12) (h6 : ρ 6 = .int .i64 0) (h7 : ρ 7 = .int .i64 0)
    (hK : ∀ ρ' : Sl, ρ' 3 = ρ 3 → ρ' 4 = ρ 4 → ρ' 5 = ρ 5 → ρ' 6 = .int .i64 (lm k).1 → ρ' 7 = .int .i64 (lm k).2 → K .normal ρ' w) : sx fn_ Try.prog 82 code_args_R4 K ρ w := by
  rw [code_args_R4_eq]; unfold code_args_R4_F
  rw [h29]
  cases b with
  | true => refine condT ?_; exact hK _ rfl rfl rfl (by rw [hb rfl]; rfl) (by rw [hb rfl]; rfl)
  | false =>
    refine condF ?_
    obtain ⟨n6, n7, n8, n9⟩ := hn rfl
    rw [h3]
    refine caseI (fun q8 => ?_) (fun q8 => ?_)
    · refine condT ?_; exact args_R5 (k := k) (b := true) h3 rfl (fun _ => by rw [q8]; rfl) (fun z => by cases z) h6 h7 hK
    refine condF ?_
    refine caseI (fun q11 => ?_) (fun q11 => ?_)
    · refine condT ?_; exact args_R5 (k := k) (b := true) h3 rfl (fun _ => by rw [q11]; rfl) (fun z => by cases z) h6 h7 hK
    refine condF ?_
    refine caseI (fun q15 => ?_) (fun q15 => ?_)
    · refine condT ?_; exact args_R5 (k := k) (b := true) h3 rfl (fun _ => by rw [q15]; rfl) (fun z => by cases z) h6 h7 hK
    refine condF ?_
    refine caseI (fun q20 => ?_) (fun q20 => ?_)
    · refine condT ?_; exact args_R5 (k := k) (b := true) h3 rfl (fun _ => by rw [q20]; rfl) (fun z => by cases z) h6 h7 hK
    refine condF ?_
    refine caseI (fun q22 => ?_) (fun q22 => ?_)
    · exact args_R5 (k := k) (b := true) h3 rfl (fun _ => by rw [q22]; rfl) (fun z => by cases z) h6 h7 hK
    exact args_R5 (k := k) (b := false) h3 rfl (fun z => by cases z) (fun _ => ⟨q8, q11, q15, q20, q22, n6, n7, n8, n9⟩) h6 h7 hK
theorem args_R1 {K : Exit → Sl → World → Prop} {ρ : Sl} {w : World} {k : Int} (h3 : ρ 3 = .int .u8 k) (h22 : ρ 22 = .bool (decide (1 ≤ k ∧ k ≤ 5))) (h6 : ρ 6 = .int .i64 0) (h7 : ρ 7 = .int .i64 0)
    (hK : ∀ ρ' : Sl, ρ' 3 = ρ 3 → ρ' 4 = ρ 4 → ρ' 5 = ρ 5 → ρ' 6 = .int .i64 (lm k).1 → ρ' 7 = .int .i64 (lm k).2 → K .normal ρ' w) : sx fn_ Try.prog 82 code_args_R1 K ρ w := by
  rw [code_args_R1_eq]; unfold code_args_R1_F
  rw [h22]
  by_cases c : 1 ≤ k ∧ k ≤ 5
  · rw [decide_eq_true c]
    have e : lm k = (5, 5) := by unfold lm isCall; rw [if_pos c]; rfl
    refine condT ?_; exact hK _ rfl rfl rfl (by rw [e]; rfl) (by rw [e]; rfl)
  rw [decide_eq_false c]
  refine condF ?_
  rw [h3]
  refine caseI (fun q9 => ?_) (fun q9 => ?_)
  · refine condT ?_; exact args_R4 (k := k) (b := true) h3 rfl (fun _ => by rw [q9]; rfl) (fun z => by cases z) h6 h7 hK
  refine condF ?_
  refine caseI (fun q10 => ?_) (fun q10 => ?_)
  · refine condT ?_; exact args_R4 (k := k) (b := true) h3 rfl (fun _ => by rw [q10]; rfl) (fun z => by cases z) h6 h7 hK
  refine condF ?_
  refine caseI (fun q12 => ?_) (fun q12 => ?_)
  · exact args_R4 (k := k) (b := true) h3 rfl (fun _ => by rw [q12]; rfl) (fun z => by cases z) h6 h7 hK
  exact args_R4 (k := k) (b := false) h3 rfl (fun z => by cases z) (fun _ => ⟨c, q9, q10, q12⟩) h6 h7 hK
theorem args_ok (n : Int) (w : World) : Rt Try.prog 52 #[.int .i64 n] w fun v w' => v = .int .i64 (argsV n) ∧ w' = w := by
  refine code_args_calls ?_
  unfold code_args_F
  rw [BK_lss]
  by_cases h : n < 0
  · simp only [h, decide_true, ↓VG_u, ↓UG_u, ↓MG_u, ↓NG_u, ↓PG_u, ↓BG_u, ↓CG_u, ↓IG_u, ↓VGtt, ↓VGtf, ↓VGft, ↓VGff, ↓UGtt, ↓UGtf, ↓UGft, ↓UGff, ↓MGtt, ↓MGtf, ↓MGft, ↓MGff, ↓NGtt, ↓NGtf, ↓NGft, ↓NGff, ↓PGtt, ↓PGtf, ↓PGft, ↓PGff, ↓BGtt, ↓BGtf, ↓BGft, ↓BGff, ↓CGtt, ↓CGtf, ↓CGft, ↓CGff, ↓IGtt, ↓IGtf, ↓IGft, ↓IGff, ↓PKt, ↓PKf, ↓CDt, ↓CDf, ↓NOTt, ↓NOTf, ↓NK_ptr]
    exact ⟨by unfold argsV; rw [if_pos (.inl h)], by trivial⟩
  simp only [h, decide_false, ↓VG_u, ↓UG_u, ↓MG_u, ↓NG_u, ↓PG_u, ↓BG_u, ↓CG_u, ↓IG_u, ↓VGtt, ↓VGtf, ↓VGft, ↓VGff, ↓UGtt, ↓UGtf, ↓UGft, ↓UGff, ↓MGtt, ↓MGtf, ↓MGft, ↓MGff, ↓NGtt, ↓NGtf, ↓NGft, ↓NGff, ↓PGtt, ↓PGtf, ↓PGft, ↓PGff, ↓BGtt, ↓BGtf, ↓BGft, ↓BGff, ↓CGtt, ↓CGtf, ↓CGft, ↓CGff, ↓IGtt, ↓IGtf, ↓IGft, ↓IGff, ↓PKt, ↓PKf, ↓CDt, ↓CDf, ↓NOTt, ↓NOTf, ↓NK_ptr, ↓BK_geq]
  by_cases h2 : 3072 ≤ n
  · simp only [h2, decide_true, ↓VG_u, ↓UG_u, ↓MG_u, ↓NG_u, ↓PG_u, ↓BG_u, ↓CG_u, ↓IG_u, ↓VGtt, ↓VGtf, ↓VGft, ↓VGff, ↓UGtt, ↓UGtf, ↓UGft, ↓UGff, ↓MGtt, ↓MGtf, ↓MGft, ↓MGff, ↓NGtt, ↓NGtf, ↓NGft, ↓NGff, ↓PGtt, ↓PGtf, ↓PGft, ↓PGff, ↓BGtt, ↓BGtf, ↓BGft, ↓BGff, ↓CGtt, ↓CGtf, ↓CGft, ↓CGff, ↓IGtt, ↓IGtf, ↓IGft, ↓IGff, ↓PKt, ↓PKf, ↓CDt, ↓CDf, ↓NOTt, ↓NOTf, ↓NK_ptr]
    exact ⟨by unfold argsV; rw [if_pos (.inr h2)], by trivial⟩
  simp only [h2, decide_false, ↓VG_u, ↓UG_u, ↓MG_u, ↓NG_u, ↓PG_u, ↓BG_u, ↓CG_u, ↓IG_u, ↓VGtt, ↓VGtf, ↓VGft, ↓VGff, ↓UGtt, ↓UGtf, ↓UGft, ↓UGff, ↓MGtt, ↓MGtf, ↓MGft, ↓MGff, ↓NGtt, ↓NGtf, ↓NGft, ↓NGff, ↓PGtt, ↓PGtf, ↓PGft, ↓PGff, ↓BGtt, ↓BGtf, ↓BGft, ↓BGff, ↓CGtt, ↓CGtf, ↓CGft, ↓CGff, ↓IGtt, ↓IGtf, ↓IGft, ↓IGff, ↓PKt, ↓PKf, ↓CDt, ↓CDf, ↓NOTt, ↓NOTf, ↓NK_ptr]
  rw [BK_rem (by decide), Int.tmod_eq_emod_of_nonneg (by omega), conv_k (by kernel_rfl) vU8]
  rw [BK_rem (by decide), Int.tmod_eq_emod_of_nonneg (by omega), BK_quo (by decide), Int.tdiv_eq_ediv_of_nonneg (by omega), BK_quo (by decide), Int.tdiv_eq_ediv_of_nonneg (by omega)]
  rw [wrap_i (n := n % 1024 / 32) (by omega) (by omega), wrap_i (n := n / 1024) (by omega) (by omega)]
  have hk : IntKind.u8.wrap (n % 32) = n % 32 := by rw [IntKind.wrap_u8]; omega
  rw [hk, BK_geq]
  have fin : ∀ (ρ : Sl) (b : Bool), ρ 80 = .bool b → ρ 4 = .int .i64 (n % 1024 / 32) → (b = true → argsV n = -1) → (b = false → argsV n = n % 1024 / 32) →
      sx fn_ Try.prog 82 code_args_R2 (seqK (sx fn_ Try.prog 82 code_args_R3 (retK Try.prog [ResultVar.tmp 2] fun v w' => v = .int .i64 (argsV n) ∧ w' = w)) (retK Try.prog [ResultVar.tmp 2] fun v w' => v = .int .i64 (argsV n) ∧ w' = w)) ρ w := by
    intro ρ b g80 g4 e1 e2
    rw [code_args_R2_eq]; unfold code_args_R2_F
    rw [g80]
    cases b with
    | true => refine condT ?_; exact ⟨by rw [e1 rfl]; rfl, rfl⟩
    | false =>
      refine condF ?_
      rw [sq_n, code_args_R3_eq]; unfold code_args_R3_F
      exact ⟨by rw [e2 rfl, ← g4]; rfl, rfl⟩
  have ev : argsV n = match isCall (n % 32) with | none => -1 | some (a, b) => if n % 1024 / 32 < a ∨ b < n % 1024 / 32 ∨ (0 < n / 1024 ∧ n % 32 ≠ 17 ∧ n % 32 ≠ 18) then -1 else n % 1024 / 32 := by
    unfold argsV; rw [if_neg (by omega)]; cases isCall (n % 32) <;> rfl
  have el : lm (n % 32) = (isCall (n % 32)).getD (0, 0) := rfl
  have ei : ∀ a b, isCall (n % 32) = some (a, b) → 1 ≤ b := fun a b hq => by
    unfold isCall at hq
    repeat' split at hq
    all_goals first | (injection hq with hq; injection hq with h1 h2; omega) | cases hq
  generalize hmm : n % 1024 / 32 = m at *
  generalize hrr : n / 1024 = r at *
  generalize hkk : n % 32 = k at *
  have key : ∀ ρ : Sl, ρ 3 = .int .u8 k → ρ 4 = .int .i64 m → ρ 5 = .int .i64 r → ρ 6 = .int .i64 (lm k).1 → ρ 7 = .int .i64 (lm k).2 →
      sx fn_ Try.prog 82 code_args_R0 (retK Try.prog [ResultVar.tmp 2] fun v w' => v = .int .i64 (argsV n) ∧ w' = w) ρ w := by
    intro ρ g3 g4 g5 g6 g7
    rw [code_args_R0_eq]; unfold code_args_R0_F
    rw [g3, g4, g5, g6, g7, BK_eql]
    cases hic : isCall k with
    | none =>
      rw [hic] at ev el
      dsimp only at ev
      rw [el]
      simp only [Option.getD_none, beq_self_eq_true, ↓VG_u, ↓UG_u, ↓MG_u, ↓NG_u, ↓PG_u, ↓BG_u, ↓CG_u, ↓IG_u, ↓VGtt, ↓VGtf, ↓VGft, ↓VGff, ↓UGtt, ↓UGtf, ↓UGft, ↓UGff, ↓MGtt, ↓MGtf, ↓MGft, ↓MGff, ↓NGtt, ↓NGtf, ↓NGft, ↓NGff, ↓PGtt, ↓PGtf, ↓PGft, ↓PGff, ↓BGtt, ↓BGtf, ↓BGft, ↓BGff, ↓CGtt, ↓CGtf, ↓CGft, ↓CGff, ↓IGtt, ↓IGtf, ↓IGft, ↓IGff, ↓PKt, ↓PKf, ↓CDt, ↓CDf, ↓NOTt, ↓NOTf, ↓NK_ptr]
      exact fin _ true rfl (by exact g4) (fun _ => ev) (fun q => by cases q)
    | some ab =>
      obtain ⟨a, b⟩ := ab
      have hb1 := ei a b hic
      rw [hic] at ev el
      dsimp only at ev
      rw [el]
      simp only [Option.getD_some, beq_eq_false_iff_ne.2 (show b ≠ 0 by omega), ↓VG_u, ↓UG_u, ↓MG_u, ↓NG_u, ↓PG_u, ↓BG_u, ↓CG_u, ↓IG_u, ↓VGtt, ↓VGtf, ↓VGft, ↓VGff, ↓UGtt, ↓UGtf, ↓UGft, ↓UGff, ↓MGtt, ↓MGtf, ↓MGft, ↓MGff, ↓NGtt, ↓NGtf, ↓NGft, ↓NGff, ↓PGtt, ↓PGtf, ↓PGft, ↓PGff, ↓BGtt, ↓BGtf, ↓BGft, ↓BGff, ↓CGtt, ↓CGtf, ↓CGft, ↓CGff, ↓IGtt, ↓IGtf, ↓IGft, ↓IGff, ↓PKt, ↓PKf, ↓CDt, ↓CDf, ↓NOTt, ↓NOTf, ↓NK_ptr, ↓BK_lss]
      by_cases c1 : m < a
      · simp only [c1, decide_true, ↓VG_u, ↓UG_u, ↓MG_u, ↓NG_u, ↓PG_u, ↓BG_u, ↓CG_u, ↓IG_u, ↓VGtt, ↓VGtf, ↓VGft, ↓VGff, ↓UGtt, ↓UGtf, ↓UGft, ↓UGff, ↓MGtt, ↓MGtf, ↓MGft, ↓MGff, ↓NGtt, ↓NGtf, ↓NGft, ↓NGff, ↓PGtt, ↓PGtf, ↓PGft, ↓PGff, ↓BGtt, ↓BGtf, ↓BGft, ↓BGff, ↓CGtt, ↓CGtf, ↓CGft, ↓CGff, ↓IGtt, ↓IGtf, ↓IGft, ↓IGff, ↓PKt, ↓PKf, ↓CDt, ↓CDf, ↓NOTt, ↓NOTf, ↓NK_ptr]
        exact fin _ true rfl (by exact g4) (fun _ => by rw [ev, if_pos (.inl c1)]) (fun q => by cases q)
      simp only [c1, decide_false, ↓VG_u, ↓UG_u, ↓MG_u, ↓NG_u, ↓PG_u, ↓BG_u, ↓CG_u, ↓IG_u, ↓VGtt, ↓VGtf, ↓VGft, ↓VGff, ↓UGtt, ↓UGtf, ↓UGft, ↓UGff, ↓MGtt, ↓MGtf, ↓MGft, ↓MGff, ↓NGtt, ↓NGtf, ↓NGft, ↓NGff, ↓PGtt, ↓PGtf, ↓PGft, ↓PGff, ↓BGtt, ↓BGtf, ↓BGft, ↓BGff, ↓CGtt, ↓CGtf, ↓CGft, ↓CGff, ↓IGtt, ↓IGtf, ↓IGft, ↓IGff, ↓PKt, ↓PKf, ↓CDt, ↓CDf, ↓NOTt, ↓NOTf, ↓NK_ptr, ↓BK_gtr]
      by_cases c2 : b < m
      · simp only [c2, decide_true, ↓VG_u, ↓UG_u, ↓MG_u, ↓NG_u, ↓PG_u, ↓BG_u, ↓CG_u, ↓IG_u, ↓VGtt, ↓VGtf, ↓VGft, ↓VGff, ↓UGtt, ↓UGtf, ↓UGft, ↓UGff, ↓MGtt, ↓MGtf, ↓MGft, ↓MGff, ↓NGtt, ↓NGtf, ↓NGft, ↓NGff, ↓PGtt, ↓PGtf, ↓PGft, ↓PGff, ↓BGtt, ↓BGtf, ↓BGft, ↓BGff, ↓CGtt, ↓CGtf, ↓CGft, ↓CGff, ↓IGtt, ↓IGtf, ↓IGft, ↓IGff, ↓PKt, ↓PKf, ↓CDt, ↓CDf, ↓NOTt, ↓NOTf, ↓NK_ptr]
        exact fin _ true rfl (by exact g4) (fun _ => by rw [ev, if_pos (.inr (.inl c2))]) (fun q => by cases q)
      simp only [c2, decide_false, ↓VG_u, ↓UG_u, ↓MG_u, ↓NG_u, ↓PG_u, ↓BG_u, ↓CG_u, ↓IG_u, ↓VGtt, ↓VGtf, ↓VGft, ↓VGff, ↓UGtt, ↓UGtf, ↓UGft, ↓UGff, ↓MGtt, ↓MGtf, ↓MGft, ↓MGff, ↓NGtt, ↓NGtf, ↓NGft, ↓NGff, ↓PGtt, ↓PGtf, ↓PGft, ↓PGff, ↓BGtt, ↓BGtf, ↓BGft, ↓BGff, ↓CGtt, ↓CGtf, ↓CGft, ↓CGff, ↓IGtt, ↓IGtf, ↓IGft, ↓IGff, ↓PKt, ↓PKf, ↓CDt, ↓CDf, ↓NOTt, ↓NOTf, ↓NK_ptr, ↓BK_gtr]
      by_cases c3 : 0 < r
      · simp only [c3, decide_true, ↓VG_u, ↓UG_u, ↓MG_u, ↓NG_u, ↓PG_u, ↓BG_u, ↓CG_u, ↓IG_u, ↓VGtt, ↓VGtf, ↓VGft, ↓VGff, ↓UGtt, ↓UGtf, ↓UGft, ↓UGff, ↓MGtt, ↓MGtf, ↓MGft, ↓MGff, ↓NGtt, ↓NGtf, ↓NGft, ↓NGff, ↓PGtt, ↓PGtf, ↓PGft, ↓PGff, ↓BGtt, ↓BGtf, ↓BGft, ↓BGff, ↓CGtt, ↓CGtf, ↓CGft, ↓CGff, ↓IGtt, ↓IGtf, ↓IGft, ↓IGff, ↓PKt, ↓PKf, ↓CDt, ↓CDf, ↓NOTt, ↓NOTf, ↓NK_ptr, ↓BK_neq]
        by_cases c4 : k = 17
        · simp only [c4, ↓VG_u, ↓UG_u, ↓MG_u, ↓NG_u, ↓PG_u, ↓BG_u, ↓CG_u, ↓IG_u, ↓VGtt, ↓VGtf, ↓VGft, ↓VGff, ↓UGtt, ↓UGtf, ↓UGft, ↓UGff, ↓MGtt, ↓MGtf, ↓MGft, ↓MGff, ↓NGtt, ↓NGtf, ↓NGft, ↓NGff, ↓PGtt, ↓PGtf, ↓PGft, ↓PGff, ↓BGtt, ↓BGtf, ↓BGft, ↓BGff, ↓CGtt, ↓CGtf, ↓CGft, ↓CGff, ↓IGtt, ↓IGtf, ↓IGft, ↓IGff, ↓PKt, ↓PKf, ↓CDt, ↓CDf, ↓NOTt, ↓NOTf, ↓NK_ptr, ↓BK_neq, bne_self_eq_false]
          exact fin _ false rfl (by exact g4) (fun q => by cases q) (fun _ => by rw [ev, if_neg (by omega)])
        · simp only [bne_iff_ne.2 c4, ↓VG_u, ↓UG_u, ↓MG_u, ↓NG_u, ↓PG_u, ↓BG_u, ↓CG_u, ↓IG_u, ↓VGtt, ↓VGtf, ↓VGft, ↓VGff, ↓UGtt, ↓UGtf, ↓UGft, ↓UGff, ↓MGtt, ↓MGtf, ↓MGft, ↓MGff, ↓NGtt, ↓NGtf, ↓NGft, ↓NGff, ↓PGtt, ↓PGtf, ↓PGft, ↓PGff, ↓BGtt, ↓BGtf, ↓BGft, ↓BGff, ↓CGtt, ↓CGtf, ↓CGft, ↓CGff, ↓IGtt, ↓IGtf, ↓IGft, ↓IGff, ↓PKt, ↓PKf, ↓CDt, ↓CDf, ↓NOTt, ↓NOTf, ↓NK_ptr, ↓BK_neq]
          by_cases c5 : k = 18
          · simp only [c5, ↓VG_u, ↓UG_u, ↓MG_u, ↓NG_u, ↓PG_u, ↓BG_u, ↓CG_u, ↓IG_u, ↓VGtt, ↓VGtf, ↓VGft, ↓VGff, ↓UGtt, ↓UGtf, ↓UGft, ↓UGff, ↓MGtt, ↓MGtf, ↓MGft, ↓MGff, ↓NGtt, ↓NGtf, ↓NGft, ↓NGff, ↓PGtt, ↓PGtf, ↓PGft, ↓PGff, ↓BGtt, ↓BGtf, ↓BGft, ↓BGff, ↓CGtt, ↓CGtf, ↓CGft, ↓CGff, ↓IGtt, ↓IGtf, ↓IGft, ↓IGff, ↓PKt, ↓PKf, ↓CDt, ↓CDf, ↓NOTt, ↓NOTf, ↓NK_ptr, ↓BK_neq, bne_self_eq_false]
            exact fin _ false rfl (by exact g4) (fun q => by cases q) (fun _ => by rw [ev, if_neg (by omega)])
          · simp only [bne_iff_ne.2 c5, ↓VG_u, ↓UG_u, ↓MG_u, ↓NG_u, ↓PG_u, ↓BG_u, ↓CG_u, ↓IG_u, ↓VGtt, ↓VGtf, ↓VGft, ↓VGff, ↓UGtt, ↓UGtf, ↓UGft, ↓UGff, ↓MGtt, ↓MGtf, ↓MGft, ↓MGff, ↓NGtt, ↓NGtf, ↓NGft, ↓NGff, ↓PGtt, ↓PGtf, ↓PGft, ↓PGff, ↓BGtt, ↓BGtf, ↓BGft, ↓BGff, ↓CGtt, ↓CGtf, ↓CGft, ↓CGff, ↓IGtt, ↓IGtf, ↓IGft, ↓IGff, ↓PKt, ↓PKf, ↓CDt, ↓CDf, ↓NOTt, ↓NOTf, ↓NK_ptr, ↓BK_neq]
            exact fin _ true rfl (by exact g4) (fun _ => by rw [ev, if_pos (.inr (.inr ⟨c3, c4, c5⟩))]) (fun q => by cases q)
      · simp only [c3, decide_false, ↓VG_u, ↓UG_u, ↓MG_u, ↓NG_u, ↓PG_u, ↓BG_u, ↓CG_u, ↓IG_u, ↓VGtt, ↓VGtf, ↓VGft, ↓VGff, ↓UGtt, ↓UGtf, ↓UGft, ↓UGff, ↓MGtt, ↓MGtf, ↓MGft, ↓MGff, ↓NGtt, ↓NGtf, ↓NGft, ↓NGff, ↓PGtt, ↓PGtf, ↓PGft, ↓PGff, ↓BGtt, ↓BGtf, ↓BGft, ↓BGff, ↓CGtt, ↓CGtf, ↓CGft, ↓CGff, ↓IGtt, ↓IGtf, ↓IGft, ↓IGff, ↓PKt, ↓PKf, ↓CDt, ↓CDf, ↓NOTt, ↓NOTf, ↓NK_ptr]
        exact fin _ false rfl (by exact g4) (fun q => by cases q) (fun _ => by rw [ev, if_neg (by omega)])
  by_cases d1 : 1 ≤ k
  · simp only [d1, decide_true, ↓VG_u, ↓UG_u, ↓MG_u, ↓NG_u, ↓PG_u, ↓BG_u, ↓CG_u, ↓IG_u, ↓VGtt, ↓VGtf, ↓VGft, ↓VGff, ↓UGtt, ↓UGtf, ↓UGft, ↓UGff, ↓MGtt, ↓MGtf, ↓MGft, ↓MGff, ↓NGtt, ↓NGtf, ↓NGft, ↓NGff, ↓PGtt, ↓PGtf, ↓PGft, ↓PGff, ↓BGtt, ↓BGtf, ↓BGft, ↓BGff, ↓CGtt, ↓CGtf, ↓CGft, ↓CGff, ↓IGtt, ↓IGtf, ↓IGft, ↓IGff, ↓PKt, ↓PKf, ↓CDt, ↓CDf, ↓NOTt, ↓NOTf, ↓NK_ptr, ↓BK_leq]
    refine args_R1 (k := k) rfl ?_ rfl rfl fun ρ' a1 a2 a3 a4 a5 => ?_
    · show Value.bool (decide (k ≤ 5)) = _
      simp [d1]
    · exact key ρ' (by rw [a1]; rfl) (by rw [a2]; rfl) (by rw [a3]; rfl) a4 a5
  · simp only [d1, decide_false, ↓VG_u, ↓UG_u, ↓MG_u, ↓NG_u, ↓PG_u, ↓BG_u, ↓CG_u, ↓IG_u, ↓VGtt, ↓VGtf, ↓VGft, ↓VGff, ↓UGtt, ↓UGtf, ↓UGft, ↓UGff, ↓MGtt, ↓MGtf, ↓MGft, ↓MGff, ↓NGtt, ↓NGtf, ↓NGft, ↓NGff, ↓PGtt, ↓PGtf, ↓PGft, ↓PGff, ↓BGtt, ↓BGtf, ↓BGft, ↓BGff, ↓CGtt, ↓CGtf, ↓CGft, ↓CGff, ↓IGtt, ↓IGtf, ↓IGft, ↓IGff, ↓PKt, ↓PKf, ↓CDt, ↓CDf, ↓NOTt, ↓NOTf, ↓NK_ptr]
    refine args_R1 (k := k) rfl ?_ rfl rfl fun ρ' a1 a2 a3 a4 a5 => ?_
    · show Value.bool false = _
      simp [d1]
    · exact key ρ' (by rw [a1]; rfl) (by rw [a2]; rfl) (by rw [a3]; rfl) a4 a5
end Go.Proofs.Ytmbgbffgkdcieaa.Tr
set_option linter.unusedVariables false
set_option linter.unusedSimpArgs false
set_option maxRecDepth 4000
namespace Go.Proofs.Ytmbgbffgkdcieaa.Tr
open Go Go.X Go.RowKit Go.Proofs.Ytmbgbffgkdcieaa.XF Go.Proofs.Ytmbgbffgkdcieaa.XK
def pgC (P : Pg) (A A' : Option Addr) (c c' : Nat) : List Value := [.slice A P.code.length c, .int .i64 P.vars, .slice A' P.arrs.length c']
abbrev TR (P : Pg) (i : Ins) (w0 : World) : Value → World → Prop := fun v w' => v = .tuple #[.int .i64 (P.tk i).1, .int .i64 (P.tk i).2.1, .bool (P.tk i).2.2] ∧ Mod none_ w0 w'
abbrev TK (P : Pg) (i : Ins) (w0 : World) : Exit → Sl → World → Prop := retK Try.prog [ResultVar.tmp 4, ResultVar.tmp 5, ResultVar.tmp 6] (TR P i w0)
abbrev TK2 (P : Pg) (i : Ins) (w0 : World) : Exit → Sl → World → Prop := blkK 0 (seqK (sx fn_ Try.prog 102 code_Program_takes_R2 (TK P i w0)) (TK P i w0))
structure TkC (P : Pg) (i : Ins) (A A' : Option Addr) (c c' : Nat) (w0 w : World) (b1 b2 : Nat) (ρ : Sl) : Prop where
  h2 : ρ 2 = .pointer (some ⟨b1, 0, none⟩)
  h3 : ρ 3 = .pointer (some ⟨b2, 0, none⟩)
  h12 : ρ 12 = .int .u8 i.op
  h6 : ρ 6 = .bool (decide (i.n = 0))
  b1 : w.heap[b1]? = some (.cells (pgC P A A' c c').toArray 28 (0, 0))
  b2 : w.heap[b2]? = some (.cells i.cells.toArray 30 (0, 0))
  m : Mod none_ w0 w
theorem TkC.up {P : Pg} {i : Ins} {A A' : Option Addr} {c c' : Nat} {w0 w : World} {b1 b2 : Nat} {ρ ρ' : Sl} (h : TkC P i A A' c c' w0 w b1 b2 ρ) (e2 : ρ' 2 = ρ 2) (e3 : ρ' 3 = ρ 3) (e12 : ρ' 12 = ρ 12) (e6 : ρ' 6 = ρ 6) : TkC P i A A' c c' w0 w b1 b2 ρ' :=
  ⟨e2.trans h.h2, e3.trans h.h3, e12.trans h.h12, e6.trans h.h6, h.b1, h.b2, h.m⟩
section
variable {P : Pg} {i : Ins} {A A' : Option Addr} {c c' : Nat} {w0 w : World} {b1 b2 : Nat} {ρ : Sl}
theorem TkC.g0 (h : TkC P i A A' c c' w0 w b1 b2 ρ) : FO Try.prog w 30 0 0 ⟨b2, 0, none⟩ 5 (.int .u8 i.op) := FO.blk h.b2 (by kernel_rfl) vU8 rfl rfl
theorem TkC.g1 (h : TkC P i A A' c c' w0 w b1 b2 ρ) : FO Try.prog w 30 1 1 ⟨b2, 0, none⟩ 2 (.int .i64 i.n) := FO.blk h.b2 (by kernel_rfl) vN rfl rfl
theorem TkC.f0 (h : TkC P i A A' c c' w0 w b1 b2 ρ) : FO Try.prog w 28 0 0 ⟨b1, 0, none⟩ 25 (.slice A P.code.length c) := FO.blk h.b1 (by kernel_rfl) vCs rfl rfl
theorem TkC.f1 (h : TkC P i A A' c c' w0 w b1 b2 ρ) : FO Try.prog w 28 1 1 ⟨b1, 0, none⟩ 3 (.int .i64 P.vars) := FO.blk h.b1 (by kernel_rfl) vI rfl rfl
theorem TkC.f2 (h : TkC P i A A' c c' w0 w b1 b2 ρ) : FO Try.prog w 28 2 2 ⟨b1, 0, none⟩ 26 (.slice A' P.arrs.length c') := FO.blk h.b1 (by kernel_rfl) vIs rfl rfl
theorem takes_R2 (h : TkC P i A A' c c' w0 w b1 b2 ρ) (e : P.tk i = (2, 1, decide (i.n = 0) && decide (10 ≤ i.op) && decide (i.op ≤ 20))) : sx fn_ Try.prog 102 code_Program_takes_R2 (TK P i w0) ρ w := by
  rw [code_Program_takes_R2_eq]; unfold code_Program_takes_R2_F
  refine code_Program_takes_R4_quiet (D := []) (fun w' => Mod none_ w w') ((Mod.refl _ w).drawn _) ?_
  unfold code_Program_takes_R4_Q
  have cl : ∀ w', Mod none_ w w' → w'.cell? ((⟨b2, 0, none⟩ : Addr).add 0) = some (.int .u8 i.op) := fun w' hw => by rw [add_pl, cell_blk (hw.blk h.b2 id)]; rfl
  rw [h.h6, h.h3]
  by_cases z : i.n = 0
  · rw [decide_eq_true z]
    simp only [QG_b, if_true]
    refine Qfo (off := 0) (a := ⟨b2, 0, none⟩) (by kernel_rfl) (Qld vU8 rfl (v := .int .u8 i.op) cl (Qgeq (QP_of ?_)))
    simp only [if_true]
    by_cases z1 : 10 ≤ i.op
    · rw [decide_eq_true z1]
      simp only [QG_b, if_true]
      refine Qfo (off := 0) (a := ⟨b2, 0, none⟩) (by kernel_rfl) (Qld vU8 rfl (v := .int .u8 i.op) cl (Qleq (QP_of ?_)))
      intro w2 hm2
      rw [sq_n, code_Program_takes_R5_eq]; unfold code_Program_takes_R5_F
      refine ⟨?_, h.m.trans hm2⟩
      rw [e, decide_eq_true z, decide_eq_true z1]; rfl
    · rw [decide_eq_false z1]
      simp only [QG_b, Bool.false_eq_true, if_false]
      refine QP_of ?_
      intro w2 hm2
      rw [sq_n, code_Program_takes_R5_eq]; unfold code_Program_takes_R5_F
      refine ⟨?_, h.m.trans hm2⟩
      rw [e, decide_eq_true z, decide_eq_false z1]; rfl
  · rw [decide_eq_false z]
    simp only [QG_b, Bool.false_eq_true, if_false]
    refine QP_of ?_
    simp only [QG_b, Bool.false_eq_true, if_false]
    refine QP_of ?_
    intro w2 hm2
    rw [sq_n, code_Program_takes_R5_eq]; unfold code_Program_takes_R5_F
    refine ⟨?_, h.m.trans hm2⟩
    rw [e, decide_eq_false z]; rfl
theorem tk_else (hn : i.op ≠ 1 ∧ i.op ≠ 2 ∧ i.op ≠ 3 ∧ i.op ≠ 4 ∧ i.op ≠ 5 ∧ i.op ≠ 7 ∧ i.op ≠ 6 ∧ i.op ≠ 8 ∧ i.op ≠ 9 ∧ i.op ≠ 21 ∧ i.op ≠ 25 ∧ i.op ≠ 27 ∧ i.op ≠ 26 ∧ i.op ≠ 22 ∧ i.op ≠ 23 ∧ i.op ≠ 24 ∧ i.op ≠ 28 ∧ i.op ≠ 29) : P.tk i = (2, 1, decide (i.n = 0) && decide (10 ≤ i.op) && decide (i.op ≤ 20)) := by
  obtain ⟨n1, n2, n3, n4, n5, n7, n6, n8, n9, n21, n25, n27, n26, n22, n23, n24, n28, n29⟩ := hn
  unfold Pg.tk
  simp only [*, if_false, or_self]
theorem takes_R6 (h : TkC P i A A' c c' w0 w b1 b2 ρ) {b : Bool} (h71 : ρ 71 = .bool b) (hb : b = true → i.op = 23 ∨ i.op = 24) (hn : b = false → i.op ≠ 1 ∧ i.op ≠ 2 ∧ i.op ≠ 3 ∧ i.op ≠ 4 ∧ i.op ≠ 5 ∧ i.op ≠ 7 ∧ i.op ≠ 6 ∧ i.op ≠ 8 ∧ i.op ≠ 9 ∧ i.op ≠ 21 ∧ i.op ≠ 25 ∧ i.op ≠ 27 ∧ i.op ≠ 26 ∧ i.op ≠ 22 ∧ i.op ≠ 23 ∧ i.op ≠ 24) : sx fn_ Try.prog 102 code_Program_takes_R6 (TK2 P i w0) ρ w := by
  rw [code_Program_takes_R6_eq]; unfold code_Program_takes_R6_F
  rw [h71]
  cases b with
  | true =>
    refine condT ?_
    have e : P.tk i = (1, 0, inV i.n P.code.length) := by unfold Pg.tk; rcases hb rfl with q | q <;> simp [q]
    rw [h.h3, h.h2, h.g1.e, h.f0.e, len_sl vCs]
    refine CK_st Try.func51 rfl rfl (in_ok _ _ _) ?_
    rintro _ w' ⟨rfl, rfl⟩
    exact ⟨by rw [e]; rfl, h.m⟩
  | false =>
    refine condF ?_
    obtain ⟨n1, n2, n3, n4, n5, n7, n6, n8, n9, n21, n25, n27, n26, n22, n23, n24⟩ := hn rfl
    rw [h.h12]
    refine caseI (fun q => ?_) (fun q28 => ?_)
    · refine condT ?_
      have e : P.tk i = (argsV i.n, 0, decide (0 ≤ argsV i.n)) := by unfold Pg.tk; simp [q]
      rw [h.h3, h.g1.e]
      refine CK_st Try.func52 rfl rfl (args_ok _ _) ?_
      rintro _ w' ⟨rfl, rfl⟩
      rw [BK_geq]
      exact ⟨by rw [e]; rfl, h.m⟩
    refine condF ?_
    refine caseI (fun q => ?_) (fun q29 => ?_)
    · refine condT ?_
      have e : P.tk i = (0, 0, decide (i.n = 0)) := by unfold Pg.tk; simp [q]
      exact ⟨by rw [e, ← h.h6]; rfl, h.m⟩
    refine condF ?_
    unfold TK2
    rw [bk_n, sq_n]
    exact takes_R2 (h.up rfl rfl rfl rfl) (tk_else ⟨n1, n2, n3, n4, n5, n7, n6, n8, n9, n21, n25, n27, n26, n22, n23, n24, q28, q29⟩)
theorem takes_R3 (h : TkC P i A A' c c' w0 w b1 b2 ρ) {b : Bool} (h56 : ρ 56 = .bool b) (hb : b = true → i.op = 25 ∨ i.op = 27) (hn : b = false → i.op ≠ 1 ∧ i.op ≠ 2 ∧ i.op ≠ 3 ∧ i.op ≠ 4 ∧ i.op ≠ 5 ∧ i.op ≠ 7 ∧ i.op ≠ 6 ∧ i.op ≠ 8 ∧ i.op ≠ 9 ∧ i.op ≠ 21 ∧ i.op ≠ 25 ∧ i.op ≠ 27) : sx fn_ Try.prog 102 code_Program_takes_R3 (TK2 P i w0) ρ w := by
  rw [code_Program_takes_R3_eq]; unfold code_Program_takes_R3_F
  rw [h56]
  cases b with
  | true =>
    refine condT ?_
    have e : P.tk i = (1, 0, decide (i.n = 0)) := by unfold Pg.tk; rcases hb rfl with q | q <;> simp [q]
    exact ⟨by rw [e, ← h.h6]; rfl, h.m⟩
  | false =>
    refine condF ?_
    obtain ⟨n1, n2, n3, n4, n5, n7, n6, n8, n9, n21, n25, n27⟩ := hn rfl
    rw [h.h12]
    refine caseI (fun q => ?_) (fun n26 => ?_)
    · refine condT ?_
      have e : P.tk i = (1, 2, decide (i.n = 0)) := by unfold Pg.tk; simp [q]
      exact ⟨by rw [e, ← h.h6]; rfl, h.m⟩
    refine condF ?_
    refine caseI (fun q => ?_) (fun n22 => ?_)
    · refine condT ?_
      have e : P.tk i = (0, 0, inV i.n P.code.length) := by unfold Pg.tk; simp [q]
      rw [h.h3, h.h2, h.g1.e, h.f0.e, len_sl vCs]
      refine CK_st Try.func51 rfl rfl (in_ok _ _ _) ?_
      rintro _ w' ⟨rfl, rfl⟩
      exact ⟨by rw [e]; rfl, h.m⟩
    refine condF ?_
    refine caseI (fun q => ?_) (fun n23 => ?_)
    · refine condT ?_
      exact takes_R6 (h.up rfl rfl rfl rfl) (b := true) rfl (fun _ => .inl q) (fun z => by cases z)
    refine condF ?_
    refine caseI (fun q => ?_) (fun n24 => ?_)
    · exact takes_R6 (h.up rfl rfl rfl rfl) (b := true) rfl (fun _ => .inr q) (fun z => by cases z)
    exact takes_R6 (h.up rfl rfl rfl rfl) (b := false) rfl (fun z => by cases z) (fun _ => ⟨n1, n2, n3, n4, n5, n7, n6, n8, n9, n21, n25, n27, n26, n22, n23, n24⟩)
theorem takes_R1 (h : TkC P i A A' c c' w0 w b1 b2 ρ) {b : Bool} (h50 : ρ 50 = .bool b) (hb : b = true → i.op = 6 ∨ i.op = 8 ∨ i.op = 9 ∨ i.op = 21) (hn : b = false → i.op ≠ 1 ∧ i.op ≠ 2 ∧ i.op ≠ 3 ∧ i.op ≠ 4 ∧ i.op ≠ 5 ∧ i.op ≠ 7 ∧ i.op ≠ 6 ∧ i.op ≠ 8 ∧ i.op ≠ 9 ∧ i.op ≠ 21) : sx fn_ Try.prog 102 code_Program_takes_R1 (TK2 P i w0) ρ w := by
  rw [code_Program_takes_R1_eq]; unfold code_Program_takes_R1_F
  rw [h50]
  cases b with
  | true =>
    refine condT ?_
    have e : P.tk i = (1, 1, decide (i.n = 0)) := by unfold Pg.tk; rcases hb rfl with q | q | q | q <;> simp [q]
    exact ⟨by rw [e, ← h.h6]; rfl, h.m⟩
  | false =>
    refine condF ?_
    obtain ⟨n1, n2, n3, n4, n5, n7, n6, n8, n9, n21⟩ := hn rfl
    rw [h.h12]
    refine caseI (fun q => ?_) (fun n25 => ?_)
    · refine condT ?_
      exact takes_R3 (h.up rfl rfl rfl rfl) (b := true) rfl (fun _ => .inl q) (fun z => by cases z)
    refine condF ?_
    refine caseI (fun q => ?_) (fun n27 => ?_)
    · exact takes_R3 (h.up rfl rfl rfl rfl) (b := true) rfl (fun _ => .inr q) (fun z => by cases z)
    exact takes_R3 (h.up rfl rfl rfl rfl) (b := false) rfl (fun z => by cases z) (fun _ => ⟨n1, n2, n3, n4, n5, n7, n6, n8, n9, n21, n25, n27⟩)
theorem takes_R0 (h : TkC P i A A' c c' w0 w b1 b2 ρ) {b : Bool} (h50 : ρ 50 = .bool b) (hb : b = true → i.op = 6) (hn : b = false → i.op ≠ 1 ∧ i.op ≠ 2 ∧ i.op ≠ 3 ∧ i.op ≠ 4 ∧ i.op ≠ 5 ∧ i.op ≠ 7 ∧ i.op ≠ 6) : sx fn_ Try.prog 102 code_Program_takes_R0 (seqK (sx fn_ Try.prog 102 code_Program_takes_R1 (TK2 P i w0)) (TK2 P i w0)) ρ w := by
  rw [code_Program_takes_R0_eq]; unfold code_Program_takes_R0_F
  rw [h50]
  cases b with
  | true =>
    refine condT ?_
    rw [sq_n]
    exact takes_R1 h (b := true) h50 (fun _ => .inl (hb rfl)) (fun z => by cases z)
  | false =>
    refine condF ?_
    obtain ⟨n1, n2, n3, n4, n5, n7, n6⟩ := hn rfl
    rw [h.h12]
    refine caseI (fun q => ?_) (fun n8 => ?_)
    · refine condT ?_
      exact takes_R1 (h.up rfl rfl rfl rfl) (b := true) rfl (fun _ => .inr (.inl q)) (fun z => by cases z)
    refine condF ?_
    refine caseI (fun q => ?_) (fun n9 => ?_)
    · refine condT ?_
      exact takes_R1 (h.up rfl rfl rfl rfl) (b := true) rfl (fun _ => .inr (.inr (.inl q))) (fun z => by cases z)
    refine condF ?_
    refine caseI (fun q => ?_) (fun n21 => ?_)
    · exact takes_R1 (h.up rfl rfl rfl rfl) (b := true) rfl (fun _ => .inr (.inr (.inr q))) (fun z => by cases z)
    exact takes_R1 (h.up rfl rfl rfl rfl) (b := false) rfl (fun z => by cases z) (fun _ => ⟨n1, n2, n3, n4, n5, n7, n6, n8, n9, n21⟩)
end
theorem takes_ok {P : Pg} {i : Ins} {A A' : Option Addr} {c c' : Nat} (w : World) : Rt Try.prog 34 #[.agg (pgC P A A' c c').toArray, .agg i.cells.toArray] w (TR P i w) := by
  refine code_Program_takes_calls ?_
  unfold code_Program_takes_F
  refine box_k (cs := (pgC P A A' c c').toArray) rfl fun w1 hb1 hm1 hz1 => ?_
  refine box_k (cs := i.cells.toArray) rfl fun w2 hb2 hm2 hz2 => ?_
  have h : TkC P i A A' c c' w w2 w.heap.size w1.heap.size (fun k => if k = 2 then .pointer (some ⟨w.heap.size, 0, none⟩) else if k = 3 then .pointer (some ⟨w1.heap.size, 0, none⟩) else if k = 12 then .int .u8 i.op else .bool (decide (i.n = 0))) :=
    ⟨rfl, rfl, rfl, rfl, hm2.blk hb1 id, hb2, hm1.trans hm2⟩
  rw [h.g1.e, BK_eql, h.g0.e]
  have ez : (i.n == 0) = decide (i.n = 0) := rfl
  rw [ez]
  refine caseI (fun q => ?_) (fun n1 => ?_)
  · refine condT ?_
    exact ⟨by rw [show P.tk i = (0, 1, true) by unfold Pg.tk; simp [q]], h.m⟩
  refine condF ?_
  refine caseI (fun q => ?_) (fun n2 => ?_)
  · refine condT ?_
    rw [h.g1.e, h.f1.e]
    refine CK_st Try.func51 rfl rfl (in_ok _ _ _) ?_
    rintro _ w' ⟨rfl, rfl⟩
    exact ⟨by rw [show P.tk i = (0, 1, inV i.n P.vars) by unfold Pg.tk; simp [q]], h.m⟩
  refine condF ?_
  refine caseI (fun q => ?_) (fun n3 => ?_)
  · refine condT ?_
    rw [h.g1.e, h.f1.e]
    refine CK_st Try.func51 rfl rfl (in_ok _ _ _) ?_
    rintro _ w' ⟨rfl, rfl⟩
    exact ⟨by rw [show P.tk i = (1, 0, inV i.n P.vars) by unfold Pg.tk; simp [q]], h.m⟩
  refine condF ?_
  refine caseI (fun q => ?_) (fun n4 => ?_)
  · refine condT ?_
    rw [h.g1.e, h.f2.e, len_sl vIs]
    refine CK_st Try.func51 rfl rfl (in_ok _ _ _) ?_
    rintro _ w' ⟨rfl, rfl⟩
    exact ⟨by rw [show P.tk i = (1, 1, inV i.n P.arrs.length) by unfold Pg.tk; simp [q]], h.m⟩
  refine condF ?_
  refine caseI (fun q => ?_) (fun n5 => ?_)
  · refine condT ?_
    rw [h.g1.e, h.f2.e, len_sl vIs]
    refine CK_st Try.func51 rfl rfl (in_ok _ _ _) ?_
    rintro _ w' ⟨rfl, rfl⟩
    exact ⟨by rw [show P.tk i = (2, 0, inV i.n P.arrs.length) by unfold Pg.tk; simp [q]], h.m⟩
  refine condF ?_
  refine caseI (fun q => ?_) (fun n7 => ?_)
  · refine condT ?_
    rw [h.g1.e]
    refine CK_st Try.func51 rfl rfl (in_ok _ _ _) ?_
    rintro _ w' ⟨rfl, rfl⟩
    exact ⟨by rw [show P.tk i = (0, 1, inV i.n 10) by unfold Pg.tk; simp [q]], h.m⟩
  refine condF ?_
  refine caseI (fun q => ?_) (fun n6 => ?_)
  · exact takes_R0 (h.up rfl rfl rfl rfl) (b := true) rfl (fun _ => q) (fun z => by cases z)
  exact takes_R0 (h.up rfl rfl rfl rfl) (b := false) rfl (fun z => by cases z) (fun _ => ⟨n1, n2, n3, n4, n5, n7, n6⟩)
end Go.Proofs.Ytmbgbffgkdcieaa.Tr
set_option linter.unusedVariables false
set_option linter.unusedSimpArgs false
set_option maxRecDepth 4000
namespace Go.Proofs.Ytmbgbffgkdcieaa.Tr
open Go Go.X Go.RowKit Go.Proofs.Ytmbgbffgkdcieaa.XF Go.Proofs.Ytmbgbffgkdcieaa.XK
section
variable {P : Program} {w : World} {K : Value → World → Prop}
theorem BK_mask {t : TypeId} {x y : Operand} {a : Int} (h0 : 0 ≤ a) (h1 : a < 4294967296) : BK P .and t x y (.int .u64 a) (.int .u64 4294967295) w K = K (.int .u64 a) w := by
  refine BK_of rfl ?_
  rw [binOp_and, intBits_and]
  have h := bits_and_u64_nat a.toNat 4294967295 (by omega) (by omega)
  have e : a.toNat &&& 4294967295 = a.toNat % 4294967296 := Nat.and_two_pow_sub_one_eq_mod a.toNat 32
  rw [e, show a.toNat % 4294967296 = a.toNat by omega, show ((a.toNat : Nat) : Int) = a by omega] at h
  rw [show bits .and .u64 a 4294967295 = a from h]
  rfl
theorem BK_half {t : TypeId} {x y : Operand} {a : Int} (h0 : 0 ≤ a) (h1 : a < 4294967296) : BK P .shr t x y (.int .u64 a) (.int .u64 32) w K = K (.int .u64 0) w := by
  refine BK_of rfl ?_
  rw [binOp_shr, shift_shr_any _ _ _ _ (by decide)]
  have : a / 2 ^ min (Int.toNat 32) IntKind.u64.bits = 0 := by
    show a / 4294967296 = 0
    omega
  rw [this]
  rfl
theorem wrap_u {n : Int} (h0 : 0 ≤ n) (h1 : n < 18446744073709551616) : IntKind.u64.wrap n = n := by rw [IntKind.wrap_u64]; omega
end
theorem Mul64_one {n : Int} (h0 : 0 ≤ n) (h1 : n < 4294967296) (w : World) : Rt Try.prog 55 #[.int .u64 1, .int .u64 n] w fun v w' => v = .tuple #[.int .u64 0, .int .u64 n] ∧ w' = w := by
  refine math_bits_Mul64_calls ?_
  unfold math_bits_Mul64_F
  rw [BK_mask (by decide) (by decide), BK_half (by decide) (by decide), BK_mask h0 h1, BK_half h0 h1, BK_mul, BK_mul, BK_half (by rw [wrap_u (by omega) (by omega)]; omega) (by rw [wrap_u (by omega) (by omega)]; omega), BK_add]
  rw [math_bits_Mul64_R0_eq]; unfold math_bits_Mul64_R0_F
  simp only [sq_n, sq_x, sq_r, bk_n, bk_r, bk_x, rt_r, rt_n, rs_0, rs_t, pk_1, pk_2, up_at, reduceIte, Nat.reduceEqDiff]
  rw [show (0 : Int) * n = 0 by omega, show IntKind.u64.wrap (IntKind.u64.wrap 0 + 0) = 0 by decide]
  rw [BK_mask (by decide) (by decide), BK_half (by decide) (by decide), BK_mul, BK_add, BK_mul, BK_add, show IntKind.u64.wrap (0 + IntKind.u64.wrap (1 * 0)) = 0 by decide, BK_half (by decide) (by decide), BK_add]
  show BK Try.prog .mul _ _ _ (Value.int .u64 1) (Value.int .u64 n) w _
  rw [BK_mul]
  refine ⟨?_, rfl⟩
  show Value.tuple #[.int .u64 _, .int .u64 (IntKind.u64.wrap (1 * n))] = _
  rw [wrap_u (n := 1 * n) (by omega) (by omega), show (1 : Int) * n = n by omega]
  rfl
theorem Mul_one {n : Int} (h0 : 0 ≤ n) (h1 : n < 4294967296) (w : World) : Rt Try.prog 50 #[.int .u64 1, .int .u64 n] w fun v w' => v = .tuple #[.int .u64 0, .int .u64 n] ∧ w' = w := by
  refine math_bits_Mul_calls ?_
  unfold math_bits_Mul_F
  refine condF ?_
  refine CK_st Try.func55 rfl rfl (Mul64_one h0 h1 w) ?_
  rintro _ w' ⟨rfl, rfl⟩
  rw [extract_ok rfl, extract_ok rfl]
  exact ⟨rfl, rfl⟩
section
variable {P : Program} {w : World} {K : Value → World → Prop}
theorem mk_k {t e : TypeId} {q : IntKind} (ht : P.underlying t = some (.slice e)) (hi : (P.info? e).map (fun i => (i.zero, i.size, i.bytes)) = some (some (.int q 0), 1, 8)) {n : Nat} (hn : n ≤ 1048576)
    (hk : ∀ w', w'.heap[w.heap.size]? = some (.cells (Array.replicate n (.int q 0)) e (0, 0)) → Mod none_ w w' → w'.heap.size = w.heap.size + 1 → K (.slice (some ⟨w.heap.size, 0, none⟩) n n) w') : VK P (Instr.makeSlice t (.int .i64 (n : Int)) (.int .i64 (n : Int))) w K := by
  cases hq : P.info? e with
  | none => rw [hq] at hi; cases hi
  | some i =>
    rw [hq] at hi
    injection hi with hi
    injection hi with hz hi
    injection hi with hs hb
    have hrun := run_make (P := P) (w := w) t e i (.int q 0) ht hq hz .i64 .i64 n n (by omega) (by omega) (by rw [hb]; omega) (by omega)
    have ec : madeCells (Value.int q 0).cells ((n : Int).toNat * i.size) = Array.replicate n (.int q 0) := by
      rw [hs, Nat.mul_one, Int.toNat_natCast]
      apply Array.ext
      · rw [size_madeCells]; simp
      · intro j h1 h2
        simp [madeCells, Value.cells, Nat.mod_one]
    rw [ec, Int.toNat_natCast] at hrun
    exact VK_of hrun (hk _ (alloc_new w _) ((Mod.refl _ w).alloc _) (alloc_size w _))
theorem cp_k {t s e ty : TypeId} (ht : P.underlying t = some (.slice e)) (hs : (P.info? e).map (·.size) = some 1) {g o dLen dCap : Nat} {cur : Array Value} (hg : w.heap[g]? = some (.cells cur e (0, 0))) {src : Value} {m : Nat} {ys : List Value} (hr : reads w 1 src m ys) (h1 : ∀ v ∈ ys, v.oneCell' = true) (hfit : o + Nat.min m dLen ≤ cur.size)
    (hk : ∀ w', w'.heap[g]? = some (.cells (cur.toList.take o ++ ys.take dLen ++ cur.toList.drop (o + Nat.min m dLen)).toArray e (0, 0)) → Mod (fun b => b = g) w w' → w'.heap.size = w.heap.size → K (.int .i64 (Nat.min m dLen)) w') :
    IK P .copy #[t, s] ty [false, false] [.slice (some ⟨g, o, none⟩) dLen dCap, src] w K := by
  obtain ⟨hl, A, c, rfl, hnc, hr⟩ := hr
  have hl' : ys.length = m := by omega
  have el : (ys.take dLen).length = Nat.min m dLen := by rw [List.length_take, hl', Nat.min_comm]
  have hlt : g < w.heap.size := blk_lt hg
  rcases Nat.eq_zero_or_pos (Nat.min m dLen) with z | z
  · have hrun := run_copy_none (P := P) w t s ty e (some ⟨g, o, none⟩) A dLen dCap m c ht hs z
    refine IK_of (s := Builtin.copy_ #[t, s] ty #[.slice (some ⟨g, o, none⟩) dLen dCap, .slice A m c]) rfl hrun ?_
    have e0 : ys.take dLen = [] := List.length_eq_zero_iff.1 (by rw [el, z])
    have h2 := hk w (by rw [e0, z, List.append_nil, Nat.add_zero, List.take_append_drop]; exact hg) (Mod.refl _ _) rfl
    rw [z] at h2
    exact h2
  · obtain ⟨a, rfl⟩ : ∃ a, A = some a := by
      obtain ⟨x, hx⟩ : ∃ x, ys[0]? = some x := ⟨_, List.getElem?_eq_getElem (by have : Nat.min m dLen ≤ m := Nat.min_le_left _ _; omega)⟩
      obtain ⟨a, ha, _⟩ := hr 0 x hx
      exact ⟨a, ha⟩
    have hrun := run_copy_row (P := P) w t s ty e g o dLen dCap a m c cur e (ys.take dLen) ht hs hg el (fun j v hj => by
      rw [List.getElem?_take] at hj
      split at hj
      · obtain ⟨a', ha, hc⟩ := hr j v hj
        cases ha
        exact hc
      · cases hj) (by rw [el]; exact hfit) (fun v hv => h1 v (List.mem_of_mem_take hv))
    refine IK_of (s := Builtin.copy_ #[t, s] ty #[.slice (some ⟨g, o, none⟩) dLen dCap, .slice (some a) m c]) rfl hrun ?_
    rw [el]
    exact hk _ (setRow_heap w g cur _ e _ hg) ⟨rfl, rfl, rfl, Nat.le_of_eq (size_setRow w g _).symm, fun k _ hkg => setRow_other w g k _ hkg⟩ (size_setRow w g _)
end
theorem put_r {P : Program} {w : World} {K : Value → Value → World → Prop} {t e : TypeId} {base n i : Nat} {v u : Value} {xs : List Value} (hu : P.underlying t = some (.slice e)) (hc : P.cellsOf e = 0 + 1) (hv : u.oneCell' = true) (hown : w.ownsRow base e 1 v n xs) (hi : i < n)
    (hk : ∀ x w', w'.ownsRow base e 1 v n (xs.set i u) → Mod (fun b => some b = v.ownBlock) w w' → w'.heap.size = w.heap.size → K x undef w') : VK P (Instr.indexAt t v (.int .i64 (i : Int))) w fun x w => UK P (Instr.storeAt e x u) w (K x) := by
  obtain ⟨hl, q | ⟨g, cap, cur, rfl, hb, hg, hn, hm, hs, ht⟩⟩ := hown
  · omega
  · rw [ixa hu hc (by omega) (by omega), add_pl]
    simp only [Int.toNat_natCast, Nat.zero_add, Nat.mul_one]
    refine st_k hc hv hg (by omega) fun w' h1 h2 h3 h4 => hk _ w' ⟨by rw [List.length_set]; exact hl, .inr ⟨g, cap, _, rfl, hb, h1, hn, hm, by simpa using hs, ?_⟩⟩ (h4.mono fun _ _ q => by rw [q]; rfl) h3
    rw [Array.toList_setIfInBounds, ← ht, List.take_set]
theorem owns_new {w : World} {b n : Nat} {cs : List Value} {e : TypeId} (h : w.heap[b]? = some (.cells cs.toArray e (0, 0))) (hn : cs.length = n) (hmx : n ≤ 1048576) : w.ownsRow 0 e 1 (.slice (some ⟨b, 0, none⟩) n n) n cs :=
  ⟨by omega, .inr ⟨b, n, cs.toArray, rfl, Nat.zero_le _, h, Nat.le_refl _, by unfold maxLen; omega, by simp [hn], by rw [Nat.mul_one]; exact List.take_of_length_le (by simp [hn])⟩⟩
def reps (n k : Nat) : Array Value := (List.replicate k (Value.int .i64 (-1)) ++ List.replicate (n - k) (Value.int .i64 0)).toArray
theorem reps_size {n k : Nat} (h : k ≤ n) : (reps n k).size = n := by unfold reps; simp; omega
theorem reps_step {n k : Nat} (h1 : 1 ≤ k) (h : k ≤ n) : ((reps n k).toList.take k ++ (List.replicate k (Value.int .i64 (-1))).take (n - k) ++ (reps n k).toList.drop (k + Nat.min k (n - k))).toArray = reps n (k + Nat.min k (n - k)) := by
  unfold reps
  have e1 : Nat.min k (n - k) = min (n - k) k := Nat.min_comm _ _
  generalize hj : Nat.min k (n - k) = j at *
  have hjn : k + j ≤ n := by omega
  congr 1
  simp only [List.take_replicate]
  rw [← e1, List.take_append_of_le_length (by simp), List.take_of_length_le (by simp), List.drop_append, List.drop_eq_nil_of_le (by simp), List.drop_replicate, List.replicate_append_replicate, List.nil_append]
  simp only [List.length_replicate]
  rw [show n - k - (k + j - k) = n - (k + j) by omega]
theorem Repeat_ok {v : Value} {n : Nat} (h1 : 1 ≤ n) (hn : n ≤ 4000) {w : World} (hv : reads w 1 v 1 [.int .i64 (-1)]) : Rt Try.prog 33 #[v, .int .i64 n] w fun r w' => r = .slice (some ⟨w.heap.size, 0, none⟩) n n ∧ w'.heap[w.heap.size]? = some (.cells (reps n n) 3 (0, 0)) ∧ Mod none_ w w' := by
  obtain ⟨A, c, rfl, hc⟩ := reads_cap hv
  refine slices_Repeat_int_int_calls ?_
  unfold slices_Repeat_int_int_F
  rw [BK_lss, decide_eq_false (by omega)]
  refine condF ?_
  rw [slices_Repeat_int_int_R0_eq]; unfold slices_Repeat_int_int_R0_F
  simp only [sq_n, sq_x, sq_r, bk_n, bk_r, bk_x, rt_r, rt_n, rs_0, rs_t, pk_1, pk_2, up_at, reduceIte, Nat.reduceEqDiff]
  have e0 : ∀ {i : Nat} {l : List Value}, rho0 l i = l.getD i undef := rfl
  simp only [e0, List.getD_cons_zero, List.getD_cons_succ]
  rw [len_sl vIs, conv_k (by kernel_rfl) (k := .u64) (by kernel_rfl), conv_k (by kernel_rfl) (k := .u64) (by kernel_rfl), show IntKind.u64.wrap ((1 : Nat) : Int) = 1 by decide, wrap_u (n := (n : Int)) (by omega) (by omega)]
  refine CK_st Try.func50 rfl rfl (Mul_one (n := (n : Int)) (by omega) (by omega) w) ?_
  rintro _ w' ⟨rfl, rfl⟩
  rw [extract_ok (v := .int .u64 0) rfl, extract_ok (v := .int .u64 (n : Int)) rfl, BK_gtr]
  simp only [show decide ((0 : Int) < 0) = false from rfl, ↓VG_u, ↓UG_u, ↓MG_u, ↓NG_u, ↓PG_u, ↓BG_u, ↓CG_u, ↓IG_u, ↓VGtt, ↓VGtf, ↓VGft, ↓VGff, ↓UGtt, ↓UGtf, ↓UGft, ↓UGff, ↓MGtt, ↓MGtf, ↓MGft, ↓MGff, ↓NGtt, ↓NGtf, ↓NGft, ↓NGff, ↓PGtt, ↓PGtf, ↓PGft, ↓PGff, ↓BGtt, ↓BGtf, ↓BGft, ↓BGff, ↓CGtt, ↓CGtf, ↓CGft, ↓CGff, ↓IGtt, ↓IGtf, ↓IGft, ↓IGff, ↓PKt, ↓PKf, ↓CDt, ↓CDf, ↓NOTt, ↓NOTf, ↓NK_ptr, ↓BK_gtr]
  rw [decide_eq_false (show ¬ (9223372036854775807 : Int) < (n : Int) by omega)]
  simp only [↓VG_u, ↓UG_u, ↓MG_u, ↓NG_u, ↓PG_u, ↓BG_u, ↓CG_u, ↓IG_u, ↓VGtt, ↓VGtf, ↓VGft, ↓VGff, ↓UGtt, ↓UGtf, ↓UGft, ↓UGff, ↓MGtt, ↓MGtf, ↓MGft, ↓MGff, ↓NGtt, ↓NGtf, ↓NGft, ↓NGff, ↓PGtt, ↓PGtf, ↓PGft, ↓PGff, ↓BGtt, ↓BGtf, ↓BGft, ↓BGff, ↓CGtt, ↓CGtf, ↓CGft, ↓CGff, ↓IGtt, ↓IGtf, ↓IGft, ↓IGff, ↓PKt, ↓PKf, ↓CDt, ↓CDf, ↓NOTt, ↓NOTf, ↓NK_ptr]
  rw [slices_Repeat_int_int_R1_eq]; unfold slices_Repeat_int_int_R1_F
  simp only [sq_n, sq_x, sq_r, bk_n, bk_r, bk_x, rt_r, rt_n, rs_0, rs_t, pk_1, pk_2, up_at, reduceIte, Nat.reduceEqDiff]
  simp only [e0, List.getD_cons_zero, List.getD_cons_succ]
  rw [conv_k (by kernel_rfl) (k := .i64) (by kernel_rfl), wrap_i (n := (n : Int)) (by omega) (by omega)]
  refine mk_k (e := 3) (q := .i64) vIs (by kernel_rfl) (by omega) fun w1 hb1 hm1 hz1 => ?_
  refine cp_k (e := 3) vIs (by kernel_rfl) hb1 (reads_mod hv hm1 fun _ _ _ q => q) (by intro x hx; rw [List.mem_singleton.1 hx]; rfl) (by rw [Nat.zero_add, show Nat.min 1 n = 1 from Nat.min_eq_left h1]; simp; omega) fun w2 hb2 hm2 hz2 => ?_
  have e1 : Nat.min 1 n = 1 := Nat.min_eq_left h1
  have hb2' : w2.heap[w'.heap.size]? = some (.cells (reps n 1) 3 (0, 0)) := by
    rw [hb2]
    congr 2
    unfold reps
    rw [e1]
    simp [List.take_of_length_le, h1]
  rw [e1]
  have hm02 : Mod none_ w' w2 := hm1.then hm2 fun i hi q => by omega
  clear hb2 hb1
  refine W_loop slices_Repeat_int_int_L2_ok (fun ρ w3 => ∃ k : Nat, 1 ≤ k ∧ k ≤ n ∧ ρ 8 = .int .i64 k ∧ ρ 7 = .slice (some ⟨w'.heap.size, 0, none⟩) n n ∧ w3.heap[w'.heap.size]? = some (.cells (reps n k) 3 (0, 0)) ∧ Mod none_ w' w3) (fun ρ _ => n - (intOf (ρ 8)).toNat)
    ⟨1, Nat.le_refl _, h1, rfl, rfl, hb2', hm02⟩ ?_
  rintro ρ w3 ⟨k, k1, k2, g8, g7, hb, hm⟩
  rw [slices_Repeat_int_int_L2_eq]; unfold slices_Repeat_int_int_L2_F
  rw [g8, g7, len_sl vIs, BK_lss]
  by_cases hlt : k < n
  · rw [decide_eq_true (by omega)]
    refine condT ?_
    refine slices_Repeat_int_int_R4_held (D := []) (fun _ => True) trivial ?_
    unfold slices_Repeat_int_int_R4_H
    simp only [sq_n, sq_x, sq_r, bk_n, bk_r, bk_x, rt_r, rt_n, rs_0, rs_t, pk_1, pk_2, up_at, reduceIte, Nat.reduceEqDiff, g8, g7]
    refine HV_of (v := .slice (some ⟨w'.heap.size, k, none⟩) (n - k) (n - k)) (fun w _ => ?_) ?_
    · obtain ⟨z, hz, hzs⟩ := info_of (show Try.prog.cellsOf 3 = 0 + 1 from cI)
      rw [run_sliceAt_slice (h := elem_of vIs), run_slice_l w 26 (some ⟨w'.heap.size, 0, none⟩) n n (elem_of vIs) .i64 (k : Int) (by omega) (by omega), show Try.prog.elem 26 = 3 by simp [Program.elem, vIs]]
      simp [sizeOf, typeInfo, hz, hzs, sliced, show ¬ n = k by omega, add_pl]
    refine HV_of (v := sliced (some ⟨w'.heap.size, 0, none⟩) 0 k n 1) (fun w _ => ?_) ?_
    · have := run_cut (P := Try.prog) (t := 26) (e := 3) (sz := 0) vIs cI (A := some ⟨w'.heap.size, 0, none⟩) (n := n) (c := n) (Nat.le_refl _) (k := .i64) (i := (k : Int)) (by omega) (by omega) w
      simpa using this
    generalize hq : ({ w3 with drawn := w3.drawn + 1 } : World) = wd
    have hbd : wd.heap[w'.heap.size]? = some (.cells (reps n k) 3 (0, 0)) := by rw [← hq]; exact hb
    have hmd : Mod none_ w' wd := by rw [← hq]; exact hm.drawn _
    have hr := reads_cut (reads_blk (size := 1) (n := n) hbd (by rw [reps_size k2]; omega)) (m := k) k2 1
    have et : (reps n k).toList.take (k * 1) = List.replicate k (Value.int .i64 (-1)) := by
      unfold reps
      simp [List.take_append_of_le_length]
    rw [et] at hr
    refine cp_k (e := 3) (o := k) (dLen := n - k) (dCap := n - k) vIs (by kernel_rfl) hbd hr (by intro x hx; rw [List.eq_of_mem_replicate hx]; rfl) (by rw [reps_size k2]; have : Nat.min k (n - k) ≤ n - k := Nat.min_le_right _ _; omega) fun w4 hb4 hm4 hz4 => ?_
    rw [reps_step k1 k2] at hb4
    have hj : 1 ≤ Nat.min k (n - k) ∧ Nat.min k (n - k) ≤ n - k := ⟨Nat.le_min.2 ⟨k1, by omega⟩, Nat.min_le_right _ _⟩
    generalize Nat.min k (n - k) = j at *
    refine ⟨trivial, HB_of (v := .int .i64 ((k + j : Nat) : Int)) (fun _ => rfl) (fun w => ?_) ?_⟩
    · have : IntKind.i64.wrap ((k : Int) + (j : Int)) = ((k + j : Nat) : Int) := by rw [wrap_i (by omega) (by omega)]; omega
      rw [← this]; rfl
    refine ⟨⟨k + j, by omega, by omega, by trivial, by trivial, hb4, hmd.then hm4 fun i hi q => by omega⟩, ?_⟩
    simp only [sq_n, sq_x, sq_r, bk_n, bk_r, bk_x, rt_r, rt_n, rs_0, rs_t, pk_1, pk_2, up_at, reduceIte, Nat.reduceEqDiff, intOf]
    omega
  · obtain rfl : k = n := by omega
    rw [decide_eq_false (by omega)]
    refine condF ?_
    rw [sq_x, bk_x, sq_n, slices_Repeat_int_int_R3_eq]; unfold slices_Repeat_int_int_R3_F
    exact ⟨by rw [← g7]; rfl, hb, hm⟩
end Go.Proofs.Ytmbgbffgkdcieaa.Tr
set_option linter.unusedVariables false
set_option linter.unusedSimpArgs false
set_option maxRecDepth 4000
namespace Go.Proofs.Ytmbgbffgkdcieaa.Tr
open Go Go.X Go.RowKit Go.Proofs.Ytmbgbffgkdcieaa.XF Go.Proofs.Ytmbgbffgkdcieaa.XK
def InsRow (w : World) (s : Value) (l : List Ins) : Prop := reads w 2 s l.length (l.flatMap Ins.cells) ∧ True
theorem InsRow.mod {w w' : World} {s : Value} {l : List Ins} (h : InsRow w s l) (hm : Mod none_ w w') : InsRow w' s l := ⟨reads_mod h.1 hm fun _ _ _ q => q, trivial⟩
theorem Ins.cells_len (i : Ins) : i.cells.length = 1 + 1 := rfl
theorem ixIns {w : World} {s : Value} {l : List Ins} {i : Nat} {e : Ins} {K : Value → Value → World → Prop} (h : InsRow w s l) (hi : l[i]? = some e) (hk : ∀ x, K x (.agg e.cells.toArray) w) :
    VK Try.prog (Instr.indexAt 25 s (.int .i64 (i : Int))) w fun x w => VK Try.prog (Instr.loadAt 30 x) w (K x) := by
  have hlt : i < l.length := (List.getElem?_eq_some_iff.1 hi).1
  refine ixldA vCs cC Try.underlying30 rfl h.1 (by omega) (by omega) fun x => ?_
  rw [show ((i : Int).toNat) = i by omega, fl_drop (k := 1 + 1) Ins.cells_len hi]
  exact hk x
theorem ixInsA {w : World} {s : Value} {l : List Ins} {i : Nat} {e : Ins} {K : Value → World → Prop} (h : InsRow w s l) (hi : l[i]? = some e) (hk : ∀ a, (∀ j u, e.cells[j]? = some u → w.cell? (a.add j) = some u) → K (.pointer (some a)) w) :
    VK Try.prog (Instr.indexAt 25 s (.int .i64 (i : Int))) w K := by
  have hlt : i < l.length := (List.getElem?_eq_some_iff.1 hi).1
  refine ixat vCs cC h.1 (by omega) (by omega) fun a ha _ => hk a fun j u hu => ?_
  have hj : j < 1 + 1 := (List.getElem?_eq_some_iff.1 hu).1
  refine ha j u hj ?_
  rw [show ((i : Int).toNat) = i by omega, fl_get (k := 1 + 1) Ins.cells_len hi hj]
  exact hu
theorem IndexFuncIns_ok {w : World} {s : Value} {l : List Ins} {p : Ins → Bool} {fv : Value} (h : InsRow w s l) (hlen : l.length ≤ 1099511627776)
    (hf : ∀ a ∈ l, ∀ w', Mod none_ w w' → ∀ K : Value → World → Prop, (∀ w'', Mod none_ w' w'' → K (.bool (p a)) w'') → CK Try.prog fv [.agg a.cells.toArray] w' K) :
    Rt Try.prog 53 #[s, fv] w fun v w' => (∃ r : Int, v = .int .i64 r ∧ (if l.any p then 0 ≤ r else r = -1)) ∧ Mod none_ w w' := by
  obtain ⟨A, c, hs, _⟩ := reads_cap h.1
  refine slices_IndexFunc_code_Instr_code_Instr_calls ?_
  unfold slices_IndexFunc_code_Instr_code_Instr_F
  simp only [hs, fo28_0, fo28_1, fo28_2, fo30_0, fo30_1, fo36_0, fo36_1, fo36_2, fo36_3, fo36_4, fo36_5, fo36_6, fo36_7, fo36_8, fo36_9, fo36_10, fo38_0, fo38_1, fo38_2, fo54_0, fo54_1, fo54_2, fo54_3, fo54_4, fo54_5, fo54_6, fo54_7, fo56_0, fo56_1, fo56_2, fo56_3, fo56_4, fo56_5, fo56_6, fo56_7, fo56_8, fo56_9, ld2, ld3, ld4, ld5, ld22, ld25, ld26, len22, len25, len26, ldK_some, cellE, blkC_c, add_pl, Nat.zero_add, List.getElem?_toArray, List.getElem?_cons_succ, List.getElem?_cons_zero]
  refine W_loop slices_IndexFunc_code_Instr_code_Instr_L0_ok (fun ρ w' => ∃ n : Nat, n ≤ l.length ∧ ρ 8 = .int .i64 n ∧ ρ 7 = .int .i64 l.length ∧ ρ 0 = .slice A l.length c ∧ ρ 1 = fv ∧ (∀ a ∈ l.take n, p a = false) ∧ Mod none_ w w') (fun ρ _ => l.length - (intOf (ρ 8)).toNat)
    ⟨0, Nat.zero_le _, rfl, rfl, rfl, rfl, by simp, Mod.refl _ _⟩ ?_
  rintro ρ w1 ⟨n, hn, h8, h7, h0, h1, hno, hm⟩
  rw [slices_IndexFunc_code_Instr_code_Instr_L0_eq]
  unfold slices_IndexFunc_code_Instr_code_Instr_L0_F
  simp only [h8, h7, h0, h1, BK_lss]
  by_cases hlt : n < l.length
  · rw [show decide ((n : Int) < (l.length : Int)) = true by rw [decide_eq_true_eq]; omega]
    simp only [CondK_bool, MG_u, NG_u, VG_u, UG_u, PG_u, BG_u, CG_u, IG_u, MG_b, NG_b, VG_b, UG_b, PG_b, BG_b, CG_b, IG_b, PK_bool, NK_ptr, not_ok, reduceCtorEq, if_true, if_false, Bool.true_eq_false, Bool.false_eq_true, Bool.not_true, Bool.not_false]
    have hx : l[n]? = some l[n] := List.getElem?_eq_getElem hlt
    have hmem : l[n] ∈ l := List.getElem_mem hlt
    have h2 := h.mod hm
    rw [hs] at h2
    refine ixIns h2 hx fun y => ?_
    refine hf _ hmem w1 hm _ fun w2 hm2 => ?_
    refine caseC (fun hp => ?_) (fun hp => ?_)
    · refine ⟨⟨_, rfl, ?_⟩, hm.trans hm2⟩
      rw [if_pos (List.any_eq_true.2 ⟨_, hmem, hp⟩)]
      omega
    · rw [BK_add, wrap_i (by omega) (by omega)]
      refine ⟨⟨n + 1, hlt, rfl, h7, h0, h1, ?_, hm.trans hm2⟩, ?_⟩
      · rw [List.take_add_one, hx, Option.toList_some]
        intro a q
        rcases List.mem_append.1 q with q | q
        · exact hno a q
        · rw [List.mem_singleton.1 q]; exact hp
      · simp only [sq_n, sq_x, sq_r, bk_n, bk_r, bk_x, rt_r, rt_n, rs_0, rs_t, pk_1, pk_2, up_at, reduceIte, Nat.reduceEqDiff, intOf]; omega
  · obtain rfl : n = l.length := by omega
    rw [show decide (((l.length : Nat) : Int) < (l.length : Int)) = false by simp]
    simp only [CondK_bool, MG_u, NG_u, VG_u, UG_u, PG_u, BG_u, CG_u, IG_u, MG_b, NG_b, VG_b, UG_b, PG_b, BG_b, CG_b, IG_b, PK_bool, NK_ptr, not_ok, reduceCtorEq, if_true, if_false, Bool.true_eq_false, Bool.false_eq_true, Bool.not_true, Bool.not_false, sq_n, sq_x, sq_r, bk_n, bk_r, bk_x, rt_r, rt_n, rs_0, rs_t, pk_1, pk_2, up_at, reduceIte, Nat.reduceEqDiff]
    rw [slices_IndexFunc_code_Instr_code_Instr_R1_eq]
    unfold slices_IndexFunc_code_Instr_code_Instr_R1_F
    simp only [sq_n, sq_x, sq_r, bk_n, bk_r, bk_x, rt_r, rt_n, rs_0, rs_t, pk_1, pk_2, up_at, reduceIte, Nat.reduceEqDiff]
    refine ⟨⟨_, rfl, ?_⟩, hm⟩
    rw [if_neg]
    intro q
    obtain ⟨a, ha, hp⟩ := List.any_eq_true.1 q
    rw [List.take_length] at hno
    rw [hno a ha] at hp
    cases hp
theorem ContainsFuncIns_ok {w : World} {s : Value} {l : List Ins} {p : Ins → Bool} {fv : Value} (h : InsRow w s l) (hlen : l.length ≤ 1099511627776)
    (hf : ∀ a ∈ l, ∀ w', Mod none_ w w' → ∀ K : Value → World → Prop, (∀ w'', Mod none_ w' w'' → K (.bool (p a)) w'') → CK Try.prog fv [.agg a.cells.toArray] w' K) :
    Rt Try.prog 49 #[s, fv] w fun v w' => v = .bool (l.any p) ∧ Mod none_ w w' := by
  refine slices_ContainsFunc_code_Instr_code_Instr_calls ?_
  unfold slices_ContainsFunc_code_Instr_code_Instr_F
  refine CK_st Try.func53 rfl rfl (IndexFuncIns_ok h hlen hf) ?_
  rintro _ w1 ⟨⟨r, rfl, hr⟩, hm⟩
  rw [BK_geq]
  refine ⟨?_, hm⟩
  cases hp : l.any p with
  | true =>
    rw [hp, if_pos rfl] at hr
    rw [decide_eq_true hr]
  | false =>
    rw [hp, if_neg (by simp)] at hr
    rw [hr]
    rfl
structure PgOk (w : World) (P : Pg) (cs : List Value) : Prop where
  e : ∃ A A' c c', cs = pgC P A A' c c'
  code : ∃ s, cs[0]? = some s ∧ InsRow w s P.code
  arrs : ∃ s, cs[2]? = some s ∧ reads w 1 s P.arrs.length (i64s P.arrs)
theorem PgOk.mod {w w' : World} {P : Pg} {cs : List Value} (h : PgOk w P cs) (hm : Mod none_ w w') : PgOk w' P cs :=
  ⟨h.e, let ⟨s, a, b⟩ := h.code; ⟨s, a, b.mod hm⟩, let ⟨s, a, b⟩ := h.arrs; ⟨s, a, reads_mod b hm fun _ _ _ q => q⟩⟩
theorem PgOk.mk' {w : World} {P : Pg} {cv av : Value} (hc : InsRow w cv P.code) (ha : reads w 1 av P.arrs.length (i64s P.arrs)) : PgOk w P [cv, .int .i64 P.vars, av] := by
  obtain ⟨A, c, e1, _⟩ := reads_cap hc.1
  obtain ⟨A', c', e2, _⟩ := reads_cap ha
  exact ⟨⟨A, A', c, c', by rw [e1, e2]; rfl⟩, ⟨cv, rfl, hc⟩, ⟨av, rfl, ha⟩⟩
theorem whole1_ok {w : World} {P : Pg} {cs : List Value} {b : Nat} {i : Ins} (h : PgOk w P cs) (hb : w.heap[b]? = some (.cells cs.toArray 28 (0, 0))) :
    Rt Try.prog 48 #[.agg i.cells.toArray, .pointer (some ⟨b, 0, none⟩)] w fun v w' => v = .bool (!(P.tk i).2.2) ∧ Mod none_ w w' := by
  obtain ⟨A, A', c, c', rfl⟩ := h.e
  refine code_Program_whole_1_calls ?_
  unfold code_Program_whole_1_F
  refine box_k (cs := i.cells.toArray) rfl fun w1 hb1 hm1 hz1 => ?_
  have hbb := hm1.blk hb id
  refine ldB Try.underlying28 rfl (by kernel_rfl) hbb ?_
  refine ldB Try.underlying30 rfl (by kernel_rfl) hb1 ?_
  refine CK_st Try.func34 rfl rfl (takes_ok w1) ?_
  rintro _ w2 ⟨rfl, hm2⟩
  rw [extract_ok (v := .int .i64 (P.tk i).1) rfl, extract_ok (v := .int .i64 (P.tk i).2.1) rfl, extract_ok (v := .bool (P.tk i).2.2) rfl, not_ok]
  exact ⟨rfl, hm1.trans hm2⟩
theorem cellsV_le : ∀ (l : List Int) (c r : Int), 0 ≤ c → c ≤ 1000 → cellsV c l = some r → c ≤ r ∧ r ≤ 1000
  | [], c, r, h0, h1, h => by injection h with h; omega
  | n :: l, c, r, h0, h1, h => by
    unfold cellsV at h
    split at h
    · cases h
    · have := cellsV_le l (c + n) r (by omega) (by omega) h
      omega
theorem cellsV_at (l : List Int) (c : Int) (n : Nat) (x : Int) (hx : l[n]? = some x) {s : Int} (hs : cellsV c (l.take n) = some s) : cellsV c l = (if x < 1 ∨ 1000 - s < x then none else cellsV (s + x) (l.drop (n + 1))) ∧ cellsV c (l.take (n + 1)) = (if x < 1 ∨ 1000 - s < x then none else some (s + x)) := by
  induction l generalizing c n with
  | nil => cases hx
  | cons y l ih =>
    cases n with
    | zero =>
      simp only [List.getElem?_cons_zero, Option.some.injEq] at hx
      simp only [List.take_zero, cellsV, Option.some.injEq] at hs
      subst hx hs
      simp only [cellsV, List.take_succ_cons, List.take_zero, List.drop_succ_cons, List.drop_zero]
      exact ⟨trivial, trivial⟩
    | succ n =>
      simp only [List.getElem?_cons_succ] at hx
      simp only [List.take_succ_cons, cellsV] at hs
      split at hs
      · cases hs
      · rename_i hn
        obtain ⟨a, b⟩ := ih (c + y) n hx hs
        simp only [cellsV, List.take_succ_cons, List.drop_succ_cons, if_neg hn]
        exact ⟨a, b⟩
theorem lastOp {l : List Ins} {i : Ins} (h : l[l.length - 1]? = some i) : (l.getLast?.any fun i => decide (i.op = 29)) = decide (i.op = 29) := by
  rw [List.getLast?_eq_getElem?, h]; rfl
theorem whole_ok {w : World} {P : Pg} {cs : List Value} (h : PgOk w P cs) (h1 : P.code.length ≤ 1048576) (h2 : P.arrs.length ≤ 1048576) (w0 : World) (hw0 : Mod none_ w0 w) :
    Rt Try.prog 32 #[.agg cs.toArray] w fun v w' => v = .bool P.whole ∧ Mod none_ w0 w' := by
  obtain ⟨A, A', c, c', ecs⟩ := h.e
  refine code_Program_whole_calls ?_
  unfold code_Program_whole_F
  refine box_k (cs := cs.toArray) rfl fun w1 hb1 hm1 hz1 => ?_
  have h' := h.mod hm1
  have f2 : FO Try.prog w1 28 2 2 ⟨w.heap.size, 0, none⟩ 26 (.slice A' P.arrs.length c') := FO.blk hb1 (by kernel_rfl) vIs rfl (by rw [ecs]; rfl)
  rw [f2.e, len_sl vIs]
  have harr : reads w1 1 (.slice A' P.arrs.length c') P.arrs.length (i64s P.arrs) := by
    obtain ⟨s, a, b⟩ := h'.arrs
    rw [ecs] at a
    cases a
    exact b
  have hcode : InsRow w1 (.slice A P.code.length c) P.code := by
    obtain ⟨s, a, b⟩ := h'.code
    rw [ecs] at a
    cases a
    exact b
  refine W_loop code_Program_whole_L0_ok (fun ρ w2 => ∃ n : Nat, ∃ s : Int, n ≤ P.arrs.length ∧ cellsV 0 (P.arrs.take n) = some s ∧ ρ 11 = .int .i64 n ∧ ρ 3 = .int .i64 s ∧ ρ 10 = .int .i64 P.arrs.length ∧ ρ 9 = .slice A' P.arrs.length c' ∧ ρ 1 = .pointer (some ⟨w.heap.size, 0, none⟩) ∧ Mod none_ w1 w2) (fun ρ _ => P.arrs.length - (intOf (ρ 11)).toNat)
    ⟨0, 0, Nat.zero_le _, rfl, rfl, rfl, rfl, rfl, rfl, Mod.refl _ _⟩ ?_
  rintro ρ w2 ⟨n, s, hn, hs, g11, g3, g10, g9, g1, hm2⟩
  rw [code_Program_whole_L0_eq]; unfold code_Program_whole_L0_F
  rw [g11, g3, g10, g9, BK_lss]
  have hsr := cellsV_le _ _ _ (by omega) (by omega) hs
  by_cases hlt : n < P.arrs.length
  · rw [decide_eq_true (by omega)]
    refine condT ?_
    obtain ⟨x, hx⟩ : ∃ x, P.arrs[n]? = some x := ⟨_, List.getElem?_eq_getElem hlt⟩
    obtain ⟨v1, v2⟩ := cellsV_at P.arrs 0 n x hx hs
    refine ixld vIs cI vI rfl (reads_mod harr hm2 fun _ _ _ q => q) (by omega) (by simpa using i64s_get hx) fun y => ?_
    rw [BK_lss]
    have bad : x < 1 ∨ 1000 - s < x → P.whole = false := fun q => by
      rw [if_pos q] at v1
      unfold Pg.whole
      rw [v1]; simp
    by_cases c1 : x < 1
    · simp only [c1, decide_true, ↓VG_u, ↓UG_u, ↓MG_u, ↓NG_u, ↓PG_u, ↓BG_u, ↓CG_u, ↓IG_u, ↓VGtt, ↓VGtf, ↓VGft, ↓VGff, ↓UGtt, ↓UGtf, ↓UGft, ↓UGff, ↓MGtt, ↓MGtf, ↓MGft, ↓MGff, ↓NGtt, ↓NGtf, ↓NGft, ↓NGff, ↓PGtt, ↓PGtf, ↓PGft, ↓PGff, ↓BGtt, ↓BGtf, ↓BGft, ↓BGff, ↓CGtt, ↓CGtf, ↓CGft, ↓CGff, ↓IGtt, ↓IGtf, ↓IGft, ↓IGff, ↓PKt, ↓PKf, ↓CDt, ↓CDf, ↓NOTt, ↓NOTf, ↓NK_ptr]
      exact ⟨by rw [bad (.inl c1)]; rfl, hw0.trans (hm1.trans hm2)⟩
    simp only [c1, decide_false, ↓VG_u, ↓UG_u, ↓MG_u, ↓NG_u, ↓PG_u, ↓BG_u, ↓CG_u, ↓IG_u, ↓VGtt, ↓VGtf, ↓VGft, ↓VGff, ↓UGtt, ↓UGtf, ↓UGft, ↓UGff, ↓MGtt, ↓MGtf, ↓MGft, ↓MGff, ↓NGtt, ↓NGtf, ↓NGft, ↓NGff, ↓PGtt, ↓PGtf, ↓PGft, ↓PGff, ↓BGtt, ↓BGtf, ↓BGft, ↓BGff, ↓CGtt, ↓CGtf, ↓CGft, ↓CGff, ↓IGtt, ↓IGtf, ↓IGft, ↓IGff, ↓PKt, ↓PKf, ↓CDt, ↓CDf, ↓NOTt, ↓NOTf, ↓NK_ptr, ↓BK_sub]
    rw [wrap_i (n := 1000 - s) (by omega) (by omega)]
    simp only [↓VG_u, ↓UG_u, ↓MG_u, ↓NG_u, ↓PG_u, ↓BG_u, ↓CG_u, ↓IG_u, ↓VGtt, ↓VGtf, ↓VGft, ↓VGff, ↓UGtt, ↓UGtf, ↓UGft, ↓UGff, ↓MGtt, ↓MGtf, ↓MGft, ↓MGff, ↓NGtt, ↓NGtf, ↓NGft, ↓NGff, ↓PGtt, ↓PGtf, ↓PGft, ↓PGff, ↓BGtt, ↓BGtf, ↓BGft, ↓BGff, ↓CGtt, ↓CGtf, ↓CGft, ↓CGff, ↓IGtt, ↓IGtf, ↓IGft, ↓IGff, ↓PKt, ↓PKf, ↓CDt, ↓CDf, ↓NOTt, ↓NOTf, ↓NK_ptr, ↓BK_gtr]
    by_cases c2 : 1000 - s < x
    · simp only [c2, decide_true, ↓VG_u, ↓UG_u, ↓MG_u, ↓NG_u, ↓PG_u, ↓BG_u, ↓CG_u, ↓IG_u, ↓VGtt, ↓VGtf, ↓VGft, ↓VGff, ↓UGtt, ↓UGtf, ↓UGft, ↓UGff, ↓MGtt, ↓MGtf, ↓MGft, ↓MGff, ↓NGtt, ↓NGtf, ↓NGft, ↓NGff, ↓PGtt, ↓PGtf, ↓PGft, ↓PGff, ↓BGtt, ↓BGtf, ↓BGft, ↓BGff, ↓CGtt, ↓CGtf, ↓CGft, ↓CGff, ↓IGtt, ↓IGtf, ↓IGft, ↓IGff, ↓PKt, ↓PKf, ↓CDt, ↓CDf, ↓NOTt, ↓NOTf, ↓NK_ptr]
      exact ⟨by rw [bad (.inr c2)]; rfl, hw0.trans (hm1.trans hm2)⟩
    simp only [c2, decide_false, ↓VG_u, ↓UG_u, ↓MG_u, ↓NG_u, ↓PG_u, ↓BG_u, ↓CG_u, ↓IG_u, ↓VGtt, ↓VGtf, ↓VGft, ↓VGff, ↓UGtt, ↓UGtf, ↓UGft, ↓UGff, ↓MGtt, ↓MGtf, ↓MGft, ↓MGff, ↓NGtt, ↓NGtf, ↓NGft, ↓NGff, ↓PGtt, ↓PGtf, ↓PGft, ↓PGff, ↓BGtt, ↓BGtf, ↓BGft, ↓BGff, ↓CGtt, ↓CGtf, ↓CGft, ↓CGff, ↓IGtt, ↓IGtf, ↓IGft, ↓IGff, ↓PKt, ↓PKf, ↓CDt, ↓CDf, ↓NOTt, ↓NOTf, ↓NK_ptr, ↓BK_add]
    rw [if_neg (by omega)] at v2
    refine ⟨⟨n + 1, s + x, by omega, v2, ?_, ?_, g10, g9, g1, hm2⟩, ?_⟩
    · show Value.int .i64 (IntKind.i64.wrap ((n : Int) + 1)) = _
      rw [wrap_i (by omega) (by omega)]; rfl
    · show Value.int .i64 (IntKind.i64.wrap (s + x)) = _
      rw [wrap_i (by omega) (by omega)]
    · show P.arrs.length - (IntKind.i64.wrap ((n : Int) + 1)).toNat < P.arrs.length - ((n : Int)).toNat
      rw [wrap_i (by omega) (by omega)]; omega
  · obtain rfl : n = P.arrs.length := by omega
    rw [decide_eq_false (by omega)]
    refine condF ?_
    rw [List.take_length] at hs
    have hsome : (cellsV 0 P.arrs).isSome = true := by rw [hs]; rfl
    rw [sq_x, bk_x, sq_n, code_Program_whole_R1_eq]; unfold code_Program_whole_R1_F
    have hb2 := hm2.blk hb1 id
    have k0 : FO Try.prog w2 28 0 0 ⟨w.heap.size, 0, none⟩ 25 (.slice A P.code.length c) := FO.blk hb2 (by kernel_rfl) vCs rfl (by rw [ecs]; rfl)
    have k1 : FO Try.prog w2 28 1 1 ⟨w.heap.size, 0, none⟩ 3 (.int .i64 P.vars) := FO.blk hb2 (by kernel_rfl) vI rfl (by rw [ecs]; rfl)
    simp only [sq_n, sq_x, sq_r, bk_n, bk_r, bk_x, rt_r, rt_n, rs_0, rs_t, pk_1, pk_2, up_at, reduceIte, Nat.reduceEqDiff, g1]
    have hm02 := hw0.trans (hm1.trans hm2)
    have hW : P.whole = (decide (0 < P.code.length) && decide (P.code.length ≤ 4000) && decide (0 ≤ P.vars) && decide (P.vars ≤ 64) && P.code.all (fun i => (P.tk i).2.2) && (P.code.getLast?.any fun i => decide (i.op = 29))) := by
      unfold Pg.whole; rw [hsome, Bool.true_and]
    rw [mkFunc, k0.e, len_sl vCs, BK_gtr]
    by_cases c1 : 0 < P.code.length
    case neg =>
      simp only [show ¬ (0 : Int) < (P.code.length : Int) by omega, decide_false, ↓VG_u, ↓UG_u, ↓MG_u, ↓NG_u, ↓PG_u, ↓BG_u, ↓CG_u, ↓IG_u, ↓VGtt, ↓VGtf, ↓VGft, ↓VGff, ↓UGtt, ↓UGtf, ↓UGft, ↓UGff, ↓MGtt, ↓MGtf, ↓MGft, ↓MGff, ↓NGtt, ↓NGtf, ↓NGft, ↓NGff, ↓PGtt, ↓PGtf, ↓PGft, ↓PGff, ↓BGtt, ↓BGtf, ↓BGft, ↓BGff, ↓CGtt, ↓CGtf, ↓CGft, ↓CGff, ↓IGtt, ↓IGtf, ↓IGft, ↓IGff, ↓PKt, ↓PKf, ↓CDt, ↓CDf, ↓NOTt, ↓NOTf, ↓NK_ptr]
      exact ⟨by rw [hW, decide_eq_false c1]; rfl, hm02⟩
    simp only [show (0 : Int) < (P.code.length : Int) by omega, decide_true, ↓VG_u, ↓UG_u, ↓MG_u, ↓NG_u, ↓PG_u, ↓BG_u, ↓CG_u, ↓IG_u, ↓VGtt, ↓VGtf, ↓VGft, ↓VGff, ↓UGtt, ↓UGtf, ↓UGft, ↓UGff, ↓MGtt, ↓MGtf, ↓MGft, ↓MGff, ↓NGtt, ↓NGtf, ↓NGft, ↓NGff, ↓PGtt, ↓PGtf, ↓PGft, ↓PGff, ↓BGtt, ↓BGtf, ↓BGft, ↓BGff, ↓CGtt, ↓CGtf, ↓CGft, ↓CGff, ↓IGtt, ↓IGtf, ↓IGft, ↓IGff, ↓PKt, ↓PKf, ↓CDt, ↓CDf, ↓NOTt, ↓NOTf, ↓NK_ptr, ↓BK_leq]
    by_cases c2 : P.code.length ≤ 4000
    case neg =>
      simp only [show ¬ (P.code.length : Int) ≤ 4000 by omega, decide_false, ↓VG_u, ↓UG_u, ↓MG_u, ↓NG_u, ↓PG_u, ↓BG_u, ↓CG_u, ↓IG_u, ↓VGtt, ↓VGtf, ↓VGft, ↓VGff, ↓UGtt, ↓UGtf, ↓UGft, ↓UGff, ↓MGtt, ↓MGtf, ↓MGft, ↓MGff, ↓NGtt, ↓NGtf, ↓NGft, ↓NGff, ↓PGtt, ↓PGtf, ↓PGft, ↓PGff, ↓BGtt, ↓BGtf, ↓BGft, ↓BGff, ↓CGtt, ↓CGtf, ↓CGft, ↓CGff, ↓IGtt, ↓IGtf, ↓IGft, ↓IGff, ↓PKt, ↓PKf, ↓CDt, ↓CDf, ↓NOTt, ↓NOTf, ↓NK_ptr]
      exact ⟨by rw [hW, decide_eq_true c1, decide_eq_false c2]; rfl, hm02⟩
    simp only [show (P.code.length : Int) ≤ 4000 by omega, decide_true, ↓VG_u, ↓UG_u, ↓MG_u, ↓NG_u, ↓PG_u, ↓BG_u, ↓CG_u, ↓IG_u, ↓VGtt, ↓VGtf, ↓VGft, ↓VGff, ↓UGtt, ↓UGtf, ↓UGft, ↓UGff, ↓MGtt, ↓MGtf, ↓MGft, ↓MGff, ↓NGtt, ↓NGtf, ↓NGft, ↓NGff, ↓PGtt, ↓PGtf, ↓PGft, ↓PGff, ↓BGtt, ↓BGtf, ↓BGft, ↓BGff, ↓CGtt, ↓CGtf, ↓CGft, ↓CGff, ↓IGtt, ↓IGtf, ↓IGft, ↓IGff, ↓PKt, ↓PKf, ↓CDt, ↓CDf, ↓NOTt, ↓NOTf, ↓NK_ptr, ↓k1.e, ↓BK_geq]
    by_cases c3 : 0 ≤ P.vars
    case neg =>
      simp only [c3, decide_false, ↓VG_u, ↓UG_u, ↓MG_u, ↓NG_u, ↓PG_u, ↓BG_u, ↓CG_u, ↓IG_u, ↓VGtt, ↓VGtf, ↓VGft, ↓VGff, ↓UGtt, ↓UGtf, ↓UGft, ↓UGff, ↓MGtt, ↓MGtf, ↓MGft, ↓MGff, ↓NGtt, ↓NGtf, ↓NGft, ↓NGff, ↓PGtt, ↓PGtf, ↓PGft, ↓PGff, ↓BGtt, ↓BGtf, ↓BGft, ↓BGff, ↓CGtt, ↓CGtf, ↓CGft, ↓CGff, ↓IGtt, ↓IGtf, ↓IGft, ↓IGff, ↓PKt, ↓PKf, ↓CDt, ↓CDf, ↓NOTt, ↓NOTf, ↓NK_ptr]
      exact ⟨by rw [hW, decide_eq_true c1, decide_eq_true c2, decide_eq_false c3]; rfl, hm02⟩
    simp only [c3, decide_true, ↓VG_u, ↓UG_u, ↓MG_u, ↓NG_u, ↓PG_u, ↓BG_u, ↓CG_u, ↓IG_u, ↓VGtt, ↓VGtf, ↓VGft, ↓VGff, ↓UGtt, ↓UGtf, ↓UGft, ↓UGff, ↓MGtt, ↓MGtf, ↓MGft, ↓MGff, ↓NGtt, ↓NGtf, ↓NGft, ↓NGff, ↓PGtt, ↓PGtf, ↓PGft, ↓PGff, ↓BGtt, ↓BGtf, ↓BGft, ↓BGff, ↓CGtt, ↓CGtf, ↓CGft, ↓CGff, ↓IGtt, ↓IGtf, ↓IGft, ↓IGff, ↓PKt, ↓PKf, ↓CDt, ↓CDf, ↓NOTt, ↓NOTf, ↓NK_ptr, ↓k1.e, ↓BK_leq]
    by_cases c4 : P.vars ≤ 64
    case neg =>
      simp only [c4, decide_false, ↓VG_u, ↓UG_u, ↓MG_u, ↓NG_u, ↓PG_u, ↓BG_u, ↓CG_u, ↓IG_u, ↓VGtt, ↓VGtf, ↓VGft, ↓VGff, ↓UGtt, ↓UGtf, ↓UGft, ↓UGff, ↓MGtt, ↓MGtf, ↓MGft, ↓MGff, ↓NGtt, ↓NGtf, ↓NGft, ↓NGff, ↓PGtt, ↓PGtf, ↓PGft, ↓PGff, ↓BGtt, ↓BGtf, ↓BGft, ↓BGff, ↓CGtt, ↓CGtf, ↓CGft, ↓CGff, ↓IGtt, ↓IGtf, ↓IGft, ↓IGff, ↓PKt, ↓PKf, ↓CDt, ↓CDf, ↓NOTt, ↓NOTf, ↓NK_ptr]
      exact ⟨by rw [hW, decide_eq_true c1, decide_eq_true c2, decide_eq_true c3, decide_eq_false c4]; rfl, hm02⟩
    simp only [c4, decide_true, ↓VG_u, ↓UG_u, ↓MG_u, ↓NG_u, ↓PG_u, ↓BG_u, ↓CG_u, ↓IG_u, ↓VGtt, ↓VGtf, ↓VGft, ↓VGff, ↓UGtt, ↓UGtf, ↓UGft, ↓UGff, ↓MGtt, ↓MGtf, ↓MGft, ↓MGff, ↓NGtt, ↓NGtf, ↓NGft, ↓NGff, ↓PGtt, ↓PGtf, ↓PGft, ↓PGff, ↓BGtt, ↓BGtf, ↓BGft, ↓BGff, ↓CGtt, ↓CGtf, ↓CGft, ↓CGff, ↓IGtt, ↓IGtf, ↓IGft, ↓IGff, ↓PKt, ↓PKf, ↓CDt, ↓CDf, ↓NOTt, ↓NOTf, ↓NK_ptr, ↓k0.e]
    have hPg : PgOk w2 P cs := h'.mod hm2
    have hc2 : InsRow w2 (.slice A P.code.length c) P.code := hcode.mod hm2
    refine CK_st Try.func49 rfl rfl (ContainsFuncIns_ok (p := fun i => !(P.tk i).2.2) hc2 (by omega) fun a ha w3 hm3 K hK => ?_) ?_
    · refine CK_fn (f := 48) (first := #[]) (cap := #[.pointer (some ⟨w.heap.size, 0, none⟩)]) (args := [.agg a.cells.toArray]) Try.func48 rfl rfl (whole1_ok (hPg.mod hm3) (hm3.blk hb2 id)) ?_
      rintro _ w4 ⟨rfl, hm4⟩
      exact hK w4 hm4
    rintro _ w3 ⟨rfl, hm3⟩
    have hall : (!(P.code.any fun i => !(P.tk i).2.2)) = P.code.all (fun i => (P.tk i).2.2) := by
      rw [List.not_any_eq_all_not]; simp
    have hb3 := hm3.blk hb2 id
    have k03 : FO Try.prog w3 28 0 0 ⟨w.heap.size, 0, none⟩ 25 (.slice A P.code.length c) := FO.blk hb3 (by kernel_rfl) vCs rfl (by rw [ecs]; rfl)
    cases hany : P.code.any fun i => !(P.tk i).2.2 with
    | true =>
      rw [hany] at hall
      simp only [↓VG_u, ↓UG_u, ↓MG_u, ↓NG_u, ↓PG_u, ↓BG_u, ↓CG_u, ↓IG_u, ↓VGtt, ↓VGtf, ↓VGft, ↓VGff, ↓UGtt, ↓UGtf, ↓UGft, ↓UGff, ↓MGtt, ↓MGtf, ↓MGft, ↓MGff, ↓NGtt, ↓NGtf, ↓NGft, ↓NGff, ↓PGtt, ↓PGtf, ↓PGft, ↓PGff, ↓BGtt, ↓BGtf, ↓BGft, ↓BGff, ↓CGtt, ↓CGtf, ↓CGft, ↓CGff, ↓IGtt, ↓IGtf, ↓IGft, ↓IGff, ↓PKt, ↓PKf, ↓CDt, ↓CDf, ↓NOTt, ↓NOTf, ↓NK_ptr]
      exact ⟨by rw [hW, ← hall, decide_eq_true c1, decide_eq_true c2, decide_eq_true c3, decide_eq_true c4]; rfl, hm02.trans hm3⟩
    | false =>
      rw [hany] at hall
      simp only [↓VG_u, ↓UG_u, ↓MG_u, ↓NG_u, ↓PG_u, ↓BG_u, ↓CG_u, ↓IG_u, ↓VGtt, ↓VGtf, ↓VGft, ↓VGff, ↓UGtt, ↓UGtf, ↓UGft, ↓UGff, ↓MGtt, ↓MGtf, ↓MGft, ↓MGff, ↓NGtt, ↓NGtf, ↓NGft, ↓NGff, ↓PGtt, ↓PGtf, ↓PGft, ↓PGff, ↓BGtt, ↓BGtf, ↓BGft, ↓BGff, ↓CGtt, ↓CGtf, ↓CGft, ↓CGff, ↓IGtt, ↓IGtf, ↓IGft, ↓IGff, ↓PKt, ↓PKf, ↓CDt, ↓CDf, ↓NOTt, ↓NOTf, ↓NK_ptr, ↓k03.e, ↓BK_sub]
      rw [show IntKind.i64.wrap ((P.code.length : Int) - 1) = ((P.code.length - 1 : Nat) : Int) by rw [wrap_i (by omega) (by omega)]; omega]
      obtain ⟨i, hi⟩ : ∃ i, P.code[P.code.length - 1]? = some i := ⟨_, List.getElem?_eq_getElem (by omega)⟩
      refine ixInsA (hc2.mod hm3) hi fun a ha => ?_
      have k2 : FO Try.prog w3 30 0 0 a 5 (.int .u8 i.op) := FO.mk' (by kernel_rfl) vU8 rfl (ha 0 _ rfl)
      rw [k2.e, BK_eql]
      refine ⟨?_, hm02.trans hm3⟩
      rw [hW, ← hall, lastOp hi, decide_eq_true c1, decide_eq_true c2, decide_eq_true c3, decide_eq_true c4]
      rfl
end Go.Proofs.Ytmbgbffgkdcieaa.Tr
set_option linter.unusedVariables false
set_option linter.unusedSimpArgs false
set_option maxRecDepth 4000
namespace Go.Proofs.Ytmbgbffgkdcieaa.Tr
open Go Go.X Go.RowKit Go.Proofs.Ytmbgbffgkdcieaa.XF Go.Proofs.Ytmbgbffgkdcieaa.XK
theorem wayV_len (a : Int) (i : Ins) : (wayV a i).length ≤ 2 := by
  unfold wayV
  split
  · simp
  · split
    · simp
    · split <;> simp
theorem ways_ok {at_ : Int} {i : Ins} (h0 : 0 ≤ at_) (h1 : at_ ≤ 1000000) (w : World) : Rt Try.prog 35 #[.int .i64 at_, .agg i.cells.toArray] w fun v w' => reads w' 1 v (wayV at_ i).length (i64s (wayV at_ i)) ∧ (∀ k, v.ownBlock = some k → w.heap.size ≤ k) ∧ Mod none_ w w' := by
  refine code_ways_calls ?_
  unfold code_ways_F
  refine box_k (cs := i.cells.toArray) rfl fun w1 hb1 hm1 hz1 => ?_
  have g0 : FO Try.prog w1 30 0 0 ⟨w.heap.size, 0, none⟩ 5 (.int .u8 i.op) := FO.blk hb1 (by kernel_rfl) vU8 rfl rfl
  have g1 : FO Try.prog w1 30 1 1 ⟨w.heap.size, 0, none⟩ 2 (.int .i64 i.n) := FO.blk hb1 (by kernel_rfl) vN rfl rfl
  have ew : IntKind.i64.wrap (at_ + 1) = at_ + 1 := wrap_i (by omega) (by omega)
  rw [g0.e]
  have row : ∀ (w' : World) (b : Nat) (l : List Int), w'.heap[b]? = some (.cells (i64s l).toArray (Try.prog.elem 26) (0, 0)) → reads w' 1 (.slice (some ⟨b, 0, none⟩) l.length l.length) l.length (i64s l) := fun w' b l hb => by
    have := reads_blk (size := 1) (n := l.length) hb (by simp [i64s])
    simpa using this
  refine caseI (fun q => ?_) (fun n29 => ?_)
  · refine condT ?_
    have e : wayV at_ i = [] := by unfold wayV; rw [if_pos q]
    rw [e]
    exact ⟨reads_nil _ _, fun k q => (by cases q), hm1⟩
  refine condF ?_
  refine caseI (fun q => ?_) (fun n22 => ?_)
  · refine condT ?_
    have e : wayV at_ i = [i.n] := by unfold wayV; rw [if_neg n29, if_pos q]
    rw [e, g1.e]
    refine bs_k (cs := (i64s [i.n]).toArray) (by kernel_rfl) fun w2 hb2 hm2 hz2 => ?_
    exact ⟨row w2 _ [i.n] hb2, fun k q => (by cases q; exact hm1.size), hm1.trans hm2⟩
  refine condF ?_
  have key : ∀ (ρ : Sl) (b : Bool), ρ 14 = .bool b → ρ 0 = .int .i64 at_ → ρ 3 = .pointer (some ⟨w.heap.size, 0, none⟩) → (b = true → i.op = 23 ∨ i.op = 24) → (b = false → ¬ (i.op = 23 ∨ i.op = 24)) →
      sx fn_ Try.prog 25 code_ways_R0 (blkK 0 (seqK (sx fn_ Try.prog 25 code_ways_R1 (retK Try.prog [ResultVar.tmp 4] fun v w' => reads w' 1 v (wayV at_ i).length (i64s (wayV at_ i)) ∧ (∀ k, v.ownBlock = some k → w.heap.size ≤ k) ∧ Mod none_ w w')) (retK Try.prog [ResultVar.tmp 4] fun v w' => reads w' 1 v (wayV at_ i).length (i64s (wayV at_ i)) ∧ (∀ k, v.ownBlock = some k → w.heap.size ≤ k) ∧ Mod none_ w w'))) ρ w1 := by
    intro ρ b g14 gg0 gg3 hb hn
    rw [code_ways_R0_eq]; unfold code_ways_R0_F
    rw [g14, gg0, gg3]
    cases b with
    | true =>
      refine condT ?_
      have e : wayV at_ i = [at_ + 1, i.n] := by unfold wayV; rw [if_neg n29, if_neg n22, if_pos (hb rfl)]
      rw [BK_add, ew, g1.e, e]
      refine bs_k (cs := (i64s [at_ + 1, i.n]).toArray) (by kernel_rfl) fun w2 hb2 hm2 hz2 => ?_
      exact ⟨row w2 _ [at_ + 1, i.n] hb2, fun k q => (by cases q; exact hm1.size), hm1.trans hm2⟩
    | false =>
      refine condF ?_
      have e : wayV at_ i = [at_ + 1] := by unfold wayV; rw [if_neg n29, if_neg n22, if_neg (hn rfl)]
      rw [bk_n, sq_n, code_ways_R1_eq]; unfold code_ways_R1_F
      rw [gg0, BK_add, ew, e]
      refine bs_k (cs := (i64s [at_ + 1]).toArray) (by kernel_rfl) fun w2 hb2 hm2 hz2 => ?_
      exact ⟨row w2 _ [at_ + 1] hb2, fun k q => (by cases q; exact hm1.size), hm1.trans hm2⟩
  refine caseI (fun q => ?_) (fun n23 => ?_)
  · refine condT ?_
    exact key _ true rfl rfl rfl (fun _ => .inl q) (fun z => by cases z)
  refine condF ?_
  refine caseI (fun q => ?_) (fun n24 => ?_)
  · exact key _ true rfl rfl rfl (fun _ => .inr q) (fun z => by cases z)
  · exact key _ false rfl rfl rfl (fun z => by cases z) (fun _ => by omega)
end Go.Proofs.Ytmbgbffgkdcieaa.Tr
set_option linter.unusedVariables false
set_option linter.unusedSimpArgs false
set_option maxRecDepth 4000
namespace Go.Proofs.Ytmbgbffgkdcieaa.Tr
open Go Go.X Go.RowKit Go.Proofs.Ytmbgbffgkdcieaa.XF Go.Proofs.Ytmbgbffgkdcieaa.XK
abbrev tI : TypeId := 3
theorem i64s_len (l : List Int) : (i64s l).length = l.length := by unfold i64s; simp
theorem i64s_one (l : List Int) : ∀ v ∈ i64s l, v.oneCell' = true := by
  intro v hv
  unfold i64s at hv
  obtain ⟨x, _, rfl⟩ := List.mem_map.1 hv
  rfl
theorem getD_some {l : List Int} {i : Nat} (h : i < l.length) : l[i]? = some (l.getD i 0) := by rw [List.getD_eq_getElem?_getD, List.getElem?_eq_getElem h]; rfl
theorem ways_loop {n B : Nat} {high : Int} {K : Exit → Sl → World → Prop} {ws out todo : List Int} {w : World} {ρ : Sl} (hws : ∀ x ∈ ws, 0 ≤ x ∧ x < n) (hout : out.length = n)
    (rows : reads w 1 (ρ 74) ws.length (i64s ws)) (g76 : ρ 76 = .int .i64 0) (g75 : ρ 75 = .int .i64 ws.length) (g10 : ρ 10 = .int .i64 high) (g4 : ρ 4 = .slice (some ⟨B, 0, none⟩) n n) (hB : w.ownsRow 0 tI 1 (.slice (some ⟨B, 0, none⟩) n n) n (i64s out))
    (htodo : reads w 1 (ρ 5) todo.length (i64s todo)) (hTB : (ρ 5).ownBlock ≠ some B) (hWB : (ρ 74).ownBlock ≠ some B) (hlen : todo.length + ws.length ≤ 100000)
    (hret : wlS high ws out todo = none → ∀ ρ' w', ρ' 2 = .slice none 0 0 → ρ' 3 = .int .i64 50 → Mod (fun b => b = B) w w' → K .ret ρ' w')
    (hexit : ∀ o t, wlS high ws out todo = some (o, t) → ∀ ρ' w', ρ' 4 = ρ 4 → ρ' 1 = ρ 1 → w'.ownsRow 0 tI 1 (.slice (some ⟨B, 0, none⟩) n n) n (i64s o) → reads w' 1 (ρ' 5) t.length (i64s t) → (ρ' 5).ownBlock ≠ some B → Mod (fun b => b = B) w w' → K (.exit 2) ρ' w') :
    W fn_ Try.prog 108 (Code.loop code_Heights_L5) K ρ w := by
  have hBlt : B < w.heap.size := by
    obtain ⟨c, hc⟩ := owns_blk hB rfl
    exact X.blk_lt hc
  refine W_loop code_Heights_L5_ok (fun ρ' w' => ∃ (k : Nat) (out1 todo1 : List Int), k ≤ ws.length ∧ out1.length = n ∧ todo1.length ≤ todo.length + k ∧ wlS high (ws.drop k) out1 todo1 = wlS high ws out todo ∧ ρ' 76 = .int .i64 k ∧ ρ' 75 = .int .i64 ws.length ∧ ρ' 74 = ρ 74 ∧ ρ' 10 = .int .i64 high ∧ ρ' 4 = .slice (some ⟨B, 0, none⟩) n n ∧ ρ' 1 = ρ 1 ∧
      w'.ownsRow 0 tI 1 (.slice (some ⟨B, 0, none⟩) n n) n (i64s out1) ∧ reads w' 1 (ρ' 5) todo1.length (i64s todo1) ∧ (ρ' 5).ownBlock ≠ some B ∧ Mod (fun b => b = B) w w') (fun ρ _ => ws.length - (intOf (ρ 76)).toNat)
    ⟨0, out, todo, Nat.zero_le _, hout, Nat.le_refl _, rfl, g76, g75, rfl, g10, g4, rfl, hB, htodo, hTB, Mod.refl _ _⟩ ?_
  rintro ρ1 w1 ⟨k, out1, todo1, hk, ho1, hl1, hwl, e76, e75, e74, e10, e4, e1, hB1, ht1, hT1, hm1⟩
  rw [code_Heights_L5_eq]; unfold code_Heights_L5_F
  rw [e76, e75, e74, e10, e4, BK_lss]
  have rows1 := reads_mod rows hm1 fun q _ hq z => hWB (by rw [hq, z])
  obtain ⟨AT, cT, eT, hcT⟩ := reads_cap ht1
  by_cases hlt : k < ws.length
  · rw [decide_eq_true (by omega)]
    refine condT ?_
    have hx := getD_some hlt
    generalize hxe : ws.getD k 0 = x at hx
    have hxr := hws x (List.mem_of_getElem? hx)
    have hxn : x = ((x.toNat : Nat) : Int) := by omega
    have hdrop : ws.drop k = x :: ws.drop (k + 1) := by rw [List.drop_eq_getElem_cons hlt]; congr 1; rw [List.getElem?_eq_getElem hlt] at hx; injection hx
    rw [hdrop, wlS] at hwl
    refine ixld vIs cI vI rfl rows1 (by omega) (by simpa using i64s_get hx) fun y => ?_
    have hy := getD_some (l := out1) (i := x.toNat) (by omega)
    refine ixld vIs cI vI rfl (reads_of_owns hB1) hxr.1 (i64s_get hy) fun y2 => ?_
    have next : ∀ (ρ2 : Sl) (w2 : World) (out2 todo2 : List Int), out2.length = n → todo2.length ≤ todo.length + (k + 1) → wlS high (ws.drop (k + 1)) out2 todo2 = wlS high ws out todo → ρ2 76 = .int .i64 k → ρ2 75 = .int .i64 ws.length → ρ2 74 = ρ 74 → ρ2 10 = .int .i64 high → ρ2 4 = .slice (some ⟨B, 0, none⟩) n n → ρ2 1 = ρ 1 →
        w2.ownsRow 0 tI 1 (.slice (some ⟨B, 0, none⟩) n n) n (i64s out2) → reads w2 1 (ρ2 5) todo2.length (i64s todo2) → (ρ2 5).ownBlock ≠ some B → Mod (fun b => b = B) w w2 →
        sx fn_ Try.prog 108 code_Heights_R6 (seqK (fun ρ' w' => (∃ (k : Nat) (out1 todo1 : List Int), k ≤ ws.length ∧ out1.length = n ∧ todo1.length ≤ todo.length + k ∧ wlS high (ws.drop k) out1 todo1 = wlS high ws out todo ∧ ρ' 76 = .int .i64 k ∧ ρ' 75 = .int .i64 ws.length ∧ ρ' 74 = ρ 74 ∧ ρ' 10 = .int .i64 high ∧ ρ' 4 = .slice (some ⟨B, 0, none⟩) n n ∧ ρ' 1 = ρ 1 ∧
          w'.ownsRow 0 tI 1 (.slice (some ⟨B, 0, none⟩) n n) n (i64s out1) ∧ reads w' 1 (ρ' 5) todo1.length (i64s todo1) ∧ (ρ' 5).ownBlock ≠ some B ∧ Mod (fun b => b = B) w w') ∧ ws.length - (intOf (ρ' 76)).toNat < ws.length - (intOf (Value.int .i64 k)).toNat) K) ρ2 w2 := by
      intro ρ2 w2 out2 todo2 a1 a2 a3 a4 a5 a6 a7 a8 a9 a10 a11 a12 a13
      rw [code_Heights_R6_eq]; unfold code_Heights_R6_F
      rw [a4, BK_add, wrap_i (n := (k : Int) + 1) (by omega) (by omega)]
      rw [sq_n]
      refine ⟨⟨k + 1, out2, todo2, hlt, a1, a2, a3, rfl, a5, a6, a7, a8, a9, a10, a11, a12, a13⟩, ?_⟩
      simp only [sq_n, sq_x, sq_r, bk_n, bk_r, bk_x, rt_r, rt_n, rs_0, rs_t, pk_1, pk_2, up_at, reduceIte, Nat.reduceEqDiff, intOf]
      omega
    refine caseI (fun q => ?_) (fun q => ?_)
    · refine condT ?_
      rw [if_pos q] at hwl
      rw [hxn]
      refine put_r vIs cI rfl hB1 (i := x.toNat) (by omega) fun y3 w2 hB2 hm2 hz2 => ?_
      have hm2' : Mod (fun b => b = B) w1 w2 := hm2.mono fun b _ q => by injection q
      have ht2 := reads_mod ht1 hm2' fun b _ hb z => hT1 (by rw [hb, z])
      rw [eT] at ht2 ⊢
      rw [len_sl vIs, BK_add, show IntKind.i64.wrap ((todo1.length : Int) + 1) = ((todo1.length + 1 : Nat) : Int) by rw [wrap_i (by omega) (by omega)]; omega]
      refine mk_k (e := 3) (q := .i64) vIs (by kernel_rfl) (by omega) fun w3 hb3 hm3 hz3 => ?_
      have ht3 := reads_mod ht2 hm3 fun _ _ _ q => q
      refine cp_k (e := 3) (o := 0) (dLen := todo1.length + 1) (dCap := todo1.length + 1) vIs (by kernel_rfl) hb3 ht3 (i64s_one _) (by simp) fun w4 hb4 hm4 hz4 => ?_
      have hmin : Nat.min todo1.length (todo1.length + 1) = todo1.length := Nat.min_eq_left (by omega)
      have hb4' : w4.heap[w2.heap.size]? = some (.cells (i64s todo1 ++ [Value.int .i64 0]).toArray 3 (0, 0)) := by
        rw [hb4]
        congr 2
        rw [hmin]
        rw [List.take_zero, List.nil_append, List.take_of_length_le (by rw [i64s_len]; omega), Array.toList_replicate, Nat.zero_add, List.drop_replicate, show todo1.length + 1 - todo1.length = 1 by omega]
        rfl
      rw [len_sl vIs]
      refine put_r (w := w4) vIs cI rfl (owns_new hb4' (by rw [List.length_append, i64s_len]; rfl) (by omega)) (i := todo1.length) (by omega) fun y4 w5 hB5 hm5 hz5 => ?_
      have hm5' : Mod (fun b => b = w2.heap.size) w4 w5 := hm5.mono fun b _ q => by injection q
      have hm25 : Mod none_ w2 w5 := (hm3.then hm4 fun i hi q => by omega).then hm5' fun i hi q => by omega
      rw [code_Heights_R7_eq]; unfold code_Heights_R7_F
      rw [bk_n, bk_n, sq_n]
      have eset : (i64s todo1 ++ [Value.int .i64 0]).set todo1.length (.int .i64 ((x.toNat : Nat) : Int)) = i64s (todo1 ++ [x]) := by
        rw [← i64s_len todo1, List.set_append_right _ _ (Nat.le_refl _), Nat.sub_self, ← hxn]
        unfold i64s
        simp
      refine next _ w5 (out1.set x.toNat high) (todo1 ++ [x]) (by rw [List.length_set]; exact ho1) (by rw [List.length_append, List.length_singleton]; omega) hwl e76 e75 e74 e10 e4 e1 ?_ ?_ ?_ ?_
      · refine owns_mod ?_ hm25 fun _ _ q => q
        have : (i64s out1).set x.toNat (.int .i64 high) = i64s (out1.set x.toNat high) := by unfold i64s; rw [List.map_set]
        rw [← this]
        exact hB2
      · rw [eset] at hB5
        have := reads_of_owns hB5
        rw [show (todo1 ++ [x]).length = todo1.length + 1 by simp]
        exact this
      · show some w2.heap.size ≠ some B
        intro z
        injection z with z
        have := hm1.size
        omega
      · exact (hm1.trans hm2').then hm25 fun _ _ q => q.elim
    · refine condF ?_
      rw [if_neg q] at hwl
      refine caseI (fun q2 => ?_) (fun q2 => ?_)
      · refine condT ?_
        rw [if_pos q2] at hwl
        exact next _ w1 out1 todo1 ho1 (by omega) hwl e76 e75 e74 e10 e4 e1 hB1 ht1 hT1 hm1
      · refine condF ?_
        rw [if_neg q2] at hwl
        exact hret hwl.symm _ w1 rfl rfl hm1
  · obtain rfl : k = ws.length := by omega
    rw [decide_eq_false (by omega)]
    refine condF ?_
    rw [List.drop_length, wlS] at hwl
    rw [sq_x]
    exact hexit out1 todo1 hwl.symm _ w1 (by rw [g4]; exact e4) e1 hB1 ht1 hT1 hm1
end Go.Proofs.Ytmbgbffgkdcieaa.Tr
