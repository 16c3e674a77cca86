/- Several texts of this repo, one behind the other, without what is not used here. -/
import Derived.Test.YtandbmnhghmcgaaDoorProg
import Derived.Test.YtandbmnhghmcgaaDoorRows
import Derived.Lib.LaidTab
import Derived.Test.YtandbmnhghmcgaaDoorCO4
set_option linter.unusedVariables false
set_option maxRecDepth 100000
namespace Go.Proofs.YtandbmnhghmcgaaDoor.XG
open Go Go.X
noncomputable def dispatcherlaw15_CollOrder_b : Code := (Tryd.f7.body).getD .skip
noncomputable def dispatcherlaw15_CollOrder_R0 : Code := cAt [1, 1, 1, 1, 0, 1] dispatcherlaw15_CollOrder_b
noncomputable def dispatcherlaw15_CollOrder_R1 : Code := cAt [1, 1, 1, 1, 1] dispatcherlaw15_CollOrder_b
noncomputable def dispatcherlaw15_CollOrder_L2 : Code := cAt [1, 1, 1, 1, 1, 0, 1, 0, 0] dispatcherlaw15_CollOrder_b
noncomputable def dispatcherlaw15_CollOrder_R3 : Code := cAt [1, 1, 1, 1, 1, 1] dispatcherlaw15_CollOrder_b
noncomputable def dispatcherlaw15_CollOrder_R4 : Code := cAt [1, 1, 1, 1, 1, 0, 1, 0, 0, 1, 0, 0, 1, 1, 1] dispatcherlaw15_CollOrder_b
noncomputable def dispatcherlaw15_CollOrder_R5 : Code := cAt [1, 1, 1, 1, 1, 0, 1, 0, 0, 1, 1] dispatcherlaw15_CollOrder_b
noncomputable def dispatcherlaw15_CollOrder_R0_F (z : At) (K : Exit → Sl → World → Prop) (ρ : Sl) (w : World) : Prop :=
  CondK (ρ 49) (K .ret (up ρ 8 (Value.bool false)) w) (K .normal ρ w)
theorem dispatcherlaw15_CollOrder_R0_eq (z : At) (K : Exit → Sl → World → Prop) (ρ : Sl) (w : World) : sx z Tryd.prog 77 dispatcherlaw15_CollOrder_R0 K ρ w = dispatcherlaw15_CollOrder_R0_F z K ρ w := by kernel_rfl
noncomputable def dispatcherlaw15_CollOrder_R1_F (z : At) (K : Exit → Sl → World → Prop) (ρ : Sl) (w : World) : Prop :=
  W z Tryd.prog 77 (Code.loop dispatcherlaw15_CollOrder_L2) (blkK 0 (seqK (sx z Tryd.prog 77 dispatcherlaw15_CollOrder_R3 K) K)) (up ρ 11 (Value.int .i64 0)) w
theorem dispatcherlaw15_CollOrder_R1_eq (z : At) (K : Exit → Sl → World → Prop) (ρ : Sl) (w : World) : sx z Tryd.prog 77 dispatcherlaw15_CollOrder_R1 K ρ w = dispatcherlaw15_CollOrder_R1_F z K ρ w := by kernel_rfl
noncomputable def dispatcherlaw15_CollOrder_L2_F (z : At) (K : Exit → Sl → World → Prop) (ρ : Sl) (w : World) : Prop :=
  IK Tryd.prog .len #[61] 3 [false] [(ρ 1)] w fun x52 w => BK Tryd.prog .lss 3 (.tmp 50) (.tmp 52) (ρ 11) x52 w fun x53 w => CondK x53 (CK Tryd.prog (Value.func (Fn.func 27) #[] #[]) [(ρ 9), (Value.string { data := #[] }), (ρ 11), (Value.int .i64 0)] w fun x59 w => VK Tryd.prog (Instr.extract x59 0) w fun x60 w => VK Tryd.prog (Instr.extract x59 1) w fun x61 w => VK Tryd.prog (Instr.alloc 57 true (.tuple #[])) w fun x12 w => UK Tryd.prog (Instr.storeAt 57 x12 x60) w fun _ w => CK Tryd.prog (Value.func (Fn.func 27) #[] #[]) [(ρ 10), (Value.string { data := #[] }), (ρ 11), (Value.int .i64 0)] w fun x65 w => VK Tryd.prog (Instr.extract x65 0) w fun x66 w => VK Tryd.prog (Instr.extract x65 1) w fun x67 w => VK Tryd.prog (Instr.alloc 57 true (.tuple #[])) w fun x14 w => UK Tryd.prog (Instr.storeAt 57 x14 x66) w fun _ w => BK Tryd.prog .neq 4 (.tmp 68) (.tmp 69) x61 x67 w fun x70 w => VG Tryd.prog x70 false (Instr.loadAt 57 x12) w fun x72 w => VG Tryd.prog x70 false (Instr.loadAt 57 x14) w fun x73 w => CG Tryd.prog x70 false (Value.func (Fn.func 28) #[] #[]) [x72, x73] w fun x74 w => VG Tryd.prog x70 false (Op.unary UnOp.not x74) w fun x75 w => PK Tryd.prog x70 (Value.bool true) x75 w fun x76 w => sx z Tryd.prog 77 dispatcherlaw15_CollOrder_R4 (blkK 1 (seqK (sx z Tryd.prog 77 dispatcherlaw15_CollOrder_R5 K) K)) (up (up (up (up (up (up (up (up (up (up (up (up (up (up (up (up (up (up (up (up (up (up (up (up (up (up (up (up (up ρ 50 (ρ 11)) 51 (ρ 1)) 52 x52) 53 x53) 57 (ρ 9)) 58 (ρ 11)) 59 x59) 56 x59) 60 x60) 61 x61) 12 x12) 13 x61) 63 (ρ 10)) 64 (ρ 11)) 65 x65) 62 x65) 66 x66) 67 x67) 14 x14) 15 x67) 68 x61) 69 x67) 70 x70) 71 x70) 72 x72) 73 x73) 74 x74) 75 x75) 76 x76) w) (K (.exit 0) (up (up (up (up ρ 50 (ρ 11)) 51 (ρ 1)) 52 x52) 53 x53) w)
theorem dispatcherlaw15_CollOrder_L2_eq (z : At) (K : Exit → Sl → World → Prop) (ρ : Sl) (w : World) : sx z Tryd.prog 77 dispatcherlaw15_CollOrder_L2 K ρ w = dispatcherlaw15_CollOrder_L2_F z K ρ w := by kernel_rfl
theorem dispatcherlaw15_CollOrder_L2_ok : dstOk 77 dispatcherlaw15_CollOrder_L2 = true := by kernel_rfl
noncomputable def dispatcherlaw15_CollOrder_R3_F (z : At) (K : Exit → Sl → World → Prop) (ρ : Sl) (w : World) : Prop :=
  K .ret (up ρ 8 (Value.bool true)) w
theorem dispatcherlaw15_CollOrder_R3_eq (z : At) (K : Exit → Sl → World → Prop) (ρ : Sl) (w : World) : sx z Tryd.prog 77 dispatcherlaw15_CollOrder_R3 K ρ w = dispatcherlaw15_CollOrder_R3_F z K ρ w := by kernel_rfl
noncomputable def dispatcherlaw15_CollOrder_R4_F (z : At) (K : Exit → Sl → World → Prop) (ρ : Sl) (w : World) : Prop :=
  CondK (ρ 76) (K .ret (up ρ 8 (Value.bool false)) w) (K .normal ρ w)
theorem dispatcherlaw15_CollOrder_R4_eq (z : At) (K : Exit → Sl → World → Prop) (ρ : Sl) (w : World) : sx z Tryd.prog 77 dispatcherlaw15_CollOrder_R4 K ρ w = dispatcherlaw15_CollOrder_R4_F z K ρ w := by kernel_rfl
noncomputable def dispatcherlaw15_CollOrder_R5_F (z : At) (K : Exit → Sl → World → Prop) (ρ : Sl) (w : World) : Prop :=
  BK Tryd.prog .add 3 (.tmp 54) (.const (Value.int .i64 1)) (ρ 11) (Value.int .i64 1) w fun x55 w => K .normal (up (up (up ρ 54 (ρ 11)) 55 x55) 11 x55) w
theorem dispatcherlaw15_CollOrder_R5_eq (z : At) (K : Exit → Sl → World → Prop) (ρ : Sl) (w : World) : sx z Tryd.prog 77 dispatcherlaw15_CollOrder_R5 K ρ w = dispatcherlaw15_CollOrder_R5_F z K ρ w := by kernel_rfl
noncomputable def dispatcherlaw15_CollOrder_F (a0 a1 a2 a3 : Value) (w : World) (R : Value → World → Prop) : Prop :=
  CK Tryd.prog (Value.func (Fn.func 26) #[] #[]) [] w fun x16 w => VK Tryd.prog (Op.unary UnOp.not x16) w fun x17 w => CondK x17 (R (Value.bool false) w) (CK Tryd.prog (Value.func (Fn.func 29) #[] #[]) [a1] w fun x19 w => VK Tryd.prog (Op.unary UnOp.not x19) w fun x20 w => CondK x20 (R (Value.bool true) w) (CK Tryd.prog (Value.func (Fn.func 11) #[] #[]) [a0] w fun x22 w => CK Tryd.prog (Value.func (Fn.func 11) #[] #[]) [a0] w fun x24 w => IK Tryd.prog .len #[61] 3 [false] [a1] w fun x27 w => CK Tryd.prog (Value.func (Fn.func 32) #[] #[]) [x22, x27, a1, a2] w fun x30 w => VK Tryd.prog (Op.unary UnOp.not x30) w fun x31 w => MG Tryd.prog x31 false x24 w fun x33 w => MG Tryd.prog x31 false a1 w fun x34 w => IG Tryd.prog x31 false .len #[61] 3 [false] [x34] w fun x35 w => MG Tryd.prog x31 false a1 w fun x36 w => MG Tryd.prog x31 false a3 w fun x37 w => CG Tryd.prog x31 false (Value.func (Fn.func 32) #[] #[]) [x33, x35, x36, x37] w fun x38 w => VG Tryd.prog x31 false (Op.unary UnOp.not x38) w fun x39 w => PK Tryd.prog x31 (Value.bool true) x39 w fun x40 w => MG Tryd.prog x40 false x22 w fun x42 w => CG Tryd.prog x40 false (Value.func (Fn.func 24) #[] #[]) [x42] w fun x43 w => IG Tryd.prog x40 false .len #[50] 3 [false] [x43] w fun x44 w => MG Tryd.prog x40 false x24 w fun x45 w => CG Tryd.prog x40 false (Value.func (Fn.func 24) #[] #[]) [x45] w fun x46 w => IG Tryd.prog x40 false .len #[50] 3 [false] [x46] w fun x47 w => BG Tryd.prog x40 false .neq 3 (.tmp 44) (.tmp 47) x44 x47 w fun x48 w => PK Tryd.prog x40 (Value.bool true) x48 w fun x49 w => sx fn_ Tryd.prog 77 dispatcherlaw15_CollOrder_R0 (seqK (sx fn_ Tryd.prog 77 dispatcherlaw15_CollOrder_R1 (retK Tryd.prog [ResultVar.tmp 8] R)) (retK Tryd.prog [ResultVar.tmp 8] R)) (up (up (up (up (up (up (up (up (up (up (up (up (up (up (up (up (up (up (up (up (up (up (up (up (up (up (up (up (up (up (up (up (up (up (up (up (up (rho0 [a0, a1, a2, a3]) 8 (Value.bool false)) 16 x16) 17 x17) 18 a1) 19 x19) 20 x20) 21 a0) 22 x22) 23 a0) 24 x24) 9 x22) 10 x24) 25 x22) 26 a1) 27 x27) 28 a1) 29 a2) 30 x30) 31 x31) 32 x31) 33 x33) 34 x34) 35 x35) 36 x36) 37 x37) 38 x38) 39 x39) 40 x40) 41 x40) 42 x42) 43 x43) 44 x44) 45 x45) 46 x46) 47 x47) 48 x48) 49 x49) w))
theorem dispatcherlaw15_CollOrder_eq (a0 a1 a2 a3 : Value) (w : World) (R : Value → World → Prop) : sx fn_ Tryd.prog 77 dispatcherlaw15_CollOrder_b (retK Tryd.prog Tryd.f7.results.toList R) (rho0 [a0, a1, a2, a3]) w = dispatcherlaw15_CollOrder_F a0 a1 a2 a3 w R := by kernel_rfl
theorem dispatcherlaw15_CollOrder_calls {a0 a1 a2 a3 : Value} {w : World} {R : Value → World → Prop} (h : dispatcherlaw15_CollOrder_F a0 a1 a2 a3 w R) : Calls Tryd.prog 7 #[a0, a1, a2, a3] w fun e w' => ∃ v, e = .returned v ∧ R v w' :=
  Go.X.calls_of_sx (n := 77) (c := dispatcherlaw15_CollOrder_b) Tryd.func7 (by kernel_rfl) (by kernel_rfl) (Nat.le_of_ble_eq_true rfl) (by kernel_rfl) (Eq.mpr (dispatcherlaw15_CollOrder_eq a0 a1 a2 a3 w R) h)
noncomputable def dispatcherlaw15_awake_b : Code := (Tryd.f26.body).getD .skip
noncomputable def dispatcherlaw15_awake_L0 : Code := cAt [1, 0, 1, 0, 0] dispatcherlaw15_awake_b
noncomputable def dispatcherlaw15_awake_R1 : Code := cAt [1, 1] dispatcherlaw15_awake_b
noncomputable def dispatcherlaw15_awake_R2 : Code := cAt [1, 0, 1, 0, 0, 1, 0, 0, 1, 1, 1, 0] dispatcherlaw15_awake_b
noncomputable def dispatcherlaw15_awake_R3 : Code := cAt [1, 0, 1, 0, 0, 1, 0, 0, 1, 1, 1, 1] dispatcherlaw15_awake_b
noncomputable def dispatcherlaw15_awake_R4 : Code := cAt [1, 0, 1, 0, 0, 1, 1] dispatcherlaw15_awake_b
noncomputable def dispatcherlaw15_awake_R5 : Code := cAt [1, 0, 1, 0, 0, 1, 0, 0, 1, 1, 1, 1, 1, 0] dispatcherlaw15_awake_b
noncomputable def dispatcherlaw15_awake_R6 : Code := cAt [1, 0, 1, 0, 0, 1, 0, 0, 1, 1, 1, 1, 1, 1] dispatcherlaw15_awake_b
noncomputable def dispatcherlaw15_awake_R7 : Code := cAt [1, 0, 1, 0, 0, 1, 0, 0, 1, 1, 1, 1, 1, 1, 1, 0] dispatcherlaw15_awake_b
noncomputable def dispatcherlaw15_awake_R8 : Code := cAt [1, 0, 1, 0, 0, 1, 0, 0, 1, 1, 1, 1, 1, 1, 1, 1] dispatcherlaw15_awake_b
noncomputable def dispatcherlaw15_awake_R9 : Code := cAt [1, 0, 1, 0, 0, 1, 0, 0, 1, 1, 1, 1, 1, 1, 1, 1, 1, 1, 0, 1] dispatcherlaw15_awake_b
noncomputable def dispatcherlaw15_awake_R10 : Code := cAt [1, 0, 1, 0, 0, 1, 0, 0, 1, 1, 1, 1, 1, 1, 1, 1, 1, 1, 1] dispatcherlaw15_awake_b
noncomputable def dispatcherlaw15_awake_R11 : Code := cAt [1, 0, 1, 0, 0, 1, 0, 0, 1, 1, 1, 1, 1, 1, 1, 1, 1, 1, 1, 1, 1, 1] dispatcherlaw15_awake_b
noncomputable def dispatcherlaw15_awake_L0_F (z : At) (K : Exit → Sl → World → Prop) (ρ : Sl) (w : World) : Prop :=
  BK Tryd.prog .lss 3 (.tmp 11) (.const (Value.int .i64 2)) (ρ 1) (Value.int .i64 2) w fun x12 w => CondK x12 (BK Tryd.prog .eql 3 (.tmp 15) (.const (Value.int .i64 1)) (ρ 1) (Value.int .i64 1) w fun x16 w => CK Tryd.prog (Value.func (Fn.func 11) #[] #[]) [x16] w fun x17 w => BK Tryd.prog .eql 24 (.tmp 18) (.const (Value.pointer none)) x17 (Value.pointer none) w fun x19 w => CondK x19 (K .ret (up (up (up (up (up (up (up (up (up ρ 11 (ρ 1)) 12 x12) 15 (ρ 1)) 16 x16) 17 x17) 2 x17) 18 x17) 19 x19) 0 (Value.bool false)) w) (CK Tryd.prog (Value.func (Fn.func 30) #[] #[]) [(Value.int .i64 3)] w fun x20 w => VK Tryd.prog (Instr.alloc 32 true (.tuple #[])) w fun x3 w => UK Tryd.prog (Instr.storeAt 32 x3 x20) w fun _ w => W z Tryd.prog 107 dispatcherlaw15_awake_R2 (seqK (sx z Tryd.prog 107 dispatcherlaw15_awake_R3 (blkK 1 (seqK (sx z Tryd.prog 107 dispatcherlaw15_awake_R4 K) K))) (blkK 1 (seqK (sx z Tryd.prog 107 dispatcherlaw15_awake_R4 K) K))) (up (up (up (up (up (up (up (up (up (up ρ 11 (ρ 1)) 12 x12) 15 (ρ 1)) 16 x16) 17 x17) 2 x17) 18 x17) 19 x19) 20 x20) 3 x3) w)) (K (.exit 0) (up (up ρ 11 (ρ 1)) 12 x12) w)
theorem dispatcherlaw15_awake_L0_eq (z : At) (K : Exit → Sl → World → Prop) (ρ : Sl) (w : World) : sx z Tryd.prog 107 dispatcherlaw15_awake_L0 K ρ w = dispatcherlaw15_awake_L0_F z K ρ w := by kernel_rfl
theorem dispatcherlaw15_awake_L0_ok : dstOk 107 dispatcherlaw15_awake_L0 = true := by kernel_rfl
noncomputable def dispatcherlaw15_awake_R1_F (z : At) (K : Exit → Sl → World → Prop) (ρ : Sl) (w : World) : Prop :=
  K .ret (up ρ 0 (Value.bool true)) w
theorem dispatcherlaw15_awake_R1_eq (z : At) (K : Exit → Sl → World → Prop) (ρ : Sl) (w : World) : sx z Tryd.prog 107 dispatcherlaw15_awake_R1 K ρ w = dispatcherlaw15_awake_R1_F z K ρ w := by kernel_rfl
noncomputable def dispatcherlaw15_awake_R2_ops : Array Oper := opsOf dispatcherlaw15_awake_R2
def dispatcherlaw15_awake_R2_H (S : World → Prop) (K : Exit → Sl → World → Prop) (ρ : Sl) (w : World) : Prop :=
  HK Tryd.prog S (do pure (Next.value (← Instr.loadAt 32 (ρ 3)))) fun x22_2 => CK Tryd.prog (Value.func (Fn.func 56) #[] #[]) [(Value.int IntKind.i64 5)] w fun x23_2 w => S w ∧ (CK Tryd.prog (Value.func (Fn.func 12) #[] #[]) [(ρ 2), x22_2, (Value.int IntKind.i64 0), x23_2] w fun x24_2 w => S w ∧ (K Exit.normal (up (up (up (up ρ 21 (ρ 2)) 22 x22_2) 23 x23_2) 24 x24_2) w))
theorem dispatcherlaw15_awake_R2_held {D : List Deferred} (S : World → Prop) {K : Exit → Sl → World → Prop} {ρ : Sl} {w : World} (hS : S { w with drawn := w.drawn + 1 }) (h : dispatcherlaw15_awake_R2_H S K ρ { w with drawn := w.drawn + 1 }) : W ⟨none, D⟩ Tryd.prog 107 dispatcherlaw15_awake_R2 K ρ w := by
  have e : dispatcherlaw15_awake_R2 = .region (idOf dispatcherlaw15_awake_R2) dispatcherlaw15_awake_R2_ops true := by kernel_rfl
  have q : sxh Tryd.prog S dispatcherlaw15_awake_R2_ops (K .normal) [(0, true), (1, true), (2, false), (3, false)] ρ { w with drawn := w.drawn + 1 } = dispatcherlaw15_awake_R2_H S K ρ { w with drawn := w.drawn + 1 } := by kernel_rfl
  rw [e]
  exact W_held S [(0, true), (1, true), (2, false), (3, false)] (by kernel_rfl) (by kernel_rfl) (by kernel_rfl) (by kernel_rfl) hS (Eq.mpr q h)
noncomputable def dispatcherlaw15_awake_R3_F (z : At) (K : Exit → Sl → World → Prop) (ρ : Sl) (w : World) : Prop :=
  CK Tryd.prog (Value.func (Fn.func 31) #[] #[]) [(ρ 2), (Value.string { data := #[] }), (Value.int .i64 0), (Value.int .i64 0)] w fun x26 w => W z Tryd.prog 107 dispatcherlaw15_awake_R5 (seqK (sx z Tryd.prog 107 dispatcherlaw15_awake_R6 K) K) (up (up (up ρ 25 (ρ 2)) 26 x26) 4 x26) w
theorem dispatcherlaw15_awake_R3_eq (z : At) (K : Exit → Sl → World → Prop) (ρ : Sl) (w : World) : sx z Tryd.prog 107 dispatcherlaw15_awake_R3 K ρ w = dispatcherlaw15_awake_R3_F z K ρ w := by kernel_rfl
noncomputable def dispatcherlaw15_awake_R4_F (z : At) (K : Exit → Sl → World → Prop) (ρ : Sl) (w : World) : Prop :=
  BK Tryd.prog .add 3 (.tmp 13) (.const (Value.int .i64 1)) (ρ 1) (Value.int .i64 1) w fun x14 w => K .normal (up (up (up ρ 13 (ρ 1)) 14 x14) 1 x14) w
theorem dispatcherlaw15_awake_R4_eq (z : At) (K : Exit → Sl → World → Prop) (ρ : Sl) (w : World) : sx z Tryd.prog 107 dispatcherlaw15_awake_R4 K ρ w = dispatcherlaw15_awake_R4_F z K ρ w := by kernel_rfl
noncomputable def dispatcherlaw15_awake_R5_ops : Array Oper := opsOf dispatcherlaw15_awake_R5
def dispatcherlaw15_awake_R5_H (S : World → Prop) (K : Exit → Sl → World → Prop) (ρ : Sl) (w : World) : Prop :=
  HK Tryd.prog S (do pure (Next.value (← Instr.loadAt 32 (ρ 3)))) fun x28_2 => CK Tryd.prog (Value.func (Fn.func 56) #[] #[]) [(Value.int IntKind.i64 7)] w fun x29_2 w => S w ∧ (CK Tryd.prog (Value.func (Fn.func 12) #[] #[]) [(ρ 2), x28_2, (Value.int IntKind.i64 1), x29_2] w fun x30_2 w => S w ∧ (K Exit.normal (up (up (up (up ρ 27 (ρ 2)) 28 x28_2) 29 x29_2) 30 x30_2) w))
theorem dispatcherlaw15_awake_R5_held {D : List Deferred} (S : World → Prop) {K : Exit → Sl → World → Prop} {ρ : Sl} {w : World} (hS : S { w with drawn := w.drawn + 1 }) (h : dispatcherlaw15_awake_R5_H S K ρ { w with drawn := w.drawn + 1 }) : W ⟨none, D⟩ Tryd.prog 107 dispatcherlaw15_awake_R5 K ρ w := by
  have e : dispatcherlaw15_awake_R5 = .region (idOf dispatcherlaw15_awake_R5) dispatcherlaw15_awake_R5_ops true := by kernel_rfl
  have q : sxh Tryd.prog S dispatcherlaw15_awake_R5_ops (K .normal) [(0, true), (1, true), (2, false), (3, false)] ρ { w with drawn := w.drawn + 1 } = dispatcherlaw15_awake_R5_H S K ρ { w with drawn := w.drawn + 1 } := by kernel_rfl
  rw [e]
  exact W_held S [(0, true), (1, true), (2, false), (3, false)] (by kernel_rfl) (by kernel_rfl) (by kernel_rfl) (by kernel_rfl) hS (Eq.mpr q h)
noncomputable def dispatcherlaw15_awake_R6_F (z : At) (K : Exit → Sl → World → Prop) (ρ : Sl) (w : World) : Prop :=
  CK Tryd.prog (Value.func (Fn.func 15) #[] #[]) [(ρ 2)] w fun x32 w => W z Tryd.prog 107 dispatcherlaw15_awake_R7 (seqK (sx z Tryd.prog 107 dispatcherlaw15_awake_R8 K) K) (up (up (up ρ 31 (ρ 2)) 32 x32) 5 x32) w
theorem dispatcherlaw15_awake_R6_eq (z : At) (K : Exit → Sl → World → Prop) (ρ : Sl) (w : World) : sx z Tryd.prog 107 dispatcherlaw15_awake_R6 K ρ w = dispatcherlaw15_awake_R6_F z K ρ w := by kernel_rfl
noncomputable def dispatcherlaw15_awake_R7_ops : Array Oper := opsOf dispatcherlaw15_awake_R7
def dispatcherlaw15_awake_R7_H (S : World → Prop) (K : Exit → Sl → World → Prop) (ρ : Sl) (w : World) : Prop :=
  HK Tryd.prog S (do pure (Next.value (← Instr.loadAt 32 (ρ 3)))) fun x34_2 => CK Tryd.prog (Value.func (Fn.func 56) #[] #[]) [(Value.int IntKind.i64 9)] w fun x35_2 w => S w ∧ (CK Tryd.prog (Value.func (Fn.func 12) #[] #[]) [(ρ 2), x34_2, (Value.int IntKind.i64 2), x35_2] w fun x36_2 w => S w ∧ (K Exit.normal (up (up (up (up ρ 33 (ρ 2)) 34 x34_2) 35 x35_2) 36 x36_2) w))
theorem dispatcherlaw15_awake_R7_held {D : List Deferred} (S : World → Prop) {K : Exit → Sl → World → Prop} {ρ : Sl} {w : World} (hS : S { w with drawn := w.drawn + 1 }) (h : dispatcherlaw15_awake_R7_H S K ρ { w with drawn := w.drawn + 1 }) : W ⟨none, D⟩ Tryd.prog 107 dispatcherlaw15_awake_R7 K ρ w := by
  have e : dispatcherlaw15_awake_R7 = .region (idOf dispatcherlaw15_awake_R7) dispatcherlaw15_awake_R7_ops true := by kernel_rfl
  have q : sxh Tryd.prog S dispatcherlaw15_awake_R7_ops (K .normal) [(0, true), (1, true), (2, false), (3, false)] ρ { w with drawn := w.drawn + 1 } = dispatcherlaw15_awake_R7_H S K ρ { w with drawn := w.drawn + 1 } := by kernel_rfl
  rw [e]
  exact W_held S [(0, true), (1, true), (2, false), (3, false)] (by kernel_rfl) (by kernel_rfl) (by kernel_rfl) (by kernel_rfl) hS (Eq.mpr q h)
noncomputable def dispatcherlaw15_awake_R8_F (z : At) (K : Exit → Sl → World → Prop) (ρ : Sl) (w : World) : Prop :=
  CK Tryd.prog (Value.func (Fn.func 27) #[] #[]) [(ρ 2), (Value.string { data := #[] }), (Value.int .i64 1), (Value.int .i64 0)] w fun x39 w => VK Tryd.prog (Instr.extract x39 0) w fun x40 w => VK Tryd.prog (Instr.extract x39 1) w fun x41 w => VK Tryd.prog (Instr.alloc 57 true (.tuple #[])) w fun x6 w => UK Tryd.prog (Instr.storeAt 57 x6 x40) w fun _ w => CK Tryd.prog (Value.func (Fn.func 27) #[] #[]) [(ρ 2), (Value.string { data := #[] }), (Value.int .i64 2), (Value.int .i64 0)] w fun x44 w => VK Tryd.prog (Instr.extract x44 0) w fun x45 w => VK Tryd.prog (Instr.extract x44 1) w fun x46 w => VK Tryd.prog (Instr.alloc 57 true (.tuple #[])) w fun x8 w => UK Tryd.prog (Instr.storeAt 57 x8 x45) w fun _ w => BK Tryd.prog .eql 3 (.tmp 48) (.const (Value.int .i64 1)) (ρ 1) (Value.int .i64 1) w fun x49 w => BK Tryd.prog .neq 4 (.tmp 47) (.tmp 49) (ρ 4) x49 w fun x50 w => MG Tryd.prog x50 false x41 w fun x52 w => VG Tryd.prog x50 false (Op.unary UnOp.not x52) w fun x53 w => PK Tryd.prog x50 (Value.bool true) x53 w fun x54 w => VG Tryd.prog x54 false (Instr.fieldAt 57 x6 0) w fun x56 w => VG Tryd.prog x54 false (Instr.loadAt 2 x56) w fun x57 w => BG Tryd.prog x54 false .neq 2 (.tmp 57) (.const (Value.int .i64 21)) x57 (Value.int .i64 21) w fun x58 w => PK Tryd.prog x54 (Value.bool true) x58 w fun x59 w => MG Tryd.prog x59 false x46 w fun x61 w => VG Tryd.prog x59 false (Op.unary UnOp.not x61) w fun x62 w => PK Tryd.prog x59 (Value.bool true) x62 w fun x63 w => VG Tryd.prog x63 false (Instr.fieldAt 57 x8 0) w fun x65 w => VG Tryd.prog x63 false (Instr.loadAt 2 x65) w fun x66 w => BG Tryd.prog x63 false .neq 2 (.tmp 66) (.const (Value.int .i64 0)) x66 (Value.int .i64 0) w fun x67 w => PK Tryd.prog x63 (Value.bool true) x67 w fun x68 w => MG Tryd.prog x68 false (ρ 5) w fun x70 w => BG Tryd.prog x68 false .eql 24 (.tmp 70) (.const (Value.pointer none)) x70 (Value.pointer none) w fun x71 w => PK Tryd.prog x68 (Value.bool true) x71 w fun x72 w => MG Tryd.prog x72 false (ρ 5) w fun x74 w => CG Tryd.prog x72 false (Value.func (Fn.func 31) #[] #[]) [x74, (Value.string { data := #[] }), (Value.int .i64 1), (Value.int .i64 0)] w fun x75 w => PK Tryd.prog x72 (Value.bool true) x75 w fun x76 w => sx z Tryd.prog 107 dispatcherlaw15_awake_R9 (seqK (sx z Tryd.prog 107 dispatcherlaw15_awake_R10 K) K) (up (up (up (up (up (up (up (up (up (up (up (up (up (up (up (up (up (up (up (up (up (up (up (up (up (up (up (up (up (up (up (up (up (up (up (up (up (up (up (up (up (up (up (up ρ 38 (ρ 2)) 39 x39) 37 x39) 40 x40) 41 x41) 6 x6) 7 x41) 43 (ρ 2)) 44 x44) 42 x44) 45 x45) 46 x46) 8 x8) 9 x46) 47 (ρ 4)) 48 (ρ 1)) 49 x49) 50 x50) 51 x50) 52 x52) 53 x53) 54 x54) 55 x54) 56 x56) 57 x57) 58 x58) 59 x59) 60 x59) 61 x61) 62 x62) 63 x63) 64 x63) 65 x65) 66 x66) 67 x67) 68 x68) 69 x68) 70 x70) 71 x71) 72 x72) 73 x72) 74 x74) 75 x75) 76 x76) w
theorem dispatcherlaw15_awake_R8_eq (z : At) (K : Exit → Sl → World → Prop) (ρ : Sl) (w : World) : sx z Tryd.prog 107 dispatcherlaw15_awake_R8 K ρ w = dispatcherlaw15_awake_R8_F z K ρ w := by kernel_rfl
noncomputable def dispatcherlaw15_awake_R9_F (z : At) (K : Exit → Sl → World → Prop) (ρ : Sl) (w : World) : Prop :=
  CondK (ρ 76) (K .ret (up ρ 0 (Value.bool false)) w) (K .normal ρ w)
theorem dispatcherlaw15_awake_R9_eq (z : At) (K : Exit → Sl → World → Prop) (ρ : Sl) (w : World) : sx z Tryd.prog 107 dispatcherlaw15_awake_R9 K ρ w = dispatcherlaw15_awake_R9_F z K ρ w := by kernel_rfl
noncomputable def dispatcherlaw15_awake_R10_F (z : At) (K : Exit → Sl → World → Prop) (ρ : Sl) (w : World) : Prop :=
  VK Tryd.prog (Instr.loadAt 32 (ρ 3)) w fun x78 w => VK Tryd.prog (Instr.build 34 [(0, (Value.int .u8 15))].toArray) w fun x79 w => CK Tryd.prog (Value.func (Fn.func 12) #[] #[]) [(ρ 5), x78, (Value.int .i64 2), x79] w fun x80 w => CK Tryd.prog (Value.func (Fn.func 24) #[] #[]) [(ρ 5)] w fun x82 w => IK Tryd.prog .len #[50] 3 [false] [x82] w fun x84 w => BK Tryd.prog .neq 3 (.tmp 84) (.const (Value.int .i64 1)) x84 (Value.int .i64 1) w fun x85 w => MG Tryd.prog x85 false x82 w fun x87 w => VG Tryd.prog x85 false (Instr.indexAt 50 x87 (Value.int .i64 0)) w fun x88 w => VG Tryd.prog x85 false (Instr.loadAt 9 x88) w fun x89 w => BG Tryd.prog x85 false .neq 9 (.tmp 89) (.const (Value.string { data := #[46, 48] })) x89 (Value.string { data := #[46, 48] }) w fun x90 w => PK Tryd.prog x85 (Value.bool true) x90 w fun x91 w => MG Tryd.prog x91 false (ρ 5) w fun x93 w => CG Tryd.prog x91 false (Value.func (Fn.func 31) #[] #[]) [x93, (Value.string { data := #[] }), (Value.int .i64 1), (Value.int .i64 0)] w fun x94 w => PK Tryd.prog x91 (Value.bool true) x94 w fun x95 w => MG Tryd.prog x95 false (ρ 5) w fun x97 w => CG Tryd.prog x95 false (Value.func (Fn.func 31) #[] #[]) [x97, (Value.string { data := #[] }), (Value.int .i64 2), (Value.int .i64 0)] w fun x98 w => PK Tryd.prog x95 (Value.bool true) x98 w fun x99 w => MG Tryd.prog x99 false (ρ 5) w fun x101 w => CG Tryd.prog x99 false (Value.func (Fn.func 31) #[] #[]) [x101, (Value.string { data := #[] }), (Value.int .i64 0), (Value.int .i64 0)] w fun x102 w => MG Tryd.prog x99 false (ρ 1) w fun x103 w => BG Tryd.prog x99 false .eql 3 (.tmp 103) (.const (Value.int .i64 1)) x103 (Value.int .i64 1) w fun x104 w => BG Tryd.prog x99 false .neq 4 (.tmp 102) (.tmp 104) x102 x104 w fun x105 w => PK Tryd.prog x99 (Value.bool true) x105 w fun x106 w => sx z Tryd.prog 107 dispatcherlaw15_awake_R11 K (up (up (up (up (up (up (up (up (up (up (up (up (up (up (up (up (up (up (up (up (up (up (up (up (up (up (up (up (up (up (up ρ 77 (ρ 5)) 78 x78) 79 x79) 80 x80) 81 (ρ 5)) 82 x82) 10 x82) 83 x82) 84 x84) 85 x85) 86 x85) 87 x87) 88 x88) 89 x89) 90 x90) 91 x91) 92 x91) 93 x93) 94 x94) 95 x95) 96 x95) 97 x97) 98 x98) 99 x99) 100 x99) 101 x101) 102 x102) 103 x103) 104 x104) 105 x105) 106 x106) w
theorem dispatcherlaw15_awake_R10_eq (z : At) (K : Exit → Sl → World → Prop) (ρ : Sl) (w : World) : sx z Tryd.prog 107 dispatcherlaw15_awake_R10 K ρ w = dispatcherlaw15_awake_R10_F z K ρ w := by kernel_rfl
noncomputable def dispatcherlaw15_awake_R11_F (z : At) (K : Exit → Sl → World → Prop) (ρ : Sl) (w : World) : Prop :=
  CondK (ρ 106) (K .ret (up ρ 0 (Value.bool false)) w) (K .normal ρ w)
theorem dispatcherlaw15_awake_R11_eq (z : At) (K : Exit → Sl → World → Prop) (ρ : Sl) (w : World) : sx z Tryd.prog 107 dispatcherlaw15_awake_R11 K ρ w = dispatcherlaw15_awake_R11_F z K ρ w := by kernel_rfl
noncomputable def dispatcherlaw15_awake_F (w : World) (R : Value → World → Prop) : Prop :=
  W fn_ Tryd.prog 107 (Code.loop dispatcherlaw15_awake_L0) (blkK 0 (seqK (sx fn_ Tryd.prog 107 dispatcherlaw15_awake_R1 (retK Tryd.prog [ResultVar.tmp 0] R)) (retK Tryd.prog [ResultVar.tmp 0] R))) (up (up (rho0 []) 0 (Value.bool false)) 1 (Value.int .i64 0)) w
theorem dispatcherlaw15_awake_calls {w : World} {R : Value → World → Prop} (h : dispatcherlaw15_awake_F  w R) : Calls Tryd.prog 26 #[] w fun e w' => ∃ v, e = .returned v ∧ R v w' :=
  Go.X.calls_eq (n := 107) (c := dispatcherlaw15_awake_b) (fn := Tryd.f26) (args := #[]) (F := dispatcherlaw15_awake_F  w R) (R := R) Tryd.func26 (by kernel_rfl) (by kernel_rfl) (Nat.le_of_ble_eq_true rfl) (by kernel_rfl) (by kernel_rfl) h
noncomputable def dispatcherref15_Same_b : Code := (Tryd.f28.body).getD .skip
noncomputable def dispatcherref15_Same_R0 : Code := cAt [1, 0, 1] dispatcherref15_Same_b
noncomputable def dispatcherref15_Same_R1 : Code := cAt [1, 1] dispatcherref15_Same_b
noncomputable def dispatcherref15_Same_L2 : Code := cAt [1, 1, 0, 1, 0, 0] dispatcherref15_Same_b
noncomputable def dispatcherref15_Same_R3 : Code := cAt [1, 1, 1] dispatcherref15_Same_b
noncomputable def dispatcherref15_Same_R4 : Code := cAt [1, 1, 0, 1, 0, 0, 1, 0, 0, 0] dispatcherref15_Same_b
noncomputable def dispatcherref15_Same_R5 : Code := cAt [1, 1, 0, 1, 0, 0, 1, 0, 0, 1] dispatcherref15_Same_b
noncomputable def dispatcherref15_Same_R6 : Code := cAt [1, 1, 0, 1, 0, 0, 1, 1] dispatcherref15_Same_b
noncomputable def dispatcherref15_Same_R0_F (z : At) (K : Exit → Sl → World → Prop) (ρ : Sl) (w : World) : Prop :=
  CondK (ρ 34) (K .ret (up ρ 4 (Value.bool false)) w) (K .normal ρ w)
theorem dispatcherref15_Same_R0_eq (z : At) (K : Exit → Sl → World → Prop) (ρ : Sl) (w : World) : sx z Tryd.prog 53 dispatcherref15_Same_R0 K ρ w = dispatcherref15_Same_R0_F z K ρ w := by kernel_rfl
noncomputable def dispatcherref15_Same_R1_F (z : At) (K : Exit → Sl → World → Prop) (ρ : Sl) (w : World) : Prop :=
  W z Tryd.prog 53 (Code.loop dispatcherref15_Same_L2) (blkK 0 (seqK (sx z Tryd.prog 53 dispatcherref15_Same_R3 K) K)) (up ρ 5 (Value.int .i64 0)) w
theorem dispatcherref15_Same_R1_eq (z : At) (K : Exit → Sl → World → Prop) (ρ : Sl) (w : World) : sx z Tryd.prog 53 dispatcherref15_Same_R1 K ρ w = dispatcherref15_Same_R1_F z K ρ w := by kernel_rfl
noncomputable def dispatcherref15_Same_L2_F (z : At) (K : Exit → Sl → World → Prop) (ρ : Sl) (w : World) : Prop :=
  VK Tryd.prog (Instr.fieldAt 57 (ρ 2) 1) w fun x36 w => VK Tryd.prog (Instr.loadAt 55 x36) w fun x37 w => IK Tryd.prog .len #[55] 3 [false] [x37] w fun x38 w => BK Tryd.prog .lss 3 (.tmp 35) (.tmp 38) (ρ 5) x38 w fun x39 w => CondK x39 (W z Tryd.prog 53 dispatcherref15_Same_R4 (seqK (sx z Tryd.prog 53 dispatcherref15_Same_R5 (blkK 1 (seqK (sx z Tryd.prog 53 dispatcherref15_Same_R6 K) K))) (blkK 1 (seqK (sx z Tryd.prog 53 dispatcherref15_Same_R6 K) K))) (up (up (up (up (up ρ 35 (ρ 5)) 36 x36) 37 x37) 38 x38) 39 x39) w) (K (.exit 0) (up (up (up (up (up ρ 35 (ρ 5)) 36 x36) 37 x37) 38 x38) 39 x39) w)
theorem dispatcherref15_Same_L2_eq (z : At) (K : Exit → Sl → World → Prop) (ρ : Sl) (w : World) : sx z Tryd.prog 53 dispatcherref15_Same_L2 K ρ w = dispatcherref15_Same_L2_F z K ρ w := by kernel_rfl
theorem dispatcherref15_Same_L2_ok : dstOk 53 dispatcherref15_Same_L2 = true := by kernel_rfl
noncomputable def dispatcherref15_Same_R3_F (z : At) (K : Exit → Sl → World → Prop) (ρ : Sl) (w : World) : Prop :=
  K .ret (up ρ 4 (Value.bool true)) w
theorem dispatcherref15_Same_R3_eq (z : At) (K : Exit → Sl → World → Prop) (ρ : Sl) (w : World) : sx z Tryd.prog 53 dispatcherref15_Same_R3 K ρ w = dispatcherref15_Same_R3_F z K ρ w := by kernel_rfl
noncomputable def dispatcherref15_Same_R4_ops : Array Oper := opsOf dispatcherref15_Same_R4
def dispatcherref15_Same_R4_Q (C : World → Prop) (K : Exit → Sl → World → Prop) (ρ : Sl) : Prop :=
  QK Tryd.prog C (do pure (Next.value (← Instr.fieldAt 57 (ρ 2) 1))) fun x42 => QK Tryd.prog C (do pure (Next.value (← Instr.loadAt 55 x42))) fun x43 => QK Tryd.prog C (do pure (Next.value (← Instr.indexAt 55 x43 (ρ 5)))) fun x45 => QK Tryd.prog C (do pure (Next.value (← Instr.loadAt 2 x45))) fun x46 => QK Tryd.prog C (do pure (Next.value (← Instr.fieldAt 57 (ρ 3) 1))) fun x47 => QK Tryd.prog C (do pure (Next.value (← Instr.loadAt 55 x47))) fun x48 => QK Tryd.prog C (do pure (Next.value (← Instr.indexAt 55 x48 (ρ 5)))) fun x50 => QK Tryd.prog C (do pure (Next.value (← Instr.loadAt 2 x50))) fun x51 => QK Tryd.prog C (do pure (Next.value (← (do eqGuard BinOp.neq 2 (Operand.tmp 46) (Operand.tmp 51) x46 x51; binOp BinOp.neq 2 x46 x51)))) fun x52 => ∀ w', C w' → K Exit.normal (up (up (up (up (up (up (up (up (up (up (up ρ 42 x42) 43 x43) 44 (ρ 5)) 45 x45) 46 x46) 47 x47) 48 x48) 49 (ρ 5)) 50 x50) 51 x51) 52 x52) w'
theorem dispatcherref15_Same_R4_quiet {D : List Deferred} (C : World → Prop) {K : Exit → Sl → World → Prop} {ρ : Sl} {w : World} (hC : C { w with drawn := w.drawn + 1 }) (h : dispatcherref15_Same_R4_Q C K ρ) : W ⟨none, D⟩ Tryd.prog 53 dispatcherref15_Same_R4 K ρ w := by
  have e : dispatcherref15_Same_R4 = .region (idOf dispatcherref15_Same_R4) dispatcherref15_Same_R4_ops true := by kernel_rfl
  have q : sxq Tryd.prog C dispatcherref15_Same_R4_ops (fun ρ' => ∀ w', C w' → K .normal ρ' w') dispatcherref15_Same_R4_ops.toList ρ = dispatcherref15_Same_R4_Q C K ρ := by kernel_rfl
  rw [e]
  exact W_quiet C (by kernel_rfl) (by kernel_rfl) (by kernel_rfl) hC (Eq.mpr q h)
noncomputable def dispatcherref15_Same_R5_F (z : At) (K : Exit → Sl → World → Prop) (ρ : Sl) (w : World) : Prop :=
  CondK (ρ 52) (K .ret (up ρ 4 (Value.bool false)) w) (K .normal ρ w)
theorem dispatcherref15_Same_R5_eq (z : At) (K : Exit → Sl → World → Prop) (ρ : Sl) (w : World) : sx z Tryd.prog 53 dispatcherref15_Same_R5 K ρ w = dispatcherref15_Same_R5_F z K ρ w := by kernel_rfl
noncomputable def dispatcherref15_Same_R6_F (z : At) (K : Exit → Sl → World → Prop) (ρ : Sl) (w : World) : Prop :=
  BK Tryd.prog .add 3 (.tmp 40) (.const (Value.int .i64 1)) (ρ 5) (Value.int .i64 1) w fun x41 w => K .normal (up (up (up ρ 40 (ρ 5)) 41 x41) 5 x41) w
theorem dispatcherref15_Same_R6_eq (z : At) (K : Exit → Sl → World → Prop) (ρ : Sl) (w : World) : sx z Tryd.prog 53 dispatcherref15_Same_R6 K ρ w = dispatcherref15_Same_R6_F z K ρ w := by kernel_rfl
noncomputable def dispatcherref15_Same_F (a0 a1 : Value) (w : World) (R : Value → World → Prop) : Prop :=
  VK Tryd.prog (Instr.box 57 a0) w fun x2 w => VK Tryd.prog (Instr.box 57 a1) w fun x3 w => VK Tryd.prog (Instr.fieldAt 57 x2 0) w fun x6 w => VK Tryd.prog (Instr.loadAt 2 x6) w fun x7 w => VK Tryd.prog (Instr.fieldAt 57 x3 0) w fun x8 w => VK Tryd.prog (Instr.loadAt 2 x8) w fun x9 w => BK Tryd.prog .neq 2 (.tmp 7) (.tmp 9) x7 x9 w fun x10 w => VG Tryd.prog x10 false (Instr.fieldAt 57 x2 3) w fun x12 w => VG Tryd.prog x10 false (Instr.loadAt 4 x12) w fun x13 w => VG Tryd.prog x10 false (Instr.fieldAt 57 x3 3) w fun x14 w => VG Tryd.prog x10 false (Instr.loadAt 4 x14) w fun x15 w => BG Tryd.prog x10 false .neq 4 (.tmp 13) (.tmp 15) x13 x15 w fun x16 w => PK Tryd.prog x10 (Value.bool true) x16 w fun x17 w => VG Tryd.prog x17 false (Instr.fieldAt 57 x2 2) w fun x19 w => VG Tryd.prog x17 false (Instr.loadAt 32 x19) w fun x20 w => VG Tryd.prog x17 false (Instr.fieldAt 57 x3 2) w fun x21 w => VG Tryd.prog x17 false (Instr.loadAt 32 x21) w fun x22 w => CG Tryd.prog x17 false (Value.func (Fn.func 42) #[] #[]) [x20, x22] w fun x23 w => VG Tryd.prog x17 false (Op.unary UnOp.not x23) w fun x24 w => PK Tryd.prog x17 (Value.bool true) x24 w fun x25 w => VG Tryd.prog x25 false (Instr.fieldAt 57 x2 1) w fun x27 w => VG Tryd.prog x25 false (Instr.loadAt 55 x27) w fun x28 w => IG Tryd.prog x25 false .len #[55] 3 [false] [x28] w fun x29 w => VG Tryd.prog x25 false (Instr.fieldAt 57 x3 1) w fun x30 w => VG Tryd.prog x25 false (Instr.loadAt 55 x30) w fun x31 w => IG Tryd.prog x25 false .len #[55] 3 [false] [x31] w fun x32 w => BG Tryd.prog x25 false .neq 3 (.tmp 29) (.tmp 32) x29 x32 w fun x33 w => PK Tryd.prog x25 (Value.bool true) x33 w fun x34 w => sx fn_ Tryd.prog 53 dispatcherref15_Same_R0 (seqK (sx fn_ Tryd.prog 53 dispatcherref15_Same_R1 (retK Tryd.prog [ResultVar.tmp 4] R)) (retK Tryd.prog [ResultVar.tmp 4] R)) (up (up (up (up (up (up (up (up (up (up (up (up (up (up (up (up (up (up (up (up (up (up (up (up (up (up (up (up (up (up (up (up (rho0 [a0, a1]) 2 x2) 3 x3) 4 (Value.bool false)) 6 x6) 7 x7) 8 x8) 9 x9) 10 x10) 11 x10) 12 x12) 13 x13) 14 x14) 15 x15) 16 x16) 17 x17) 18 x17) 19 x19) 20 x20) 21 x21) 22 x22) 23 x23) 24 x24) 25 x25) 26 x25) 27 x27) 28 x28) 29 x29) 30 x30) 31 x31) 32 x32) 33 x33) 34 x34) w
theorem dispatcherref15_Same_eq (a0 a1 : Value) (w : World) (R : Value → World → Prop) : sx fn_ Tryd.prog 53 dispatcherref15_Same_b (retK Tryd.prog Tryd.f28.results.toList R) (rho0 [a0, a1]) w = dispatcherref15_Same_F a0 a1 w R := by kernel_rfl
theorem dispatcherref15_Same_calls {a0 a1 : Value} {w : World} {R : Value → World → Prop} (h : dispatcherref15_Same_F a0 a1 w R) : Calls Tryd.prog 28 #[a0, a1] w fun e w' => ∃ v, e = .returned v ∧ R v w' :=
  Go.X.calls_of_sx (n := 53) (c := dispatcherref15_Same_b) Tryd.func28 (by kernel_rfl) (by kernel_rfl) (Nat.le_of_ble_eq_true rfl) (by kernel_rfl) (Eq.mpr (dispatcherref15_Same_eq a0 a1 w R) h)
noncomputable def dispatcherlaw15_may_b : Code := (Tryd.f29.body).getD .skip
noncomputable def dispatcherlaw15_may_L0 : Code := cAt [1, 1, 0, 1, 0, 0] dispatcherlaw15_may_b
noncomputable def dispatcherlaw15_may_R1 : Code := cAt [1, 1, 1] dispatcherlaw15_may_b
noncomputable def dispatcherlaw15_may_R2 : Code := cAt [1, 1, 0, 1, 0, 0, 1, 0, 0, 0] dispatcherlaw15_may_b
noncomputable def dispatcherlaw15_may_R3 : Code := cAt [1, 1, 0, 1, 0, 0, 1, 0, 0, 1] dispatcherlaw15_may_b
noncomputable def dispatcherlaw15_may_R4 : Code := cAt [1, 1, 0, 1, 0, 0, 1, 1] dispatcherlaw15_may_b
noncomputable def dispatcherlaw15_may_L0_F (z : At) (K : Exit → Sl → World → Prop) (ρ : Sl) (w : World) : Prop :=
  IK Tryd.prog .len #[61] 3 [false] [(ρ 0)] w fun x14 w => BK Tryd.prog .lss 3 (.tmp 12) (.tmp 14) (ρ 3) x14 w fun x15 w => CondK x15 (W z Tryd.prog 27 dispatcherlaw15_may_R2 (seqK (sx z Tryd.prog 27 dispatcherlaw15_may_R3 (blkK 1 (seqK (sx z Tryd.prog 27 dispatcherlaw15_may_R4 K) K))) (blkK 1 (seqK (sx z Tryd.prog 27 dispatcherlaw15_may_R4 K) K))) (up (up (up (up ρ 12 (ρ 3)) 13 (ρ 0)) 14 x14) 15 x15) w) (K (.exit 0) (up (up (up (up ρ 12 (ρ 3)) 13 (ρ 0)) 14 x14) 15 x15) w)
theorem dispatcherlaw15_may_L0_eq (z : At) (K : Exit → Sl → World → Prop) (ρ : Sl) (w : World) : sx z Tryd.prog 27 dispatcherlaw15_may_L0 K ρ w = dispatcherlaw15_may_L0_F z K ρ w := by kernel_rfl
theorem dispatcherlaw15_may_L0_ok : dstOk 27 dispatcherlaw15_may_L0 = true := by kernel_rfl
noncomputable def dispatcherlaw15_may_R1_F (z : At) (K : Exit → Sl → World → Prop) (ρ : Sl) (w : World) : Prop :=
  K .ret (up ρ 2 (Value.bool true)) w
theorem dispatcherlaw15_may_R1_eq (z : At) (K : Exit → Sl → World → Prop) (ρ : Sl) (w : World) : sx z Tryd.prog 27 dispatcherlaw15_may_R1 K ρ w = dispatcherlaw15_may_R1_F z K ρ w := by kernel_rfl
noncomputable def dispatcherlaw15_may_R2_ops : Array Oper := opsOf dispatcherlaw15_may_R2
def dispatcherlaw15_may_R2_H (S : World → Prop) (K : Exit → Sl → World → Prop) (ρ : Sl) (w : World) : Prop :=
  HK Tryd.prog S (builtin Builtin.len #[61] 3 [false].toArray [(ρ 0)].toArray) fun x19_2 => HK Tryd.prog S (do pure (Next.value (← Instr.indexAt 61 (ρ 0) (ρ 3)))) fun x23_2 => HK Tryd.prog S (do pure (Next.value (← Instr.loadAt 34 x23_2))) fun x24_2 => CK Tryd.prog (Value.func (Fn.func 30) #[] #[]) [x19_2] w fun x20_2 w => S w ∧ (CK Tryd.prog (Value.func (Fn.func 19) #[] #[]) [x20_2, x24_2] w fun x25_2 w => S w ∧ (HK Tryd.prog S (do pure (Next.value (← Op.unary UnOp.not x25_2))) fun x26_2 => K Exit.normal (up (up (up (up (up (up (up (up (up ρ 18 (ρ 0)) 19 x19_2) 21 (ρ 0)) 22 (ρ 3)) 23 x23_2) 24 x24_2) 20 x20_2) 25 x25_2) 26 x26_2) w))
theorem dispatcherlaw15_may_R2_held {D : List Deferred} (S : World → Prop) {K : Exit → Sl → World → Prop} {ρ : Sl} {w : World} (hS : S { w with drawn := w.drawn + 1 }) (h : dispatcherlaw15_may_R2_H S K ρ { w with drawn := w.drawn + 1 }) : W ⟨none, D⟩ Tryd.prog 27 dispatcherlaw15_may_R2 K ρ w := by
  have e : dispatcherlaw15_may_R2 = .region (idOf dispatcherlaw15_may_R2) dispatcherlaw15_may_R2_ops true := by kernel_rfl
  have q : sxh Tryd.prog S dispatcherlaw15_may_R2_ops (K .normal) [(0, true), (1, true), (3, true), (4, true), (5, true), (6, true), (2, false), (7, false), (8, true)] ρ { w with drawn := w.drawn + 1 } = dispatcherlaw15_may_R2_H S K ρ { w with drawn := w.drawn + 1 } := by kernel_rfl
  rw [e]
  exact W_held S [(0, true), (1, true), (3, true), (4, true), (5, true), (6, true), (2, false), (7, false), (8, true)] (by kernel_rfl) (by kernel_rfl) (by kernel_rfl) (by kernel_rfl) hS (Eq.mpr q h)
noncomputable def dispatcherlaw15_may_R3_F (z : At) (K : Exit → Sl → World → Prop) (ρ : Sl) (w : World) : Prop :=
  CondK (ρ 26) (K .ret (up ρ 2 (Value.bool false)) w) (K .normal ρ w)
theorem dispatcherlaw15_may_R3_eq (z : At) (K : Exit → Sl → World → Prop) (ρ : Sl) (w : World) : sx z Tryd.prog 27 dispatcherlaw15_may_R3 K ρ w = dispatcherlaw15_may_R3_F z K ρ w := by kernel_rfl
noncomputable def dispatcherlaw15_may_R4_F (z : At) (K : Exit → Sl → World → Prop) (ρ : Sl) (w : World) : Prop :=
  BK Tryd.prog .add 3 (.tmp 16) (.const (Value.int .i64 1)) (ρ 3) (Value.int .i64 1) w fun x17 w => K .normal (up (up (up ρ 16 (ρ 3)) 17 x17) 3 x17) w
theorem dispatcherlaw15_may_R4_eq (z : At) (K : Exit → Sl → World → Prop) (ρ : Sl) (w : World) : sx z Tryd.prog 27 dispatcherlaw15_may_R4 K ρ w = dispatcherlaw15_may_R4_F z K ρ w := by kernel_rfl
noncomputable def dispatcherlaw15_may_F (a0 : Value) (w : World) (R : Value → World → Prop) : Prop :=
  IK Tryd.prog .len #[61] 3 [false] [a0] w fun x5 w => BK Tryd.prog .lss 3 (.tmp 5) (.const (Value.int .i64 1)) x5 (Value.int .i64 1) w fun x6 w => MG Tryd.prog x6 false a0 w fun x8 w => IG Tryd.prog x6 false .len #[61] 3 [false] [x8] w fun x9 w => BG Tryd.prog x6 false .gtr 3 (.tmp 9) (.const (Value.int .i64 8)) x9 (Value.int .i64 8) w fun x10 w => PK Tryd.prog x6 (Value.bool true) x10 w fun x11 w => CondK x11 (R (Value.bool false) w) (W fn_ Tryd.prog 27 (Code.loop dispatcherlaw15_may_L0) (blkK 0 (seqK (sx fn_ Tryd.prog 27 dispatcherlaw15_may_R1 (retK Tryd.prog [ResultVar.tmp 2] R)) (retK Tryd.prog [ResultVar.tmp 2] R))) (up (up (up (up (up (up (up (up (up (up (rho0 [a0]) 2 (Value.bool false)) 4 a0) 5 x5) 6 x6) 7 x6) 8 x8) 9 x9) 10 x10) 11 x11) 3 (Value.int .i64 0)) w)
theorem dispatcherlaw15_may_eq (a0 : Value) (w : World) (R : Value → World → Prop) : sx fn_ Tryd.prog 27 dispatcherlaw15_may_b (retK Tryd.prog Tryd.f29.results.toList R) (rho0 [a0]) w = dispatcherlaw15_may_F a0 w R := by kernel_rfl
theorem dispatcherlaw15_may_calls {a0 : Value} {w : World} {R : Value → World → Prop} (h : dispatcherlaw15_may_F a0 w R) : Calls Tryd.prog 29 #[a0] w fun e w' => ∃ v, e = .returned v ∧ R v w' :=
  Go.X.calls_of_sx (n := 27) (c := dispatcherlaw15_may_b) Tryd.func29 (by kernel_rfl) (by kernel_rfl) (Nat.le_of_ble_eq_true rfl) (by kernel_rfl) (Eq.mpr (dispatcherlaw15_may_eq a0 w R) h)
noncomputable def dispatcherlaw15_ranks_b : Code := (Tryd.f30.body).getD .skip
noncomputable def dispatcherlaw15_ranks_F (a0 : Value) (w : World) (R : Value → World → Prop) : Prop :=
  VK Tryd.prog (Instr.alloc 32 true (.tuple #[])) w fun x2 w => CK Tryd.prog (Value.func (Fn.func 60) #[] #[]) [a0] w fun x7 w => VK Tryd.prog (Instr.extract x7 0) w fun x8 w => VK Tryd.prog (Instr.extract x7 1) w fun x9 w => VK Tryd.prog (Instr.alloc 32 true (.tuple #[])) w fun x3 w => UK Tryd.prog (Instr.storeAt 32 x3 x8) w fun _ w => VK Tryd.prog (Instr.loadAt 32 x3) w fun x10 w => UK Tryd.prog (Instr.storeAt 32 x2 x10) w fun _ w => ∃ x2_1, (do loadVar 32 (← asAddr x2) : Sem Value).run Tryd.prog w = .ok x2_1 w ∧ R x2_1 w
theorem dispatcherlaw15_ranks_eq (a0 : Value) (w : World) (R : Value → World → Prop) : sx fn_ Tryd.prog 11 dispatcherlaw15_ranks_b (retK Tryd.prog Tryd.f30.results.toList R) (rho0 [a0]) w = dispatcherlaw15_ranks_F a0 w R := by kernel_rfl
theorem dispatcherlaw15_ranks_calls {a0 : Value} {w : World} {R : Value → World → Prop} (h : dispatcherlaw15_ranks_F a0 w R) : Calls Tryd.prog 30 #[a0] w fun e w' => ∃ v, e = .returned v ∧ R v w' :=
  Go.X.calls_of_sx (n := 11) (c := dispatcherlaw15_ranks_b) Tryd.func30 (by kernel_rfl) (by kernel_rfl) (Nat.le_of_ble_eq_true rfl) (by kernel_rfl) (Eq.mpr (dispatcherlaw15_ranks_eq a0 w R) h)
noncomputable def dispatcherlaw15_all_b : Code := (Tryd.f32.body).getD .skip
noncomputable def dispatcherlaw15_all_L0 : Code := cAt [1, 1, 0, 1, 0, 0] dispatcherlaw15_all_b
noncomputable def dispatcherlaw15_all_R1 : Code := cAt [1, 1, 1] dispatcherlaw15_all_b
noncomputable def dispatcherlaw15_all_L2 : Code := cAt [1, 1, 1, 0, 1, 0, 0] dispatcherlaw15_all_b
noncomputable def dispatcherlaw15_all_R3 : Code := cAt [1, 1, 1, 1] dispatcherlaw15_all_b
noncomputable def dispatcherlaw15_all_R4 : Code := cAt [1, 1, 1, 0, 1, 0, 0, 1, 0, 0, 1, 1] dispatcherlaw15_all_b
noncomputable def dispatcherlaw15_all_R5 : Code := cAt [1, 1, 1, 0, 1, 0, 0, 1, 1] dispatcherlaw15_all_b
noncomputable def dispatcherlaw15_all_R6 : Code := cAt [1, 1, 1, 0, 1, 0, 0, 1, 0, 0, 1, 1, 1, 0] dispatcherlaw15_all_b
noncomputable def dispatcherlaw15_all_R7 : Code := cAt [1, 1, 1, 0, 1, 0, 0, 1, 0, 0, 1, 1, 1, 1] dispatcherlaw15_all_b
noncomputable def dispatcherlaw15_all_R8 : Code := cAt [1, 1, 1, 0, 1, 0, 0, 1, 0, 0, 1, 1, 1, 1, 1] dispatcherlaw15_all_b
noncomputable def dispatcherlaw15_all_L0_F (z : At) (K : Exit → Sl → World → Prop) (ρ : Sl) (w : World) : Prop :=
  BK Tryd.prog .lss 3 (.tmp 18) (.tmp 19) (ρ 10) (ρ 1) w fun x20 w => CondK x20 (VK Tryd.prog (Instr.indexAt 30 (ρ 9) (ρ 10)) w fun x26 w => UK Tryd.prog (Instr.storeAt 3 x26 (ρ 10)) w fun _ w => BK Tryd.prog .add 3 (.tmp 21) (.const (Value.int .i64 1)) (ρ 10) (Value.int .i64 1) w fun x22 w => K .normal (up (up (up (up (up (up (up (up (up (up ρ 18 (ρ 10)) 19 (ρ 1)) 20 x20) 23 (ρ 9)) 24 (ρ 10)) 25 (ρ 10)) 26 x26) 21 (ρ 10)) 22 x22) 10 x22) w) (K (.exit 0) (up (up (up ρ 18 (ρ 10)) 19 (ρ 1)) 20 x20) w)
theorem dispatcherlaw15_all_L0_eq (z : At) (K : Exit → Sl → World → Prop) (ρ : Sl) (w : World) : sx z Tryd.prog 76 dispatcherlaw15_all_L0 K ρ w = dispatcherlaw15_all_L0_F z K ρ w := by kernel_rfl
theorem dispatcherlaw15_all_L0_ok : dstOk 76 dispatcherlaw15_all_L0 = true := by kernel_rfl
noncomputable def dispatcherlaw15_all_R1_F (z : At) (K : Exit → Sl → World → Prop) (ρ : Sl) (w : World) : Prop :=
  W z Tryd.prog 76 (Code.loop dispatcherlaw15_all_L2) (blkK 2 (seqK (sx z Tryd.prog 76 dispatcherlaw15_all_R3 K) K)) (up ρ 11 (Value.int .i64 0)) w
theorem dispatcherlaw15_all_R1_eq (z : At) (K : Exit → Sl → World → Prop) (ρ : Sl) (w : World) : sx z Tryd.prog 76 dispatcherlaw15_all_R1 K ρ w = dispatcherlaw15_all_R1_F z K ρ w := by kernel_rfl
noncomputable def dispatcherlaw15_all_L2_F (z : At) (K : Exit → Sl → World → Prop) (ρ : Sl) (w : World) : Prop :=
  BK Tryd.prog .lss 3 (.tmp 27) (.tmp 28) (ρ 11) (ρ 1) w fun x29 w => CondK x29 (IK Tryd.prog .len #[66] 3 [false] [(ρ 3)] w fun x34 w => BK Tryd.prog .lss 3 (.tmp 32) (.tmp 34) (ρ 11) x34 w fun x35 w => CondK x35 (VK Tryd.prog (Instr.indexAt 66 (ρ 3) (ρ 11)) w fun x38 w => VK Tryd.prog (Instr.loadAt 5 x38) w fun x39 w => VK Tryd.prog (convert 5 3 x39) w fun x40 w => IK Tryd.prog .len #[30] 3 [false] [(ρ 9)] w fun x42 w => BK Tryd.prog .rem 3 (.tmp 40) (.tmp 42) x40 x42 w fun x43 w => sx z Tryd.prog 76 dispatcherlaw15_all_R4 (blkK 3 (seqK (sx z Tryd.prog 76 dispatcherlaw15_all_R5 K) K)) (up (up (up (up (up (up (up (up (up (up (up (up (up (up (up (up (up ρ 27 (ρ 11)) 28 (ρ 1)) 29 x29) 12 (Value.int .i64 0)) 32 (ρ 11)) 33 (ρ 3)) 34 x34) 35 x35) 36 (ρ 3)) 37 (ρ 11)) 38 x38) 39 x39) 40 x40) 41 (ρ 9)) 42 x42) 43 x43) 12 x43) w) (sx z Tryd.prog 76 dispatcherlaw15_all_R4 (blkK 3 (seqK (sx z Tryd.prog 76 dispatcherlaw15_all_R5 K) K)) (up (up (up (up (up (up (up (up ρ 27 (ρ 11)) 28 (ρ 1)) 29 x29) 12 (Value.int .i64 0)) 32 (ρ 11)) 33 (ρ 3)) 34 x34) 35 x35) w)) (K (.exit 2) (up (up (up ρ 27 (ρ 11)) 28 (ρ 1)) 29 x29) w)
theorem dispatcherlaw15_all_L2_eq (z : At) (K : Exit → Sl → World → Prop) (ρ : Sl) (w : World) : sx z Tryd.prog 76 dispatcherlaw15_all_L2 K ρ w = dispatcherlaw15_all_L2_F z K ρ w := by kernel_rfl
theorem dispatcherlaw15_all_L2_ok : dstOk 76 dispatcherlaw15_all_L2 = true := by kernel_rfl
noncomputable def dispatcherlaw15_all_R3_F (z : At) (K : Exit → Sl → World → Prop) (ρ : Sl) (w : World) : Prop :=
  K .ret (up ρ 8 (Value.bool true)) w
theorem dispatcherlaw15_all_R3_eq (z : At) (K : Exit → Sl → World → Prop) (ρ : Sl) (w : World) : sx z Tryd.prog 76 dispatcherlaw15_all_R3 K ρ w = dispatcherlaw15_all_R3_F z K ρ w := by kernel_rfl
noncomputable def dispatcherlaw15_all_R4_F (z : At) (K : Exit → Sl → World → Prop) (ρ : Sl) (w : World) : Prop :=
  VK Tryd.prog (Instr.indexAt 30 (ρ 9) (ρ 12)) w fun x46 w => VK Tryd.prog (Instr.loadAt 3 x46) w fun x47 w => W z Tryd.prog 76 dispatcherlaw15_all_R6 (seqK (sx z Tryd.prog 76 dispatcherlaw15_all_R7 K) K) (up (up (up (up (up ρ 44 (ρ 9)) 45 (ρ 12)) 46 x46) 47 x47) 13 x47) w
theorem dispatcherlaw15_all_R4_eq (z : At) (K : Exit → Sl → World → Prop) (ρ : Sl) (w : World) : sx z Tryd.prog 76 dispatcherlaw15_all_R4 K ρ w = dispatcherlaw15_all_R4_F z K ρ w := by kernel_rfl
noncomputable def dispatcherlaw15_all_R5_F (z : At) (K : Exit → Sl → World → Prop) (ρ : Sl) (w : World) : Prop :=
  BK Tryd.prog .add 3 (.tmp 30) (.const (Value.int .i64 1)) (ρ 11) (Value.int .i64 1) w fun x31 w => K .normal (up (up (up ρ 30 (ρ 11)) 31 x31) 11 x31) w
theorem dispatcherlaw15_all_R5_eq (z : At) (K : Exit → Sl → World → Prop) (ρ : Sl) (w : World) : sx z Tryd.prog 76 dispatcherlaw15_all_R5 K ρ w = dispatcherlaw15_all_R5_F z K ρ w := by kernel_rfl
noncomputable def dispatcherlaw15_all_R6_ops : Array Oper := opsOf dispatcherlaw15_all_R6
def dispatcherlaw15_all_R6_H0 (S : World → Prop) (K : Sl → World → Prop) (ρ : Sl) (w : World) : Prop :=
  HK Tryd.prog S (do pure (Next.value (← Instr.indexAt 61 (ρ 2) (ρ 13)))) fun x55_2 => HK Tryd.prog S (do pure (Next.value (← Instr.loadAt 34 x55_2))) fun x56_2 => CK Tryd.prog (Value.func (Fn.func 30) #[] #[]) [(ρ 1)] w fun x51_2 w => S w ∧ (CK Tryd.prog (Value.func (Fn.func 12) #[] #[]) [(ρ 0), x51_2, (ρ 13), x56_2] w fun x57_2 w => S w ∧ (HK Tryd.prog S (do pure (Next.value (← Instr.extract x57_2 0))) fun x58_2 => HK Tryd.prog S (do pure (Next.value (← Instr.extract x57_2 1))) fun x59_2 => K (up (up (up (up (up (up (up (up (up (up (up (up ρ 49 (ρ 0)) 50 (ρ 1)) 52 (ρ 13)) 53 (ρ 2)) 54 (ρ 13)) 55 x55_2) 56 x56_2) 51 x51_2) 57 x57_2) 48 x57_2) 58 x58_2) 59 x59_2) w))
theorem dispatcherlaw15_all_R6_q0 (S : World → Prop) (K : Sl → World → Prop) : sxh Tryd.prog S dispatcherlaw15_all_R6_ops K [(0, true), (1, true), (3, true), (4, true), (5, true), (6, true), (7, true), (2, false), (8, false), (9, true), (10, true), (11, true)] = dispatcherlaw15_all_R6_H0 S K := by kernel_rfl
def dispatcherlaw15_all_R6_H1 (S : World → Prop) (K : Sl → World → Prop) (ρ : Sl) (w : World) : Prop :=
  K (up (up ρ 14 (ρ 58)) 15 (ρ 59)) w
theorem dispatcherlaw15_all_R6_q1 (S : World → Prop) (K : Sl → World → Prop) : sxh Tryd.prog S dispatcherlaw15_all_R6_ops K [(12, true), (13, true)] = dispatcherlaw15_all_R6_H1 S K := by kernel_rfl
def dispatcherlaw15_all_R6_H (S : World → Prop) (K : Exit → Sl → World → Prop) (ρ : Sl) (w : World) : Prop :=
  dispatcherlaw15_all_R6_H0 S (dispatcherlaw15_all_R6_H1 S (K .normal)) ρ w
theorem dispatcherlaw15_all_R6_steps : planOk Tryd.prog 76 dispatcherlaw15_all_R6_ops [(0, true), (1, true), (3, true), (4, true), (5, true), (6, true), (7, true), (2, false), (8, false), (9, true), (10, true), (11, true), (12, true), (13, true)] (Array.replicate dispatcherlaw15_all_R6_ops.size false) = true :=
  by kernel_rfl
theorem dispatcherlaw15_all_R6_held {D : List Deferred} (S : World → Prop) {K : Exit → Sl → World → Prop} {ρ : Sl} {w : World} (hS : S { w with drawn := w.drawn + 1 }) (h : dispatcherlaw15_all_R6_H S K ρ { w with drawn := w.drawn + 1 }) : W ⟨none, D⟩ Tryd.prog 76 dispatcherlaw15_all_R6 K ρ w := by
  have e : dispatcherlaw15_all_R6 = .region (idOf dispatcherlaw15_all_R6) dispatcherlaw15_all_R6_ops true := by kernel_rfl
  have q : sxh Tryd.prog S dispatcherlaw15_all_R6_ops (K .normal) [(0, true), (1, true), (3, true), (4, true), (5, true), (6, true), (7, true), (2, false), (8, false), (9, true), (10, true), (11, true), (12, true), (13, true)] ρ { w with drawn := w.drawn + 1 } = dispatcherlaw15_all_R6_H S K ρ { w with drawn := w.drawn + 1 } := by
    show sxh Tryd.prog S dispatcherlaw15_all_R6_ops (K .normal) ([(0, true), (1, true), (3, true), (4, true), (5, true), (6, true), (7, true), (2, false), (8, false), (9, true), (10, true), (11, true)] ++ [(12, true), (13, true)]) ρ { w with drawn := w.drawn + 1 } = _
    rw [sxh_append, dispatcherlaw15_all_R6_q1, dispatcherlaw15_all_R6_q0]; rfl
  rw [e]
  exact W_held S [(0, true), (1, true), (3, true), (4, true), (5, true), (6, true), (7, true), (2, false), (8, false), (9, true), (10, true), (11, true), (12, true), (13, true)] (by kernel_rfl) (by kernel_rfl) dispatcherlaw15_all_R6_steps (by kernel_rfl) hS (Eq.mpr q h)
noncomputable def dispatcherlaw15_all_R7_F (z : At) (K : Exit → Sl → World → Prop) (ρ : Sl) (w : World) : Prop :=
  BK Tryd.prog .neq 37 (.tmp 60) (.const (Value.int .i64 0)) (ρ 15) (Value.int .i64 0) w fun x61 w => MG Tryd.prog x61 false (ρ 14) w fun x63 w => BG Tryd.prog x61 false .neq 3 (.tmp 63) (.const (Value.int .i64 0)) x63 (Value.int .i64 0) w fun x64 w => PK Tryd.prog x61 (Value.bool true) x64 w fun x65 w => CondK x65 (K .ret (up (up (up (up (up (up (up ρ 60 (ρ 15)) 61 x61) 62 x61) 63 x63) 64 x64) 65 x65) 8 (Value.bool false)) w) (W z Tryd.prog 76 dispatcherlaw15_all_R8 K (up (up (up (up (up (up ρ 60 (ρ 15)) 61 x61) 62 x61) 63 x63) 64 x64) 65 x65) w)
theorem dispatcherlaw15_all_R7_eq (z : At) (K : Exit → Sl → World → Prop) (ρ : Sl) (w : World) : sx z Tryd.prog 76 dispatcherlaw15_all_R7 K ρ w = dispatcherlaw15_all_R7_F z K ρ w := by kernel_rfl
noncomputable def dispatcherlaw15_all_R8_ops : Array Oper := opsOf dispatcherlaw15_all_R8
def dispatcherlaw15_all_R8_H (S : World → Prop) (K : Exit → Sl → World → Prop) (ρ : Sl) (w : World) : Prop :=
  HK Tryd.prog S (do pure (Next.value (← Instr.sliceAt 30 (ρ 9) none (some (ρ 12)) none))) fun x69 => HK Tryd.prog S (do pure (Next.value (← (do eqGuard BinOp.add 3 (Operand.tmp 72) (Operand.const (Value.int IntKind.i64 1)) (ρ 12) (Value.int IntKind.i64 1); binOp BinOp.add 3 (ρ 12) (Value.int IntKind.i64 1))))) fun x73 => HK Tryd.prog S (do pure (Next.value (← Instr.sliceAt 30 (ρ 9) (some x73) none none))) fun x74 => VK Tryd.prog (Instr.buildSlice 30 0 [].toArray) w fun x66 w => S w ∧ (IK Tryd.prog Builtin.append #[30, 30] 30 [false, false] [x66, x69] w fun x70 w => S w ∧ (IK Tryd.prog Builtin.append #[30, 30] 30 [false, false] [x70, x74] w fun x75 w => S w ∧ (K Exit.normal (up (up (up (up (up (up (up (up (up (up (up ρ 67 (ρ 9)) 68 (ρ 12)) 69 x69) 71 (ρ 9)) 72 (ρ 12)) 73 x73) 74 x74) 66 x66) 70 x70) 75 x75) 9 x75) w)))
theorem dispatcherlaw15_all_R8_held {D : List Deferred} (S : World → Prop) {K : Exit → Sl → World → Prop} {ρ : Sl} {w : World} (hS : S { w with drawn := w.drawn + 1 }) (h : dispatcherlaw15_all_R8_H S K ρ { w with drawn := w.drawn + 1 }) : W ⟨none, D⟩ Tryd.prog 76 dispatcherlaw15_all_R8 K ρ w := by
  have e : dispatcherlaw15_all_R8 = .region (idOf dispatcherlaw15_all_R8) dispatcherlaw15_all_R8_ops true := by kernel_rfl
  have q : sxh Tryd.prog S dispatcherlaw15_all_R8_ops (K .normal) [(1, true), (2, true), (3, true), (5, true), (6, true), (7, true), (8, true), (0, false), (4, false), (9, false), (10, true)] ρ { w with drawn := w.drawn + 1 } = dispatcherlaw15_all_R8_H S K ρ { w with drawn := w.drawn + 1 } := by kernel_rfl
  rw [e]
  exact W_held S [(1, true), (2, true), (3, true), (5, true), (6, true), (7, true), (8, true), (0, false), (4, false), (9, false), (10, true)] (by kernel_rfl) (by kernel_rfl) (by kernel_rfl) (by kernel_rfl) hS (Eq.mpr q h)
noncomputable def dispatcherlaw15_all_F (a0 a1 a2 a3 : Value) (w : World) (R : Value → World → Prop) : Prop :=
  VK Tryd.prog (Instr.makeSlice 30 a1 a1) w fun x17 w => W fn_ Tryd.prog 76 (Code.loop dispatcherlaw15_all_L0) (blkK 0 (seqK (sx fn_ Tryd.prog 76 dispatcherlaw15_all_R1 (retK Tryd.prog [ResultVar.tmp 8] R)) (retK Tryd.prog [ResultVar.tmp 8] R))) (up (up (up (up (up (rho0 [a0, a1, a2, a3]) 8 (Value.bool false)) 16 a1) 17 x17) 9 x17) 10 (Value.int .i64 0)) w
theorem dispatcherlaw15_all_eq (a0 a1 a2 a3 : Value) (w : World) (R : Value → World → Prop) : sx fn_ Tryd.prog 76 dispatcherlaw15_all_b (retK Tryd.prog Tryd.f32.results.toList R) (rho0 [a0, a1, a2, a3]) w = dispatcherlaw15_all_F a0 a1 a2 a3 w R := by kernel_rfl
theorem dispatcherlaw15_all_calls {a0 a1 a2 a3 : Value} {w : World} {R : Value → World → Prop} (h : dispatcherlaw15_all_F a0 a1 a2 a3 w R) : Calls Tryd.prog 32 #[a0, a1, a2, a3] w fun e w' => ∃ v, e = .returned v ∧ R v w' :=
  Go.X.calls_of_sx (n := 76) (c := dispatcherlaw15_all_b) Tryd.func32 (by kernel_rfl) (by kernel_rfl) (Nat.le_of_ble_eq_true rfl) (by kernel_rfl) (Eq.mpr (dispatcherlaw15_all_eq a0 a1 a2 a3 w R) h)
noncomputable def dispatcherref11_Same_b : Code := (Tryd.f42.body).getD .skip
noncomputable def dispatcherref11_Same_F (a0 a1 : Value) (w : World) (R : Value → World → Prop) : Prop :=
  VK Tryd.prog (Instr.box 32 a0) w fun x2 w => VK Tryd.prog (Instr.box 32 a1) w fun x3 w => VK Tryd.prog (Instr.fieldAt 32 x2 0) w fun x5 w => VK Tryd.prog (Instr.loadAt 9 x5) w fun x6 w => VK Tryd.prog (Instr.fieldAt 32 x3 0) w fun x7 w => VK Tryd.prog (Instr.loadAt 9 x7) w fun x8 w => BK Tryd.prog .eql 9 (.tmp 6) (.tmp 8) x6 x8 w fun x9 w => VG Tryd.prog x9 true (Instr.fieldAt 32 x2 1) w fun x11 w => VG Tryd.prog x9 true (Instr.loadAt 30 x11) w fun x12 w => VG Tryd.prog x9 true (Instr.fieldAt 32 x3 1) w fun x13 w => VG Tryd.prog x9 true (Instr.loadAt 30 x13) w fun x14 w => CG Tryd.prog x9 true (Value.func (Fn.func 63) #[] #[]) [x12, x14] w fun x15 w => PK Tryd.prog x9 x15 (Value.bool false) w fun x16 w => R x16 w
theorem dispatcherref11_Same_eq (a0 a1 : Value) (w : World) (R : Value → World → Prop) : sx fn_ Tryd.prog 17 dispatcherref11_Same_b (retK Tryd.prog Tryd.f42.results.toList R) (rho0 [a0, a1]) w = dispatcherref11_Same_F a0 a1 w R := by kernel_rfl
theorem dispatcherref11_Same_calls {a0 a1 : Value} {w : World} {R : Value → World → Prop} (h : dispatcherref11_Same_F a0 a1 w R) : Calls Tryd.prog 42 #[a0, a1] w fun e w' => ∃ v, e = .returned v ∧ R v w' :=
  Go.X.calls_of_sx (n := 17) (c := dispatcherref11_Same_b) Tryd.func42 (by kernel_rfl) (by kernel_rfl) (Nat.le_of_ble_eq_true rfl) (by kernel_rfl) (Eq.mpr (dispatcherref11_Same_eq a0 a1 w R) h)
noncomputable def dispatcherlaw15_reduce_b : Code := (Tryd.f56.body).getD .skip
noncomputable def dispatcherlaw15_reduce_F (a0 : Value) (w : World) (R : Value → World → Prop) : Prop :=
  VK Tryd.prog (Instr.alloc 34 true (.tuple #[])) w fun x2 w => VK Tryd.prog (Instr.build 34 [(0, (Value.int .u8 17)), (1, (Value.int .i64 1)), (3, a0)].toArray) w fun x4 w => UK Tryd.prog (Instr.storeAt 34 x2 x4) w fun _ w => ∃ x2_1, (do loadVar 34 (← asAddr x2) : Sem Value).run Tryd.prog w = .ok x2_1 w ∧ R x2_1 w
theorem dispatcherlaw15_reduce_eq (a0 : Value) (w : World) (R : Value → World → Prop) : sx fn_ Tryd.prog 5 dispatcherlaw15_reduce_b (retK Tryd.prog Tryd.f56.results.toList R) (rho0 [a0]) w = dispatcherlaw15_reduce_F a0 w R := by kernel_rfl
theorem dispatcherlaw15_reduce_calls {a0 : Value} {w : World} {R : Value → World → Prop} (h : dispatcherlaw15_reduce_F a0 w R) : Calls Tryd.prog 56 #[a0] w fun e w' => ∃ v, e = .returned v ∧ R v w' :=
  Go.X.calls_of_sx (n := 5) (c := dispatcherlaw15_reduce_b) Tryd.func56 (by kernel_rfl) (by kernel_rfl) (Nat.le_of_ble_eq_true rfl) (by kernel_rfl) (Eq.mpr (dispatcherlaw15_reduce_eq a0 w R) h)
noncomputable def dispatcherref11_World_b : Code := (Tryd.f60.body).getD .skip
noncomputable def dispatcherref11_World_L0 : Code := cAt [1, 1, 1, 0, 1, 0, 0] dispatcherref11_World_b
noncomputable def dispatcherref11_World_R1 : Code := cAt [1, 1, 1, 1] dispatcherref11_World_b
noncomputable def dispatcherref11_World_L0_F (z : At) (K : Exit → Sl → World → Prop) (ρ : Sl) (w : World) : Prop :=
  BK Tryd.prog .lss 3 (.tmp 14) (.tmp 15) (ρ 5) (ρ 0) w fun x16 w => CondK x16 (VK Tryd.prog (Instr.fieldAt 32 (ρ 4) 1) w fun x19 w => VK Tryd.prog (Instr.loadAt 30 x19) w fun x20 w => VK Tryd.prog (Instr.buildSlice 30 1 [(0, (ρ 5))].toArray) w fun x22 w => IK Tryd.prog .append #[30, 30] 30 [false, false] [x20, x22] w fun x23 w => VK Tryd.prog (Instr.fieldAt 32 (ρ 4) 1) w fun x24 w => UK Tryd.prog (Instr.storeAt 30 x24 x23) w fun _ w => BK Tryd.prog .add 3 (.tmp 17) (.const (Value.int .i64 1)) (ρ 5) (Value.int .i64 1) w fun x18 w => K .normal (up (up (up (up (up (up (up (up (up (up (up (up ρ 14 (ρ 5)) 15 (ρ 0)) 16 x16) 19 x19) 20 x20) 21 (ρ 5)) 22 x22) 23 x23) 24 x24) 17 (ρ 5)) 18 x18) 5 x18) w) (K (.exit 0) (up (up (up ρ 14 (ρ 5)) 15 (ρ 0)) 16 x16) w)
theorem dispatcherref11_World_L0_eq (z : At) (K : Exit → Sl → World → Prop) (ρ : Sl) (w : World) : sx z Tryd.prog 26 dispatcherref11_World_L0 K ρ w = dispatcherref11_World_L0_F z K ρ w := by kernel_rfl
theorem dispatcherref11_World_L0_ok : dstOk 26 dispatcherref11_World_L0 = true := by kernel_rfl
noncomputable def dispatcherref11_World_R1_F (z : At) (K : Exit → Sl → World → Prop) (ρ : Sl) (w : World) : Prop :=
  VK Tryd.prog (Instr.loadAt 32 (ρ 4)) w fun x25 w => UK Tryd.prog (Instr.storeAt 32 (ρ 2) x25) w fun _ w => K .ret (up (up ρ 25 x25) 3 (Value.int .i64 0)) w
theorem dispatcherref11_World_R1_eq (z : At) (K : Exit → Sl → World → Prop) (ρ : Sl) (w : World) : sx z Tryd.prog 26 dispatcherref11_World_R1 K ρ w = dispatcherref11_World_R1_F z K ρ w := by kernel_rfl
noncomputable def dispatcherref11_World_F (a0 : Value) (w : World) (R : Value → World → Prop) : Prop :=
  VK Tryd.prog (Instr.alloc 32 true (.tuple #[])) w fun x2 w => BK Tryd.prog .lss 3 (.tmp 6) (.const (Value.int .i64 1)) a0 (Value.int .i64 1) w fun x7 w => MG Tryd.prog x7 false a0 w fun x9 w => BG Tryd.prog x7 false .gtr 3 (.tmp 9) (.const (Value.int .i64 64)) x9 (Value.int .i64 64) w fun x10 w => PK Tryd.prog x7 (Value.bool true) x10 w fun x11 w => CondK x11 (VK Tryd.prog (Instr.build 32 [].toArray) w fun x12 w => UK Tryd.prog (Instr.storeAt 32 x2 x12) w fun _ w => ∃ x2_1, (do loadVar 32 (← asAddr x2) : Sem Value).run Tryd.prog w = .ok x2_1 w ∧ R (Value.tuple #[x2_1, (Value.int .i64 2)]) w) (VK Tryd.prog (Instr.build 32 [].toArray) w fun x13 w => VK Tryd.prog (Instr.alloc 32 true (.tuple #[])) w fun x4 w => UK Tryd.prog (Instr.storeAt 32 x4 x13) w fun _ w => W fn_ Tryd.prog 26 (Code.loop dispatcherref11_World_L0) (blkK 0 (seqK (sx fn_ Tryd.prog 26 dispatcherref11_World_R1 (retK Tryd.prog [ResultVar.cell 2 32, ResultVar.tmp 3] R)) (retK Tryd.prog [ResultVar.cell 2 32, ResultVar.tmp 3] R))) (up (up (up (up (up (up (up (up (up (up (up (rho0 [a0]) 2 x2) 3 (Value.int .i64 0)) 6 a0) 7 x7) 8 x7) 9 x9) 10 x10) 11 x11) 13 x13) 4 x4) 5 (Value.int .i64 0)) w)
theorem dispatcherref11_World_eq (a0 : Value) (w : World) (R : Value → World → Prop) : sx fn_ Tryd.prog 26 dispatcherref11_World_b (retK Tryd.prog Tryd.f60.results.toList R) (rho0 [a0]) w = dispatcherref11_World_F a0 w R := by kernel_rfl
theorem dispatcherref11_World_calls {a0 : Value} {w : World} {R : Value → World → Prop} (h : dispatcherref11_World_F a0 w R) : Calls Tryd.prog 60 #[a0] w fun e w' => ∃ v, e = .returned v ∧ R v w' :=
  Go.X.calls_of_sx (n := 26) (c := dispatcherref11_World_b) Tryd.func60 (by kernel_rfl) (by kernel_rfl) (Nat.le_of_ble_eq_true rfl) (by kernel_rfl) (Eq.mpr (dispatcherref11_World_eq a0 w R) h)
noncomputable def dispatcherref11_Ints_b : Code := (Tryd.f63.body).getD .skip
noncomputable def dispatcherref11_Ints_L0 : Code := cAt [1, 1, 0, 1, 0, 0] dispatcherref11_Ints_b
noncomputable def dispatcherref11_Ints_R1 : Code := cAt [1, 1, 1] dispatcherref11_Ints_b
noncomputable def dispatcherref11_Ints_R2 : Code := cAt [1, 1, 0, 1, 0, 0, 1, 0, 0, 0] dispatcherref11_Ints_b
noncomputable def dispatcherref11_Ints_R3 : Code := cAt [1, 1, 0, 1, 0, 0, 1, 0, 0, 1] dispatcherref11_Ints_b
noncomputable def dispatcherref11_Ints_R4 : Code := cAt [1, 1, 0, 1, 0, 0, 1, 1] dispatcherref11_Ints_b
noncomputable def dispatcherref11_Ints_L0_F (z : At) (K : Exit → Sl → World → Prop) (ρ : Sl) (w : World) : Prop :=
  IK Tryd.prog .len #[30] 3 [false] [(ρ 0)] w fun x13 w => BK Tryd.prog .lss 3 (.tmp 11) (.tmp 13) (ρ 5) x13 w fun x14 w => CondK x14 (W z Tryd.prog 26 dispatcherref11_Ints_R2 (seqK (sx z Tryd.prog 26 dispatcherref11_Ints_R3 (blkK 1 (seqK (sx z Tryd.prog 26 dispatcherref11_Ints_R4 K) K))) (blkK 1 (seqK (sx z Tryd.prog 26 dispatcherref11_Ints_R4 K) K))) (up (up (up (up ρ 11 (ρ 5)) 12 (ρ 0)) 13 x13) 14 x14) w) (K (.exit 0) (up (up (up (up ρ 11 (ρ 5)) 12 (ρ 0)) 13 x13) 14 x14) w)
theorem dispatcherref11_Ints_L0_eq (z : At) (K : Exit → Sl → World → Prop) (ρ : Sl) (w : World) : sx z Tryd.prog 26 dispatcherref11_Ints_L0 K ρ w = dispatcherref11_Ints_L0_F z K ρ w := by kernel_rfl
theorem dispatcherref11_Ints_L0_ok : dstOk 26 dispatcherref11_Ints_L0 = true := by kernel_rfl
noncomputable def dispatcherref11_Ints_R1_F (z : At) (K : Exit → Sl → World → Prop) (ρ : Sl) (w : World) : Prop :=
  K .ret (up ρ 4 (Value.bool true)) w
theorem dispatcherref11_Ints_R1_eq (z : At) (K : Exit → Sl → World → Prop) (ρ : Sl) (w : World) : sx z Tryd.prog 26 dispatcherref11_Ints_R1 K ρ w = dispatcherref11_Ints_R1_F z K ρ w := by kernel_rfl
noncomputable def dispatcherref11_Ints_R2_ops : Array Oper := opsOf dispatcherref11_Ints_R2
def dispatcherref11_Ints_R2_Q (C : World → Prop) (K : Exit → Sl → World → Prop) (ρ : Sl) : Prop :=
  QK Tryd.prog C (do pure (Next.value (← Instr.indexAt 30 (ρ 0) (ρ 5)))) fun x19 => QK Tryd.prog C (do pure (Next.value (← Instr.loadAt 3 x19))) fun x20 => QK Tryd.prog C (do pure (Next.value (← Instr.indexAt 30 (ρ 1) (ρ 5)))) fun x23 => QK Tryd.prog C (do pure (Next.value (← Instr.loadAt 3 x23))) fun x24 => QK Tryd.prog C (do pure (Next.value (← (do eqGuard BinOp.neq 3 (Operand.tmp 20) (Operand.tmp 24) x20 x24; binOp BinOp.neq 3 x20 x24)))) fun x25 => ∀ w', C w' → K Exit.normal (up (up (up (up (up (up (up (up (up ρ 17 (ρ 0)) 18 (ρ 5)) 19 x19) 20 x20) 21 (ρ 1)) 22 (ρ 5)) 23 x23) 24 x24) 25 x25) w'
theorem dispatcherref11_Ints_R2_quiet {D : List Deferred} (C : World → Prop) {K : Exit → Sl → World → Prop} {ρ : Sl} {w : World} (hC : C { w with drawn := w.drawn + 1 }) (h : dispatcherref11_Ints_R2_Q C K ρ) : W ⟨none, D⟩ Tryd.prog 26 dispatcherref11_Ints_R2 K ρ w := by
  have e : dispatcherref11_Ints_R2 = .region (idOf dispatcherref11_Ints_R2) dispatcherref11_Ints_R2_ops true := by kernel_rfl
  have q : sxq Tryd.prog C dispatcherref11_Ints_R2_ops (fun ρ' => ∀ w', C w' → K .normal ρ' w') dispatcherref11_Ints_R2_ops.toList ρ = dispatcherref11_Ints_R2_Q C K ρ := by kernel_rfl
  rw [e]
  exact W_quiet C (by kernel_rfl) (by kernel_rfl) (by kernel_rfl) hC (Eq.mpr q h)
noncomputable def dispatcherref11_Ints_R3_F (z : At) (K : Exit → Sl → World → Prop) (ρ : Sl) (w : World) : Prop :=
  CondK (ρ 25) (K .ret (up ρ 4 (Value.bool false)) w) (K .normal ρ w)
theorem dispatcherref11_Ints_R3_eq (z : At) (K : Exit → Sl → World → Prop) (ρ : Sl) (w : World) : sx z Tryd.prog 26 dispatcherref11_Ints_R3 K ρ w = dispatcherref11_Ints_R3_F z K ρ w := by kernel_rfl
noncomputable def dispatcherref11_Ints_R4_F (z : At) (K : Exit → Sl → World → Prop) (ρ : Sl) (w : World) : Prop :=
  BK Tryd.prog .add 3 (.tmp 15) (.const (Value.int .i64 1)) (ρ 5) (Value.int .i64 1) w fun x16 w => K .normal (up (up (up ρ 15 (ρ 5)) 16 x16) 5 x16) w
theorem dispatcherref11_Ints_R4_eq (z : At) (K : Exit → Sl → World → Prop) (ρ : Sl) (w : World) : sx z Tryd.prog 26 dispatcherref11_Ints_R4 K ρ w = dispatcherref11_Ints_R4_F z K ρ w := by kernel_rfl
noncomputable def dispatcherref11_Ints_F (a0 a1 : Value) (w : World) (R : Value → World → Prop) : Prop :=
  IK Tryd.prog .len #[30] 3 [false] [a0] w fun x7 w => IK Tryd.prog .len #[30] 3 [false] [a1] w fun x9 w => BK Tryd.prog .neq 3 (.tmp 7) (.tmp 9) x7 x9 w fun x10 w => CondK x10 (R (Value.bool false) w) (W fn_ Tryd.prog 26 (Code.loop dispatcherref11_Ints_L0) (blkK 0 (seqK (sx fn_ Tryd.prog 26 dispatcherref11_Ints_R1 (retK Tryd.prog [ResultVar.tmp 4] R)) (retK Tryd.prog [ResultVar.tmp 4] R))) (up (up (up (up (up (up (up (rho0 [a0, a1]) 4 (Value.bool false)) 6 a0) 7 x7) 8 a1) 9 x9) 10 x10) 5 (Value.int .i64 0)) w)
theorem dispatcherref11_Ints_eq (a0 a1 : Value) (w : World) (R : Value → World → Prop) : sx fn_ Tryd.prog 26 dispatcherref11_Ints_b (retK Tryd.prog Tryd.f63.results.toList R) (rho0 [a0, a1]) w = dispatcherref11_Ints_F a0 a1 w R := by kernel_rfl
theorem dispatcherref11_Ints_calls {a0 a1 : Value} {w : World} {R : Value → World → Prop} (h : dispatcherref11_Ints_F a0 a1 w R) : Calls Tryd.prog 63 #[a0, a1] w fun e w' => ∃ v, e = .returned v ∧ R v w' :=
  Go.X.calls_of_sx (n := 26) (c := dispatcherref11_Ints_b) Tryd.func63 (by kernel_rfl) (by kernel_rfl) (Nat.le_of_ble_eq_true rfl) (by kernel_rfl) (Eq.mpr (dispatcherref11_Ints_eq a0 a1 w R) h)
end Go.Proofs.YtandbmnhghmcgaaDoor.XG
set_option linter.unusedVariables false
set_option linter.unusedSimpArgs false
set_option maxRecDepth 8000
namespace Go.Proofs.YtandbmnhghmcgaaDoor.Col
open Go Go.X Go.RowKit Go.Proofs.YtandbmnhghmcgaaDoor.XF Go.Proofs.YtandbmnhghmcgaaDoor.XG Go.Proofs.YtandbmnhghmcgaaDoor.XK
section
variable {w : World}
theorem Ints_ok {v u : Value} {a b : List Int} (ha : RR w v a) (hb : RR w u b) (hl : a.length ≤ maxLen) : Rt Tryd.prog 63 #[v, u] w fun x w' => x = .bool (decide (a = b)) ∧ Mod none_ w w' := by
  have hl' : a.length ≤ 9223372036854775807 := hl
  refine dispatcherref11_Ints_calls ?_
  unfold dispatcherref11_Ints_F
  obtain ⟨A, c, es, _⟩ := reads_cap ha
  obtain ⟨A2, c2, es2, _⟩ := reads_cap hb
  rw [es, len_sl vIs, ← es, es2, len_sl vIs, ← es2, BK_neq]
  by_cases hlen : a.length = b.length
  · rw [show ((a.length : Int) != (b.length : Int)) = false by rw [hlen]; simp]
    refine condF ?_
    refine W_loop dispatcherref11_Ints_L0_ok (fun ρ w' => ∃ i : Nat, i ≤ a.length ∧ ρ 5 = .int .i64 i ∧ ρ 0 = v ∧ ρ 1 = u ∧ a.take i = b.take i ∧ Mod none_ w w') (fun ρ _ => a.length - (intOf (ρ 5)).toNat)
      ⟨0, Nat.zero_le _, rfl, rfl, rfl, by simp, Mod.refl _ _⟩ ?_
    rintro ρ w1 ⟨i, hi, e5, e0, e1, heq, hm⟩
    rw [dispatcherref11_Ints_L0_eq]; unfold dispatcherref11_Ints_L0_F
    rw [e5, e0, es, len_sl vIs, ← es, BK_lss]
    by_cases hlt : i < a.length
    · rw [decide_eq_true (by omega)]
      refine condT ?_
      have hx : a[i]? = some a[i] := List.getElem?_eq_getElem hlt
      have hy : b[i]? = some b[i] := List.getElem?_eq_getElem (by omega)
      have ta : a.take (i + 1) = a.take i ++ [a[i]] := by rw [List.take_add_one, hx]; rfl
      have tb : b.take (i + 1) = b.take i ++ [b[i]] := by rw [List.take_add_one, hy]; rfl
      generalize a[i] = x at *
      generalize b[i] = y at *
      obtain ⟨p1, r1, l1⟩ := ixR ha hx
      obtain ⟨p2, r2, l2⟩ := ixR hb hy
      refine dispatcherref11_Ints_R2_quiet (D := []) (fun w' => Mod none_ w w') (hm.trans ((Mod.refl _ w1).drawn _)) ?_
      unfold dispatcherref11_Ints_R2_Q
      simp only [sq_n, sq_x, sq_r, bk_n, bk_r, bk_x, rt_r, rt_n, rs_0, rs_t, pk_1, pk_2, up_at, reduceIte, Nat.reduceEqDiff, e0, e1, e5]
      refine QV_of (fun w' _ => r1 w') (QV_of (fun w' hw => l1 w' hw) (QV_of (fun w' _ => r2 w') (QV_of (fun w' hw => l2 w' hw) ?_)))
      refine Qneq ?_
      intro w' hw
      try rw [sq_n]
      rw [dispatcherref11_Ints_R3_eq]; unfold dispatcherref11_Ints_R3_F
      simp only [sq_n, sq_x, sq_r, bk_n, bk_r, bk_x, rt_r, rt_n, rs_0, rs_t, pk_1, pk_2, up_at, reduceIte, Nat.reduceEqDiff]
      refine caseC (fun q => ?_) (fun q => ?_)
      · refine ⟨?_, hw⟩
        have hne : a ≠ b := fun z => by
          rw [z, hy] at hx
          have : x ≠ y := by simpa using q
          exact this (Option.some.inj hx).symm
        rw [decide_eq_false hne]
        try rfl
      · have hxy : x = y := by simpa using q
        try rw [bk_n, sq_n]
        rw [dispatcherref11_Ints_R4_eq]; unfold dispatcherref11_Ints_R4_F
        simp only [sq_n, sq_x, sq_r, bk_n, bk_r, bk_x, rt_r, rt_n, rs_0, rs_t, pk_1, pk_2, up_at, reduceIte, Nat.reduceEqDiff, e5]
        rw [BK_add, wrap_i (by omega) (by omega)]
        refine ⟨⟨i + 1, hlt, rfl, e0, e1, by rw [ta, tb, heq, hxy], hw⟩, ?_⟩
        simp only [sq_n, sq_x, sq_r, bk_n, bk_r, bk_x, rt_r, rt_n, rs_0, rs_t, pk_1, pk_2, up_at, reduceIte, Nat.reduceEqDiff, intOf]; omega
    · obtain rfl : i = a.length := by omega
      rw [decide_eq_false (by omega)]
      refine condF ?_
      rw [sq_x, bk_x, sq_n, dispatcherref11_Ints_R1_eq]; unfold dispatcherref11_Ints_R1_F
      refine ⟨?_, hm⟩
      rw [List.take_length, hlen, List.take_length] at heq
      rw [decide_eq_true heq]; rfl
  · rw [show ((a.length : Int) != (b.length : Int)) = true by rw [bne_iff_ne]; omega]
    refine condT ⟨?_, Mod.refl _ _⟩
    rw [decide_eq_false fun z => hlen (by rw [z])]
theorem SameD_ok {k1 k2 : Ky} {v u : Value} {a b : List Int} (ha : RR w v a) (hb : RR w u b) (hl : a.length ≤ maxLen) : Rt Tryd.prog 42 #[grpV k1 v, grpV k2 u] w fun x w' => x = .bool (decide (k1 = k2) && decide (a = b)) ∧ Mod none_ w w' := by
  refine dispatcherref11_Same_calls ?_
  unfold dispatcherref11_Same_F
  refine box_k (cs := #[strV k1, v]) rfl fun w1 hb1 hm1 hz1 => ?_
  refine box_k (cs := #[strV k2, u]) rfl fun w2 hb2 hm2 hz2 => ?_
  have hb1' := hm2.blk hb1 id
  have hm := hm1.trans hm2
  simp only [↓(fG0 hb1').e, ↓(fG0 hb2).e]
  by_cases hk : k1 = k2
  · unfold strV
    rw [SEQt (by rw [hk])]
    simp only [↓VG_u, ↓UG_u, ↓MG_u, ↓NG_u, ↓PG_u, ↓BG_u, ↓CG_u, ↓IG_u, ↓VGtt, ↓VGtf, ↓VGft, ↓VGff, ↓UGtt, ↓UGtf, ↓UGft, ↓UGff, ↓MGtt, ↓MGtf, ↓MGft, ↓MGff, ↓NGtt, ↓NGtf, ↓NGft, ↓NGff, ↓PGtt, ↓PGtf, ↓PGft, ↓PGff, ↓BGtt, ↓BGtf, ↓BGft, ↓BGff, ↓CGtt, ↓CGtf, ↓CGft, ↓CGff, ↓IGtt, ↓IGtf, ↓IGft, ↓IGff, ↓PKt, ↓PKf, ↓CDt, ↓CDf, ↓NOTt, ↓NOTf, ↓NK_ptr, ↓(fG1 hb1').e, ↓(fG1 hb2).e]
    refine CK_st Tryd.func63 rfl rfl (Ints_ok (ha.calm hm) (hb.calm hm) hl) ?_
    rintro _ w3 ⟨rfl, hm3⟩
    rw [decide_eq_true hk, Bool.true_and]
    exact ⟨rfl, hm.trans hm3⟩
  · unfold strV
    rw [SEQf (fun q => hk (by simpa using congrArg (fun b : ByteArray => b.data.toList) q))]
    simp only [↓VG_u, ↓UG_u, ↓MG_u, ↓NG_u, ↓PG_u, ↓BG_u, ↓CG_u, ↓IG_u, ↓VGtt, ↓VGtf, ↓VGft, ↓VGff, ↓UGtt, ↓UGtf, ↓UGft, ↓UGff, ↓MGtt, ↓MGtf, ↓MGft, ↓MGff, ↓NGtt, ↓NGtf, ↓NGft, ↓NGff, ↓PGtt, ↓PGtf, ↓PGft, ↓PGff, ↓BGtt, ↓BGtf, ↓BGft, ↓BGff, ↓CGtt, ↓CGtf, ↓CGft, ↓CGff, ↓IGtt, ↓IGtf, ↓IGft, ↓IGff, ↓PKt, ↓PKf, ↓CDt, ↓CDf, ↓NOTt, ↓NOTf, ↓NK_ptr]
    rw [decide_eq_false hk, Bool.false_and]
    exact ⟨rfl, hm⟩
theorem appI {v : Value} {xs : List Int} {m : Int} {B : Nat} {K : Value → Value → World → Prop} (ho : w.ownsRow B tI 1 v xs.length (ints xs)) (hB : B ≤ w.heap.size) (hl : xs.length ≤ 2000000)
    (hk : ∀ x v' w', w'.ownsRow B tI 1 v' (xs ++ [m]).length (ints (xs ++ [m])) → Mod (fun b => B ≤ b ∧ (sb v b ∨ w.heap.size ≤ b)) w w' → K x v' w') :
    VK Tryd.prog (Instr.buildSlice tIs 1 [(0, .int .i64 m)].toArray) w fun x w => IK Tryd.prog .append #[tIs, tIs] tIs [false, false] [v, x] w (K x) := by
  refine bs_k (cs := #[.int .i64 m]) (by kernel_rfl) fun w1 hb1 hm1 hz1 => ?_
  refine ap_any eIs (owns_mod ho hm1 fun _ _ => id) (reads_blk (size := 1) (n := 1) hb1 rfl) (fun u hu => by rw [List.mem_singleton.1 hu]; rfl) (by unfold maxLen; omega) (by omega) (by omega) fun v' w2 ho2 hm2 hv2 => ?_
  refine hk _ v' w2 ?_ ((hm1.mono fun _ _ z => z.elim).trans (hm2.mono fun b _ z => ⟨(owns_bd (owns_mod ho hm1 fun _ _ => id) b z.symm).1, .inl z.symm⟩))
  rw [List.length_append]
  unfold ints at ho2 ⊢
  rw [List.map_append]
  exact ho2
theorem worldL_succ (n : Nat) : worldL (n + 1) = worldL n ++ [(n : Int)] := by
  unfold worldL
  rw [List.range_succ, List.map_append]; rfl
theorem bG0 : Tryd.prog.built tG [] = some #[strV [], nilS] := by kernel_rfl
theorem World_ok {n : Nat} (h1 : 1 ≤ n) (h64 : n ≤ 64) : Rt Tryd.prog 60 #[.int .i64 (n : Int)] w fun v w' => ∃ rv, v = .tuple #[grpV [] rv, .int .i64 0] ∧ w'.ownsRow w.heap.size tI 1 rv n (ints (worldL n)) ∧ Mod none_ w w' := by
  refine dispatcherref11_World_calls ?_
  unfold dispatcherref11_World_F
  refine al_k (cs := #[strV [], nilS]) zG rfl _ fun w1 hb1 hm1 hz1 => ?_
  simp only [↓VG_u, ↓UG_u, ↓MG_u, ↓NG_u, ↓PG_u, ↓BG_u, ↓CG_u, ↓IG_u, ↓VGtt, ↓VGtf, ↓VGft, ↓VGff, ↓UGtt, ↓UGtf, ↓UGft, ↓UGff, ↓MGtt, ↓MGtf, ↓MGft, ↓MGff, ↓NGtt, ↓NGtf, ↓NGft, ↓NGff, ↓PGtt, ↓PGtf, ↓PGft, ↓PGff, ↓BGtt, ↓BGtf, ↓BGft, ↓BGff, ↓CGtt, ↓CGtf, ↓CGft, ↓CGff, ↓IGtt, ↓IGtf, ↓IGft, ↓IGff, ↓PKt, ↓PKf, ↓CDt, ↓CDf, ↓NOTt, ↓NOTf, ↓NK_ptr, ↓LTf (show (1 : Int) ≤ (n : Int) by omega), ↓GTf (show (n : Int) ≤ 64 by omega)]
  rw [build_ok bG0]
  refine lcl_k (cs := #[strV [], nilS]) zG _ iG rfl (grp_one _ none 0 0) fun w2 hb2 hm2 hz2 => ?_
  have hb12 := hm2.blk hb1 id
  have hm02 := hm1.trans hm2
  refine W_loop dispatcherref11_World_L0_ok (fun ρ w' => ∃ i : Nat, i ≤ n ∧ ρ 5 = .int .i64 i ∧ ρ 0 = .int .i64 (n : Int) ∧ ρ 2 = .pointer (some ⟨w.heap.size, 0, none⟩) ∧ ρ 4 = .pointer (some ⟨w1.heap.size, 0, none⟩) ∧ w'.heap[w.heap.size]? = some (.cells #[strV [], nilS] tG (0, 0)) ∧ (∃ rv, w'.heap[w1.heap.size]? = some (.cells #[strV [], rv] tG (0, 0)) ∧ w'.ownsRow w.heap.size tI 1 rv (worldL i).length (ints (worldL i))) ∧ Mod none_ w w') (fun ρ _ => n - (intOf (ρ 5)).toNat)
    ⟨0, Nat.zero_le _, rfl, rfl, rfl, rfl, hb12, ⟨nilS, hb2, World.ownsRow_nil _ _ _ _⟩, hm02⟩ ?_
  rintro ρ w3 ⟨i, hi, q5, q0, q2, q4, hbA, ⟨rv, hbB, ho⟩, hm⟩
  have hs1 := hm1.size
  rw [dispatcherref11_World_L0_eq]; unfold dispatcherref11_World_L0_F
  rw [q5, q0, q4, BK_lss]
  by_cases hlt : i < n
  · rw [decide_eq_true (by omega)]
    refine condT ?_
    simp only [↓(fG1 hbB).e]
    have hwl := worldL_len i
    refine appI ho hm.size (by omega) fun x v' w4 ho4 hm4 => ?_
    have nB : ∀ b, isT tG w3 b → ¬ (w.heap.size ≤ b ∧ (sb rv b ∨ w3.heap.size ≤ b)) := fun b hb z => by
      rcases z.2 with z | z
      · exact isT_ne hb (isT_own ho z) (by decide)
      · have := isT_lt hb; omega
    have hbB4 := hm4.blk hbB (nB _ ⟨_, _, hbB⟩)
    have hbA4 := hm4.blk hbA (nB _ ⟨_, _, hbA⟩)
    refine VK_of (v := .pointer (some ⟨w1.heap.size, 1, none⟩)) (by rw [run_fo (show fieldOff Tryd.prog tG 1 = some 1 by kernel_rfl), add_pl]) ?_
    refine stC (b := w1.heap.size) (o := 1) rfl (by kernel_rfl) (by obtain ⟨A', c', e', _⟩ := reads_cap (reads_of_owns ho4); rw [e']; rfl) hbB4 (by show 1 < 2; decide) fun w5 hb5 hm5 hz5 => ?_
    have hs4 := hm4.size
    have ho5 := owns_mod ho4 hm5 fun b hb z => by subst z; exact isT_ne (isT_own ho4 hb) ⟨_, _, hbB4⟩ (by decide)
    rw [BK_add, wrap_i (by omega) (by omega)]
    refine ⟨⟨i + 1, hlt, rfl, q0, q2, q4, hm5.blk hbA4 (fun z => by omega), ⟨v', hb5, ?_⟩, (hm.then hm4 fun i hi z => by omega).then hm5 fun i hi z => by omega⟩, ?_⟩
    · rw [worldL_succ]; exact ho5
    · simp only [sq_n, sq_x, sq_r, bk_n, bk_r, bk_x, rt_r, rt_n, rs_0, rs_t, pk_1, pk_2, up_at, reduceIte, Nat.reduceEqDiff, intOf]; omega
  · obtain rfl : i = n := by omega
    rw [decide_eq_false (by omega)]
    refine condF ?_
    rw [sq_x, bk_x, sq_n, dispatcherref11_World_R1_eq]; unfold dispatcherref11_World_R1_F
    simp only [sq_n, sq_x, sq_r, bk_n, bk_r, bk_x, rt_r, rt_n, rs_0, rs_t, pk_1, pk_2, up_at, reduceIte, Nat.reduceEqDiff, q4, q2]
    refine ldS (cs := #[strV [], rv]) rfl Tryd.underlying32 rfl iG hbB ?_
    refine stS (old := #[strV [], nilS]) (cs := #[strV [], rv]) rfl rfl iG rfl (by obtain ⟨A', c', e', _⟩ := reads_cap (reads_of_owns ho); rw [e']; exact grp_one _ _ _ _) hbA fun w5 hb5 hm5 hz5 => ?_
    refine rtCT (b := w.heap.size) (cs := #[strV [], rv]) (by first | exact q2 | rfl) Tryd.underlying32 rfl iG hb5 (R := fun v w' => ∃ rv, v = .tuple #[grpV [] rv, .int .i64 0] ∧ w'.ownsRow w.heap.size tI 1 rv i (ints (worldL i)) ∧ Mod none_ w w') ⟨rv, rfl, ?_, hm.then hm5 fun i hi z => by omega⟩
    have := owns_mod ho hm5 fun b hb z => by subst z; exact isT_ne (isT_own ho hb) ⟨_, _, hbA⟩ (by decide)
    rw [worldL_len] at this
    exact this
theorem ranks_ok {n : Nat} (h1 : 1 ≤ n) (h64 : n ≤ 64) : Rt Tryd.prog 30 #[.int .i64 (n : Int)] w fun v w' => ∃ rv, v = grpV [] rv ∧ w'.ownsRow w.heap.size tI 1 rv n (ints (worldL n)) ∧ Mod none_ w w' := by
  refine dispatcherlaw15_ranks_calls ?_
  unfold dispatcherlaw15_ranks_F
  refine al_k (cs := #[strV [], nilS]) zG rfl _ fun w1 hb1 hm1 hz1 => ?_
  refine CK_st Tryd.func60 rfl rfl (World_ok h1 h64) ?_
  rintro _ w2 ⟨rv, rfl, ho, hm2⟩
  rw [extract_ok (v := grpV [] rv) rfl, extract_ok (v := .int .i64 0) rfl]
  obtain ⟨A', c', e', _⟩ := reads_cap (reads_of_owns ho)
  have one : (#[strV [], rv] : Array Value).all (·.oneCell') = true := by rw [e']; exact grp_one _ _ _ _
  refine lcl_k (cs := #[strV [], rv]) zG _ iG rfl one fun w3 hb3 hm3 hz3 => ?_
  refine ldS (cs := #[strV [], rv]) rfl Tryd.underlying32 rfl iG hb3 ?_
  have hm03 := (hm1.trans hm2).trans hm3
  refine stS (old := #[strV [], nilS]) (cs := #[strV [], rv]) rfl rfl iG rfl one ((hm2.trans hm3).blk hb1 id) fun w4 hb4 hm4 hz4 => ?_
  have hs1 := hm1.size
  have ho3 := owns_mod ho hm3 fun _ _ => id
  have hbw := (hm2.trans hm3).blk hb1 id
  refine rsCell (R := fun u w'' => ∃ rv, u = grpV [] rv ∧ w''.ownsRow w.heap.size tI 1 rv n (ints (worldL n)) ∧ Mod none_ w w'') (cs := #[strV [], rv]) rfl Tryd.underlying32 rfl iG hb4 ⟨rv, rfl, owns_base (owns_mod ho3 hm4 fun b hb z => by subst z; exact isT_ne (isT_own ho3 hb) ⟨_, _, hbw⟩ (by decide)) hs1, hm03.then hm4 fun i hi z => by omega⟩
theorem bPtR (v : Int) : Tryd.prog.built tPt [(0, .int .u8 17), (1, .int .i64 1), (3, .int .i64 v)] = some (Pt.enc ⟨17, 1, 0, v, 0, 0⟩).toArray := by kernel_rfl
theorem reduce_ok (v : Int) : Rt Tryd.prog 56 #[.int .i64 v] w fun x w' => x = (Pt.v ⟨17, 1, 0, v, 0, 0⟩) ∧ Mod none_ w w' := by
  refine dispatcherlaw15_reduce_calls ?_
  unfold dispatcherlaw15_reduce_F
  refine al_k (cs := zPt.enc.toArray) zPt_z rfl _ fun w1 hb1 hm1 hz1 => ?_
  rw [build_ok (bPtR v)]
  refine stS (old := zPt.enc.toArray) (cs := (Pt.enc ⟨17, 1, 0, v, 0, 0⟩).toArray) rfl rfl iPt rfl (Pt.enc_one _) hb1 fun w2 hb2 hm2 hz2 => ?_
  exact rsCell (R := fun x w'' => x = (Pt.v ⟨17, 1, 0, v, 0, 0⟩) ∧ Mod none_ w w'') (cs := (Pt.enc ⟨17, 1, 0, v, 0, 0⟩).toArray) rfl Tryd.underlying34 rfl iPt hb2 ⟨rfl, hm1.then hm2 fun i hi z => by omega⟩
end
end Go.Proofs.YtandbmnhghmcgaaDoor.Col
set_option linter.unusedVariables false
set_option linter.unusedSimpArgs false
set_option maxRecDepth 8000
namespace Go.Proofs.YtandbmnhghmcgaaDoor.Col
open Go Go.X Go.RowKit Go.Proofs.YtandbmnhghmcgaaDoor.XF Go.Proofs.YtandbmnhghmcgaaDoor.XG Go.Proofs.YtandbmnhghmcgaaDoor.XI Go.Proofs.YtandbmnhghmcgaaDoor.XK
def TdR (w : World) (v : Value) (t : Td) : Prop := ∃ row rks, v = .agg (tdCells t row rks) ∧ RR w row t.row ∧ RR w rks t.ranks
section
variable {w : World} {p : Nat} {loose : Bool} {L : List Br} {V : CV}
theorem TdAt.R {B : Nat} {v : Value} {t : Td} (h : TdAt w B v t) : TdR w v t := by
  obtain ⟨row, rks, rfl, h1, h2⟩ := h
  exact ⟨row, rks, rfl, reads_of_owns h1, reads_of_owns h2⟩
theorem TdR.calm {w' : World} {v : Value} {t : Td} (h : TdR w v t) (hm : Mod none_ w w') : TdR w' v t := by
  obtain ⟨row, rks, rfl, h1, h2⟩ := h
  exact ⟨row, rks, rfl, h1.calm hm, h2.calm hm⟩
theorem CAt.notT (h : CAt w p loose L V) {t : TypeId} (h1 : t ≠ tC) (h2 : t ≠ tRo) (h3 : t ≠ tPts) (h4 : t ≠ tPt) {b : Nat} (hb : CF p V b) : ¬ isT t w b := by
  intro q
  rcases hb with rfl | rfl | ⟨e, he, hb⟩
  · exact isT_ne q ⟨_, _, h.blk⟩ h1
  · obtain ⟨cs, fr, q⟩ := q
    have := h.map
    unfold IsMap at this
    rw [this] at q
    injection q with q
    cases q
  · rcases (h.ro e he).blks hb with z | z | z
    · exact isT_ne q z h2
    · exact isT_ne q z h3
    · exact isT_ne q z h4
theorem fT0 {b : Nat} {t : Td} {row rks : Value} (h : w.heap[b]? = some (.cells (tdCells t row rks) tTd (0, 0))) : FO Tryd.prog w tTd 0 0 ⟨b, 0, none⟩ tL (.int .i64 t.val) := FO.blk h (by kernel_rfl) vL rfl rfl
theorem fT1 {b : Nat} {t : Td} {row rks : Value} (h : w.heap[b]? = some (.cells (tdCells t row rks) tTd (0, 0))) : FO Tryd.prog w tTd 1 1 ⟨b, 0, none⟩ tLs row := FO.blk h (by kernel_rfl) vLs rfl rfl
theorem fT3 {b : Nat} {t : Td} {row rks : Value} (h : w.heap[b]? = some (.cells (tdCells t row rks) tTd (0, 0))) : FO Tryd.prog w tTd 3 4 ⟨b, 0, none⟩ 4 (.bool t.has) := FO.blk h (by kernel_rfl) vB rfl rfl
theorem fT2 {b : Nat} {t : Td} {row rks : Value} (h : w.heap[b]? = some (.cells (tdCells t row rks) tTd (0, 0))) : FO Tryd.prog w tTd 2 2 ⟨b, 0, none⟩ tG (grpV t.gkey rks) := ⟨by kernel_rfl, fun K => by
  refine VK_eq_of (run_ldA (cs := [strV t.gkey, rks]) Tryd.underlying32 rfl (by kernel_rfl) fun j v hj => ?_)
  rw [add_pl, Nat.zero_add, add_pl, cell_blk h]
  match j, hj with
  | 0, hj => simpa [tdCells] using hj
  | 1, hj => simpa [tdCells] using hj
  | n + 2, hj => simp at hj⟩
theorem ixRL {v : Value} {l : List Int} {i : Nat} {m : Int} (h : RR w v l) (hi : l[i]? = some m) : ∃ a, (∀ w', (Instr.indexAt tLs v (.int .i64 (i : Int))).run Tryd.prog w' = .ok (.pointer (some a)) w') ∧ ∀ w', Mod none_ w w' → (Instr.loadAt tL (.pointer (some a))).run Tryd.prog w' = .ok (.int .i64 m) w' := by
  have hil := (List.getElem?_eq_some_iff.1 hi).1
  obtain ⟨_, A, c, es, hnc, hr⟩ := id h
  obtain ⟨a, ha, _⟩ := hr i _ (ints_get hi)
  subst es ha
  refine ⟨a.add i, fun w' => ?_, fun w' hw => ?_⟩
  · rw [run_ixa (sz := 0) vLs (by kernel_rfl) (by omega) (by omega) w']
    congr 4
    omega
  · obtain ⟨_, A, c, es, _, hc⟩ := h.calm hw
    cases es
    obtain ⟨b, hb, hcell⟩ := hc i _ (ints_get hi)
    cases hb
    exact run_ld1 vL rfl hcell
def sameTd (a b : Td) : Bool := decide (a.val = b.val) && (decide (a.has = b.has) && ((decide (a.gkey = b.gkey) && decide (a.ranks = b.ranks)) && decide (a.row = b.row)))
theorem sameTd_iff {a b : Td} : sameTd a b = true ↔ a = b := by
  cases a; cases b
  simp only [sameTd, Bool.and_eq_true, decide_eq_true_eq, Td.mk.injEq]
  constructor
  · rintro ⟨h1, h2, ⟨h3, h4⟩, h5⟩; exact ⟨h1, h5, h3, h4, h2⟩
  · rintro ⟨h1, h5, h3, h4, h2⟩; exact ⟨h1, h2, ⟨h3, h4⟩, h5⟩
theorem Same_loop {w0 : World} {ρ : Sl} {b2 b3 : Nat} {a b : Td} {ra ka rb kb : Value} (h2 : w.heap[b2]? = some (.cells (tdCells a ra ka) tTd (0, 0))) (h3 : w.heap[b3]? = some (.cells (tdCells b rb kb) tTd (0, 0))) (ha : RR w ra a.row) (hb : RR w rb b.row) (hlen : a.row.length = b.row.length) (hl : a.row.length ≤ maxLen) (hm0 : Mod none_ w0 w)
    (q2 : ρ 2 = .pointer (some ⟨b2, 0, none⟩)) (q3 : ρ 3 = .pointer (some ⟨b3, 0, none⟩)) : sx fn_ Tryd.prog 53 dispatcherref15_Same_R1 (retK Tryd.prog [ResultVar.tmp 4] fun x w' => x = .bool (decide (a.row = b.row)) ∧ Mod none_ w0 w') ρ w := by
  have hl' : a.row.length ≤ 9223372036854775807 := hl
  rw [dispatcherref15_Same_R1_eq]; unfold dispatcherref15_Same_R1_F
  refine W_loop dispatcherref15_Same_L2_ok (fun ρ w' => ∃ i : Nat, i ≤ a.row.length ∧ ρ 5 = .int .i64 i ∧ ρ 2 = .pointer (some ⟨b2, 0, none⟩) ∧ ρ 3 = .pointer (some ⟨b3, 0, none⟩) ∧ a.row.take i = b.row.take i ∧ Mod none_ w w') (fun ρ _ => a.row.length - (intOf (ρ 5)).toNat)
    ⟨0, Nat.zero_le _, rfl, q2, q3, by simp, Mod.refl _ _⟩ ?_
  rintro ρ w1 ⟨i, hi, e5, e2, e3, heq, hm⟩
  rw [dispatcherref15_Same_L2_eq]; unfold dispatcherref15_Same_L2_F
  obtain ⟨A, c, es, _⟩ := reads_cap ha
  rw [e5, e2]
  simp only [↓(fT1 (hm.blk h2 id)).e]
  rw [es, len_sl vLs, BK_lss]
  by_cases hlt : i < a.row.length
  · rw [decide_eq_true (by omega)]
    refine condT ?_
    have hx : a.row[i]? = some a.row[i] := List.getElem?_eq_getElem hlt
    have hy : b.row[i]? = some b.row[i] := List.getElem?_eq_getElem (by omega)
    have ta : a.row.take (i + 1) = a.row.take i ++ [a.row[i]] := by rw [List.take_add_one, hx]; rfl
    have tb : b.row.take (i + 1) = b.row.take i ++ [b.row[i]] := by rw [List.take_add_one, hy]; rfl
    generalize a.row[i] = x at *
    generalize b.row[i] = y at *
    obtain ⟨p1, r1, l1⟩ := ixRL ha hx
    obtain ⟨p2, r2, l2⟩ := ixRL hb hy
    refine dispatcherref15_Same_R4_quiet (D := []) (fun w' => Mod none_ w w') (hm.trans ((Mod.refl _ w1).drawn _)) ?_
    unfold dispatcherref15_Same_R4_Q
    simp only [sq_n, sq_x, sq_r, bk_n, bk_r, bk_x, rt_r, rt_n, rs_0, rs_t, pk_1, pk_2, up_at, reduceIte, Nat.reduceEqDiff, e2, e3, e5]
    refine QV_of (v := .pointer (some ⟨b2, 1, none⟩)) (fun w' _ => by rw [run_fo (show fieldOff Tryd.prog tTd 1 = some 1 by kernel_rfl), add_pl]) (QV_of (v := ra) (fun w' hw => run_ld1 vLs rfl (by rw [cell_blk (hw.blk h2 id)]; rfl)) (QV_of (fun w' _ => r1 w') (QV_of (fun w' hw => l1 w' hw) ?_)))
    refine QV_of (v := .pointer (some ⟨b3, 1, none⟩)) (fun w' _ => by rw [run_fo (show fieldOff Tryd.prog tTd 1 = some 1 by kernel_rfl), add_pl]) (QV_of (v := rb) (fun w' hw => run_ld1 vLs rfl (by rw [cell_blk (hw.blk h3 id)]; rfl)) (QV_of (fun w' _ => r2 w') (QV_of (fun w' hw => l2 w' hw) ?_)))
    refine Qneq ?_
    intro w' hw
    try rw [sq_n]
    rw [dispatcherref15_Same_R5_eq]; unfold dispatcherref15_Same_R5_F
    simp only [sq_n, sq_x, sq_r, bk_n, bk_r, bk_x, rt_r, rt_n, rs_0, rs_t, pk_1, pk_2, up_at, reduceIte, Nat.reduceEqDiff]
    refine caseC (fun q => ?_) (fun q => ?_)
    · refine ⟨?_, hm0.trans hw⟩
      have hne : a.row ≠ b.row := fun z => by
        rw [z, hy] at hx
        have : x ≠ y := by simpa using q
        exact this (Option.some.inj hx).symm
      rw [decide_eq_false hne]
      try rfl
    · have hxy : x = y := by simpa using q
      try rw [bk_n, sq_n]
      rw [dispatcherref15_Same_R6_eq]; unfold dispatcherref15_Same_R6_F
      simp only [sq_n, sq_x, sq_r, bk_n, bk_r, bk_x, rt_r, rt_n, rs_0, rs_t, pk_1, pk_2, up_at, reduceIte, Nat.reduceEqDiff, e5]
      rw [BK_add, wrap_i (by omega) (by omega)]
      refine ⟨⟨i + 1, hlt, rfl, e2, e3, by rw [ta, tb, heq, hxy], hw⟩, ?_⟩
      simp only [sq_n, sq_x, sq_r, bk_n, bk_r, bk_x, rt_r, rt_n, rs_0, rs_t, pk_1, pk_2, up_at, reduceIte, Nat.reduceEqDiff, intOf]; omega
  · obtain rfl : i = a.row.length := by omega
    rw [decide_eq_false (by omega)]
    refine condF ?_
    rw [sq_x, bk_x, sq_n, dispatcherref15_Same_R3_eq]; unfold dispatcherref15_Same_R3_F
    refine ⟨?_, hm0.trans hm⟩
    rw [List.take_length, hlen, List.take_length] at heq
    rw [decide_eq_true heq]; rfl
theorem Same15_ok {v u : Value} {a b : Td} (ha : TdR w v a) (hb : TdR w u b) (hl : a.row.length ≤ maxLen) (hl2 : a.ranks.length ≤ maxLen) : Rt Tryd.prog 28 #[v, u] w fun x w' => x = .bool (sameTd a b) ∧ Mod none_ w w' := by
  obtain ⟨ra, ka, rfl, ha1, ha2⟩ := ha
  obtain ⟨rb, kb, rfl, hb1, hb2⟩ := hb
  refine dispatcherref15_Same_calls ?_
  unfold dispatcherref15_Same_F
  refine box_k (cs := tdCells a ra ka) rfl fun w1 h1 hm1 hz1 => ?_
  refine box_k (cs := tdCells b rb kb) rfl fun w2 h2 hm2 hz2 => ?_
  have h12 := hm2.blk h1 id
  have hm := hm1.trans hm2
  simp only [↓(fT0 h12).e, ↓(fT0 h2).e]
  unfold sameTd
  by_cases c1 : a.val = b.val
  case neg =>
    rw [decide_eq_false c1]
    simp only [↓VG_u, ↓UG_u, ↓MG_u, ↓NG_u, ↓PG_u, ↓BG_u, ↓CG_u, ↓IG_u, ↓VGtt, ↓VGtf, ↓VGft, ↓VGff, ↓UGtt, ↓UGtf, ↓UGft, ↓UGff, ↓MGtt, ↓MGtf, ↓MGft, ↓MGff, ↓NGtt, ↓NGtf, ↓NGft, ↓NGff, ↓PGtt, ↓PGtf, ↓PGft, ↓PGff, ↓BGtt, ↓BGtf, ↓BGft, ↓BGff, ↓CGtt, ↓CGtf, ↓CGft, ↓CGff, ↓IGtt, ↓IGtf, ↓IGft, ↓IGff, ↓PKt, ↓PKf, ↓CDt, ↓CDf, ↓NOTt, ↓NOTf, ↓NK_ptr, ↓NEt c1, dispatcherref15_Same_R0_eq, dispatcherref15_Same_R0_F, sq_n, sq_x, sq_r, bk_n, bk_r, bk_x, rt_r, rt_n, rs_0, rs_t, pk_1, pk_2, up_at, reduceIte, Nat.reduceEqDiff]
    exact ⟨rfl, hm⟩
  rw [decide_eq_true c1]
  simp only [↓VG_u, ↓UG_u, ↓MG_u, ↓NG_u, ↓PG_u, ↓BG_u, ↓CG_u, ↓IG_u, ↓VGtt, ↓VGtf, ↓VGft, ↓VGff, ↓UGtt, ↓UGtf, ↓UGft, ↓UGff, ↓MGtt, ↓MGtf, ↓MGft, ↓MGff, ↓NGtt, ↓NGtf, ↓NGft, ↓NGff, ↓PGtt, ↓PGtf, ↓PGft, ↓PGff, ↓BGtt, ↓BGtf, ↓BGft, ↓BGff, ↓CGtt, ↓CGtf, ↓CGft, ↓CGff, ↓IGtt, ↓IGtf, ↓IGft, ↓IGff, ↓PKt, ↓PKf, ↓CDt, ↓CDf, ↓NOTt, ↓NOTf, ↓NK_ptr, ↓NEf c1, ↓(fT3 h12).e, ↓(fT3 h2).e]
  rw [BK_neqB vB]
  by_cases c2 : a.has = b.has
  case neg =>
    rw [show (!(a.has == b.has)) = true from by simpa using c2, decide_eq_false c2]
    simp only [↓VG_u, ↓UG_u, ↓MG_u, ↓NG_u, ↓PG_u, ↓BG_u, ↓CG_u, ↓IG_u, ↓VGtt, ↓VGtf, ↓VGft, ↓VGff, ↓UGtt, ↓UGtf, ↓UGft, ↓UGff, ↓MGtt, ↓MGtf, ↓MGft, ↓MGff, ↓NGtt, ↓NGtf, ↓NGft, ↓NGff, ↓PGtt, ↓PGtf, ↓PGft, ↓PGff, ↓BGtt, ↓BGtf, ↓BGft, ↓BGff, ↓CGtt, ↓CGtf, ↓CGft, ↓CGff, ↓IGtt, ↓IGtf, ↓IGft, ↓IGff, ↓PKt, ↓PKf, ↓CDt, ↓CDf, ↓NOTt, ↓NOTf, ↓NK_ptr, dispatcherref15_Same_R0_eq, dispatcherref15_Same_R0_F, sq_n, sq_x, sq_r, bk_n, bk_r, bk_x, rt_r, rt_n, rs_0, rs_t, pk_1, pk_2, up_at, reduceIte, Nat.reduceEqDiff]
    exact ⟨rfl, hm⟩
  rw [show (!(a.has == b.has)) = false from by simpa using c2, decide_eq_true c2]
  simp only [↓VG_u, ↓UG_u, ↓MG_u, ↓NG_u, ↓PG_u, ↓BG_u, ↓CG_u, ↓IG_u, ↓VGtt, ↓VGtf, ↓VGft, ↓VGff, ↓UGtt, ↓UGtf, ↓UGft, ↓UGff, ↓MGtt, ↓MGtf, ↓MGft, ↓MGff, ↓NGtt, ↓NGtf, ↓NGft, ↓NGff, ↓PGtt, ↓PGtf, ↓PGft, ↓PGff, ↓BGtt, ↓BGtf, ↓BGft, ↓BGff, ↓CGtt, ↓CGtf, ↓CGft, ↓CGff, ↓IGtt, ↓IGtf, ↓IGft, ↓IGff, ↓PKt, ↓PKf, ↓CDt, ↓CDf, ↓NOTt, ↓NOTf, ↓NK_ptr, ↓(fT2 h12).e, ↓(fT2 h2).e]
  refine CK_st Tryd.func42 rfl rfl (SameD_ok (ha2.calm hm) (hb2.calm hm) hl2) ?_
  rintro _ w3 ⟨rfl, hm3⟩
  have hm03 := hm.trans hm3
  have h13 := hm3.blk h12 id
  have h23 := hm3.blk h2 id
  cases c3 : (decide (a.gkey = b.gkey) && decide (a.ranks = b.ranks)) with
  | false =>
    simp only [↓VG_u, ↓UG_u, ↓MG_u, ↓NG_u, ↓PG_u, ↓BG_u, ↓CG_u, ↓IG_u, ↓VGtt, ↓VGtf, ↓VGft, ↓VGff, ↓UGtt, ↓UGtf, ↓UGft, ↓UGff, ↓MGtt, ↓MGtf, ↓MGft, ↓MGff, ↓NGtt, ↓NGtf, ↓NGft, ↓NGff, ↓PGtt, ↓PGtf, ↓PGft, ↓PGff, ↓BGtt, ↓BGtf, ↓BGft, ↓BGff, ↓CGtt, ↓CGtf, ↓CGft, ↓CGff, ↓IGtt, ↓IGtf, ↓IGft, ↓IGff, ↓PKt, ↓PKf, ↓CDt, ↓CDf, ↓NOTt, ↓NOTf, ↓NK_ptr, dispatcherref15_Same_R0_eq, dispatcherref15_Same_R0_F, sq_n, sq_x, sq_r, bk_n, bk_r, bk_x, rt_r, rt_n, rs_0, rs_t, pk_1, pk_2, up_at, reduceIte, Nat.reduceEqDiff]
    exact ⟨rfl, hm03⟩
  | true =>
    simp only [↓VG_u, ↓UG_u, ↓MG_u, ↓NG_u, ↓PG_u, ↓BG_u, ↓CG_u, ↓IG_u, ↓VGtt, ↓VGtf, ↓VGft, ↓VGff, ↓UGtt, ↓UGtf, ↓UGft, ↓UGff, ↓MGtt, ↓MGtf, ↓MGft, ↓MGff, ↓NGtt, ↓NGtf, ↓NGft, ↓NGff, ↓PGtt, ↓PGtf, ↓PGft, ↓PGff, ↓BGtt, ↓BGtf, ↓BGft, ↓BGff, ↓CGtt, ↓CGtf, ↓CGft, ↓CGff, ↓IGtt, ↓IGtf, ↓IGft, ↓IGff, ↓PKt, ↓PKf, ↓CDt, ↓CDf, ↓NOTt, ↓NOTf, ↓NK_ptr, ↓(fT1 h13).e, ↓(fT1 h23).e]
    obtain ⟨A, c, es, _⟩ := reads_cap ha1
    obtain ⟨A2, c2', es2, _⟩ := reads_cap hb1
    rw [es, len_sl vLs]
    simp only [↓VG_u, ↓UG_u, ↓MG_u, ↓NG_u, ↓PG_u, ↓BG_u, ↓CG_u, ↓IG_u, ↓VGtt, ↓VGtf, ↓VGft, ↓VGff, ↓UGtt, ↓UGtf, ↓UGft, ↓UGff, ↓MGtt, ↓MGtf, ↓MGft, ↓MGff, ↓NGtt, ↓NGtf, ↓NGft, ↓NGff, ↓PGtt, ↓PGtf, ↓PGft, ↓PGff, ↓BGtt, ↓BGtf, ↓BGft, ↓BGff, ↓CGtt, ↓CGtf, ↓CGft, ↓CGff, ↓IGtt, ↓IGtf, ↓IGft, ↓IGff, ↓PKt, ↓PKf, ↓CDt, ↓CDf, ↓NOTt, ↓NOTf, ↓NK_ptr, ↓(fT1 h23).e]
    rw [es2, len_sl vLs, BK_neq]
    by_cases c4 : a.row.length = b.row.length
    · rw [show ((a.row.length : Int) != (b.row.length : Int)) = false by rw [c4]; simp]
      simp only [↓VG_u, ↓UG_u, ↓MG_u, ↓NG_u, ↓PG_u, ↓BG_u, ↓CG_u, ↓IG_u, ↓VGtt, ↓VGtf, ↓VGft, ↓VGff, ↓UGtt, ↓UGtf, ↓UGft, ↓UGff, ↓MGtt, ↓MGtf, ↓MGft, ↓MGff, ↓NGtt, ↓NGtf, ↓NGft, ↓NGff, ↓PGtt, ↓PGtf, ↓PGft, ↓PGff, ↓BGtt, ↓BGtf, ↓BGft, ↓BGff, ↓CGtt, ↓CGtf, ↓CGft, ↓CGff, ↓IGtt, ↓IGtf, ↓IGft, ↓IGff, ↓PKt, ↓PKf, ↓CDt, ↓CDf, ↓NOTt, ↓NOTf, ↓NK_ptr, dispatcherref15_Same_R0_eq, dispatcherref15_Same_R0_F, sq_n, sq_x, sq_r, bk_n, bk_r, bk_x, rt_r, rt_n, rs_0, rs_t, pk_1, pk_2, up_at, reduceIte, Nat.reduceEqDiff]
      exact Same_loop h13 h23 (ha1.calm hm03) (hb1.calm hm03) c4 hl hm03 rfl rfl
    · rw [show ((a.row.length : Int) != (b.row.length : Int)) = true by rw [bne_iff_ne]; omega, decide_eq_false (p := a.row = b.row) fun z => c4 (by rw [z])]
      simp only [↓VG_u, ↓UG_u, ↓MG_u, ↓NG_u, ↓PG_u, ↓BG_u, ↓CG_u, ↓IG_u, ↓VGtt, ↓VGtf, ↓VGft, ↓VGff, ↓UGtt, ↓UGtf, ↓UGft, ↓UGff, ↓MGtt, ↓MGtf, ↓MGft, ↓MGff, ↓NGtt, ↓NGtf, ↓NGft, ↓NGff, ↓PGtt, ↓PGtf, ↓PGft, ↓PGff, ↓BGtt, ↓BGtf, ↓BGft, ↓BGff, ↓CGtt, ↓CGtf, ↓CGft, ↓CGff, ↓IGtt, ↓IGtf, ↓IGft, ↓IGff, ↓PKt, ↓PKf, ↓CDt, ↓CDf, ↓NOTt, ↓NOTf, ↓NK_ptr, dispatcherref15_Same_R0_eq, dispatcherref15_Same_R0_F, sq_n, sq_x, sq_r, bk_n, bk_r, bk_x, rt_r, rt_n, rs_0, rs_t, pk_1, pk_2, up_at, reduceIte, Nat.reduceEqDiff]
      exact ⟨rfl, hm03⟩
def NoC (w : World) (v : Value) : Prop := v = .pointer none ∨ ∃ q, v = .pointer (some ⟨q, 0, none⟩) ∧ w.heap[q]? = some (.cells #[.bool false, .map none] tC (0, 0))
theorem NoC.calm {w' : World} {v : Value} (h : NoC w v) (hm : Mod none_ w w') : NoC w' v := h.imp id fun ⟨q, e, hb⟩ => ⟨q, e, hm.blk hb id⟩
end
end Go.Proofs.YtandbmnhghmcgaaDoor.Col
set_option linter.unusedVariables false
set_option linter.unusedSimpArgs false
set_option maxRecDepth 8000
namespace Go.X
open Go Go.RowKit
structure Ac where
  key : Ky
  rv : Value
  ranks : List Int
  rank : Int
  p : Pt
  copy : Bool
def Ac.enc (a : Ac) : List Value := [strV a.key, a.rv, .int .i64 a.rank] ++ a.p.enc ++ [.bool a.copy]
theorem Ac.enc_len (a : Ac) : a.enc.length = 9 + 1 := rfl
theorem elIx {P : Program} {w : World} {t e : TypeId} {sz : Nat} (hu : P.underlying t = some (.slice e)) (hc : P.cellsOf e = sz + 1) {α : Type} {enc : α → List Value} (hl : ∀ a, (enc a).length = sz + 1) {l : List α} {v : Value} (h : reads w (sz + 1) v l.length (l.flatMap enc)) {i : Nat} {a : α} (hi : l[i]? = some a) :
    ∃ g : Addr, (∀ w', (Instr.indexAt t v (.int .i64 (i : Int))).run P w' = .ok (.pointer (some g)) w') ∧ ∀ w', Mod none_ w w' → ∀ j c, (enc a)[j]? = some c → w'.cell? (g.add j) = some c := by
  have hil := (List.getElem?_eq_some_iff.1 hi).1
  obtain ⟨_, A, c, es, hnc, hr⟩ := id h
  have h0 : (0 : Nat) < sz + 1 := by omega
  obtain ⟨c0, hc0⟩ : ∃ c0, (enc a)[0]? = some c0 := ⟨_, List.getElem?_eq_getElem (by rw [hl]; exact h0)⟩
  obtain ⟨a0, ha, _⟩ := hr (i * (sz + 1) + 0) c0 (by rw [fl_get hl hi h0]; exact hc0)
  subst es ha
  refine ⟨a0.add (i * (sz + 1)), fun w' => ?_, fun w' hw j x hj => ?_⟩
  · rw [run_ixa hu hc (by omega) (by omega) w']
    rfl
  · have hjl : j < sz + 1 := by have := (List.getElem?_eq_some_iff.1 hj).1; rw [hl] at this; exact this
    obtain ⟨_, A, c, es, _, hc'⟩ := reads_mod h hw (fun _ _ _ => id)
    cases es
    obtain ⟨b, hb, hcell⟩ := hc' (i * (sz + 1) + j) x (by rw [fl_get hl hi hjl]; exact hj)
    cases hb
    rw [add_add]
    exact hcell
structure Acts (w : World) (v : Value) (l : List Ac) : Prop where
  row : reads w (9 + 1) v l.length (l.flatMap Ac.enc)
  rk : ∀ a ∈ l, RR w a.rv a.ranks
theorem Acts.calm {w w' : World} {v : Value} {l : List Ac} (h : Acts w v l) (hm : Mod none_ w w') : Acts w' v l := ⟨reads_mod h.row hm (fun _ _ _ => id), fun a ha => (h.rk a ha).calm hm⟩
end Go.X
namespace Go.Proofs.YtandbmnhghmcgaaDoor.Col
open Go Go.X Go.RowKit Go.Proofs.YtandbmnhghmcgaaDoor.XF Go.Proofs.YtandbmnhghmcgaaDoor.XG Go.Proofs.YtandbmnhghmcgaaDoor.XI Go.Proofs.YtandbmnhghmcgaaDoor.XK
section
variable {w : World} {g : Addr} {a : Ac}
end
end Go.Proofs.YtandbmnhghmcgaaDoor.Col
set_option linter.unusedVariables false
set_option maxRecDepth 8000
namespace Go.X
open Go Go.RowKit
def in64 (n : Int) : Prop := -9223372036854775808 ≤ n ∧ n ≤ 9223372036854775807
theorem in64_of {n : Int} (h : (Lit.int .i64 n).wf = true) : in64 n := by
  simp [Lit.wf, IntKind.min, IntKind.max, IntKind.signed, IntKind.bits, IntKind.has] at h
  unfold in64
  omega
end Go.X
namespace Go.Proofs.YtandbmnhghmcgaaDoor.Col
open Go Go.X Go.RowKit
def shPt : Sh Pt := ⟨6, fun w p cs => cs = p.enc ∧ in64 p.color ∧ in64 p.val⟩
theorem opensPt (n : Nat) : OpensAt Tryd.prog n shPt 34 :=
  opens_as (opens_struct Tryd.underlying34 (by kernel_rfl) (fun m _ => fields_cons rfl (by kernel_rfl) (opens_int Tryd.underlying5) (fields_cons rfl (by kernel_rfl) (opens_int Tryd.underlying3) (fields_cons rfl (by kernel_rfl) (opens_int Tryd.underlying5)
    (fields_cons rfl (by kernel_rfl) (opens_int Tryd.underlying2) (fields_cons rfl (by kernel_rfl) (opens_int Tryd.underlying3) (fields_one rfl (by kernel_rfl) (opens_int Tryd.underlying3))))))))
    (fun x => (⟨x.1, x.2.1, x.2.2.1, x.2.2.2.1, x.2.2.2.2.1, x.2.2.2.2.2⟩ : Pt))
    (fun w v cs h => by
      obtain ⟨c0, d0, rfl, _, ⟨rfl, h0⟩, c1, d1, rfl, _, ⟨rfl, h1⟩, c2, d2, rfl, _, ⟨rfl, h2⟩, c3, d3, rfl, _, ⟨rfl, h3⟩, c4, d4, rfl, _, ⟨rfl, h4⟩, ⟨h5, h6⟩⟩ := h
      subst h5
      exact ⟨rfl, in64_of h4, in64_of h3⟩)
theorem opensPts (n : Nat) : OpensAt Tryd.prog n (Sh.slice shPt) tPts := opens_slice vPts (by kernel_rfl) (fun m _ => opensPt m)
theorem sh_mem {α : Type} {k : Sh α} {w : World} {x : Value × List α} {cs : List Value} (h : (Sh.slice k).K w x cs) : ∀ a ∈ x.2, ∃ d, k.K w a d := by
  intro a ha
  obtain ⟨_, _, A, c, hv, hc, hr⟩ := h
  obtain ⟨i, hi⟩ := List.getElem?_of_mem ha
  obtain ⟨_, d, _, _, hd, _⟩ := hr i a hi
  exact ⟨d, hd⟩
theorem Pts_of {w : World} {x : Value × List Pt} {cs : List Value} (h : (Sh.slice shPt).K w x cs) : reads w 6 x.1 x.2.length (x.2.flatMap Pt.enc) ∧ ∀ p ∈ x.2, in64 p.color ∧ in64 p.val :=
  ⟨reads_sh h Pt.enc (fun _ => rfl) (fun _ _ hd => hd.1), fun a ha => by obtain ⟨d, hd⟩ := sh_mem h a ha; exact hd.2⟩
theorem gl_of {W : World} (h : laidMetH Tryd.prog [("math/bits.deBruijn32tab", Rows.laid_math_bits_deBruijn32tab), ("math/bits.deBruijn64tab", Rows.laid_math_bits_deBruijn64tab), ("internal/strconv.uint64pow10", Rows.laid_internal_strconv_uint64pow10)] W) : Gl W := by
  rw [MakeChecks.laidMetH_plain _ _ _ (by kernel_rfl)] at h
  obtain ⟨ps, ⟨g, t, cs, fuel, p, q, hg, ht, hv, hd, ⟨g2, t2, cs2, fuel2, p2, q2, hg2, ht2, hv2, hd2, ⟨g3, t3, cs3, fuel3, p3, q3, hg3, ht3, hv3, hd3, _, _⟩, _⟩, _⟩, _⟩ := h
  obtain rfl := Option.some.inj ((show Tryd.prog.globalNamed "internal/strconv.uint64pow10" = some 0 by kernel_rfl).symm.trans hg3)
  obtain rfl := Option.some.inj ((show (Tryd.prog.globals[0]?).map (·.type) = some 175 by kernel_rfl).symm.trans ht3)
  have hc := Lib.cells_of_tab (zs := Lib.pow10Tab) (show Tryd.prog.underlying 175 = some (.array 20 154) by kernel_rfl) (show Tryd.prog.underlying 154 = some (.int .u64) by kernel_rfl) (by kernel_rfl) (by kernel_rfl) (show DataW.trod _ _ _ _ _ _ _ _ _ = some (Lib.tabData .u64 Lib.pow10Tab, _) from hd3)
  unfold Gl Lib.TabIs
  rw [hv3, ← hc]
set_option maxRecDepth 100000 in
theorem bool_of {W : World} {B : Nat} {v : Value} (h : Value.okWide Tryd.prog W .any B 4 v) : ∃ b, v = .bool b := by
  simp only [Value.okWide, vB, Cell.okWide] at h
  cases v <;> simp_all [Cell.ok]
end Go.Proofs.YtandbmnhghmcgaaDoor.Col
set_option linter.unusedVariables false
set_option linter.unusedSimpArgs false
set_option maxRecDepth 8000
namespace Go.X
open Go Go.RowKit
def awB (i v : Int) : Br := ⟨[], worldL 3, i, ⟨17, 1, 0, v, 0, 0⟩⟩
def awL1 : List Br := [awB 0 5]
def awL2 : List Br := [awB 0 5, awB 1 7]
def awL3 : List Br := [awB 0 5, awB 1 7, awB 2 9]
def awX : Br := ⟨[], worldL 3, 2, ⟨15, 0, 0, 0, 0, 0⟩⟩
def awLD : List Br := [awB 0 5, awB 1 7, awX]
theorem aw1 : bringC [] (awB 0 5) = (awL1, 0, 0) := by kernel_rfl
theorem aw2 : bringC awL1 (awB 1 7) = (awL2, 0, 0) := by kernel_rfl
theorem aw3 : bringC awL2 (awB 2 9) = (awL3, 0, 0) := by kernel_rfl
theorem aw4 : bringC awL2 awX = (awLD, 0, 0) := by kernel_rfl
theorem awE (loose : Bool) : overC loose awL1 [] 0 0 = loose := by cases loose <;> kernel_rfl
theorem awT1 (loose : Bool) : toldC loose awL3 [] 1 0 = ({ zTd with val := 21 }, true) := by cases loose <;> kernel_rfl
theorem awT2 (loose : Bool) : toldC loose awL3 [] 2 0 = (zTd, true) := by cases loose <;> kernel_rfl
theorem awO1 (loose : Bool) : overC loose awL2 [] 1 0 = false := by cases loose <;> kernel_rfl
theorem awO2 (loose : Bool) : overC loose awLD [] 1 0 = false := by cases loose <;> kernel_rfl
theorem awO3 (loose : Bool) : overC loose awLD [] 2 0 = false := by cases loose <;> kernel_rfl
theorem awO4 (loose : Bool) : overC loose awLD [] 0 0 = loose := by cases loose <;> kernel_rfl
theorem awOd : oddC awLD = [[46, 48]] := by
  have h : keysC awLD = [[]] := by
    unfold keysC
    rw [show keysOf awLD = [[]] from by kernel_rfl]
    simp
  have e : ∀ ks, keysC awLD = ks → oddC awLD = ks.flatMap fun key => ((List.range awLD.length).filter fun k : Nat => oddK awLD key k).map fun k : Nat => childK key k := fun ks q => by unfold oddC; rw [q]
  exact (e _ h).trans (by kernel_rfl)
end Go.X
namespace Go.Proofs.YtandbmnhghmcgaaDoor.Col
open Go Go.X Go.RowKit Go.Proofs.YtandbmnhghmcgaaDoor.XF Go.Proofs.YtandbmnhghmcgaaDoor.XG Go.Proofs.YtandbmnhghmcgaaDoor.XI Go.Proofs.YtandbmnhghmcgaaDoor.XK
structure Cs (w0 w : World) (p : Nat) (loose : Bool) (L : List Br) (V : CV) : Prop where
  at_ : CAt w p loose L V
  new : ∀ b, CF p V b → w0.heap.size ≤ b
  mod : Mod none_ w0 w
section
variable {w0 w w' : World} {p : Nat} {loose : Bool} {L : List Br} {V V' : CV}
theorem Cs.calm (h : Cs w0 w p loose L V) (hm : Mod none_ w w') : Cs w0 w' p loose L V := ⟨h.at_.calm hm, h.new, h.mod.trans hm⟩
theorem Cs.put {L' : List Br} (h : Cs w0 w p loose L V) (hc : CAt w' p loose L' V') (hf : CFr p w V w' V') : Cs w0 w' p loose L' V' :=
  ⟨hc, fun b hb => (hf.f b hb).elim (h.new b) fun z => Nat.le_trans h.mod.size z, h.mod.then hf.mod fun i hi z => by have := h.new i z; omega⟩
theorem keepB (h : CAt w p loose L V) (hf : CFr p w V w' V') {t : TypeId} (h1 : t ≠ tC) (h2 : t ≠ tRo) (h3 : t ≠ tPts) (h4 : t ≠ tPt) {b : Nat} {cs : Array Value} (hb : w.heap[b]? = some (.cells cs t (0, 0))) : w'.heap[b]? = some (.cells cs t (0, 0)) :=
  hf.mod.blk hb fun z => h.notT h1 h2 h3 h4 z ⟨_, _, hb⟩
theorem keepR (h : CAt w p loose L V) (hf : CFr p w V w' V') {B n : Nat} {rv : Value} {xs : List Value} (ho : w.ownsRow B tI 1 rv n xs) : w'.ownsRow B tI 1 rv n xs :=
  owns_mod ho hf.mod fun b hb z => h.typ z (isT_own ho hb)
theorem awake_R2 {K : Exit → Sl → World → Prop} {ρ : Sl} {b3 : Nat} {rv : Value} (h : CAt w p loose [] V) (hb3 : w.heap[b3]? = some (.cells #[strV [], rv] tG (0, 0))) (ho : w.ownsRow 0 tI 1 rv 3 (ints (worldL 3)))
    (q2 : ρ 2 = .pointer (some ⟨p, 0, none⟩)) (q3 : ρ 3 = .pointer (some ⟨b3, 0, none⟩))
    (hK : ∀ (ρ' : Sl) (w' : World) V', (∀ i, i < 11 → ρ' i = ρ i) → CAt w' p loose awL1 V' → CFr p w V w' V' → w'.heap[b3]? = some (.cells #[strV [], rv] tG (0, 0)) → w'.ownsRow 0 tI 1 rv 3 (ints (worldL 3)) → K .normal ρ' w') : W fn_ Tryd.prog 107 dispatcherlaw15_awake_R2 K ρ w := by
  have hd : Mod none_ w { w with drawn := w.drawn + 1 } := (Mod.refl _ w).drawn _
  refine dispatcherlaw15_awake_R2_held (D := []) (fun w' => w'.heap[b3]? = some (.cells #[strV [], rv] tG (0, 0))) (hd.blk hb3 id) ?_
  generalize ({ w with drawn := w.drawn + 1 } : World) = wd at *
  unfold dispatcherlaw15_awake_R2_H
  rw [q2, q3]
  refine HV_of (v := grpV [] rv) (fun w' hw => run_ldB (cs := #[strV [], rv]) Tryd.underlying32 rfl iG hw) ?_
  refine CK_st Tryd.func56 rfl rfl (reduce_ok 5) ?_
  rintro _ w2 ⟨rfl, hm2⟩
  have hm02 := hd.trans hm2
  have ho2 := owns_mod ho hm02 fun _ _ => id
  have hb2 := hm02.blk hb3 id
  refine ⟨hb2, ?_⟩
  refine CK_st Tryd.func12 rfl rfl (Bring_ok (b := awB 0 5) (h.calm hm02) (by simp) (reads_of_owns ho2) (by decide)) ?_
  rintro _ w3 ⟨rfl, V', hc, hf⟩
  rw [aw1] at hc ⊢
  have hf' : CFr p w V w3 V' := (CFr.calm hm02).trans hf
  have hb := keepB h hf' (by decide) (by decide) (by decide) (by decide) hb3
  refine ⟨hb, hK _ w3 V' (fun i hi => ?_) hc hf' hb (keepR h hf' ho)⟩
  repeat rw [up_at, if_neg (by omega)]
theorem awake_R5 {K : Exit → Sl → World → Prop} {ρ : Sl} {b3 : Nat} {rv : Value} (h : CAt w p loose awL1 V) (hb3 : w.heap[b3]? = some (.cells #[strV [], rv] tG (0, 0))) (ho : w.ownsRow 0 tI 1 rv 3 (ints (worldL 3)))
    (q2 : ρ 2 = .pointer (some ⟨p, 0, none⟩)) (q3 : ρ 3 = .pointer (some ⟨b3, 0, none⟩))
    (hK : ∀ (ρ' : Sl) (w' : World) V', (∀ i, i < 11 → ρ' i = ρ i) → CAt w' p loose awL2 V' → CFr p w V w' V' → w'.heap[b3]? = some (.cells #[strV [], rv] tG (0, 0)) → w'.ownsRow 0 tI 1 rv 3 (ints (worldL 3)) → K .normal ρ' w') : W fn_ Tryd.prog 107 dispatcherlaw15_awake_R5 K ρ w := by
  have hd : Mod none_ w { w with drawn := w.drawn + 1 } := (Mod.refl _ w).drawn _
  refine dispatcherlaw15_awake_R5_held (D := []) (fun w' => w'.heap[b3]? = some (.cells #[strV [], rv] tG (0, 0))) (hd.blk hb3 id) ?_
  generalize ({ w with drawn := w.drawn + 1 } : World) = wd at *
  unfold dispatcherlaw15_awake_R5_H
  rw [q2, q3]
  refine HV_of (v := grpV [] rv) (fun w' hw => run_ldB (cs := #[strV [], rv]) Tryd.underlying32 rfl iG hw) ?_
  refine CK_st Tryd.func56 rfl rfl (reduce_ok 7) ?_
  rintro _ w2 ⟨rfl, hm2⟩
  have hm02 := hd.trans hm2
  have ho2 := owns_mod ho hm02 fun _ _ => id
  have hb2 := hm02.blk hb3 id
  refine ⟨hb2, ?_⟩
  refine CK_st Tryd.func12 rfl rfl (Bring_ok (b := awB 1 7) (h.calm hm02) (by decide) (reads_of_owns ho2) (by decide)) ?_
  rintro _ w3 ⟨rfl, V', hc, hf⟩
  rw [aw2] at hc ⊢
  have hf' : CFr p w V w3 V' := (CFr.calm hm02).trans hf
  have hb := keepB h hf' (by decide) (by decide) (by decide) (by decide) hb3
  refine ⟨hb, hK _ w3 V' (fun i hi => ?_) hc hf' hb (keepR h hf' ho)⟩
  repeat rw [up_at, if_neg (by omega)]
theorem awake_R7 {K : Exit → Sl → World → Prop} {ρ : Sl} {b3 : Nat} {rv : Value} (h : CAt w p loose awL2 V) (hb3 : w.heap[b3]? = some (.cells #[strV [], rv] tG (0, 0))) (ho : w.ownsRow 0 tI 1 rv 3 (ints (worldL 3)))
    (q2 : ρ 2 = .pointer (some ⟨p, 0, none⟩)) (q3 : ρ 3 = .pointer (some ⟨b3, 0, none⟩))
    (hK : ∀ (ρ' : Sl) (w' : World) V', (∀ i, i < 11 → ρ' i = ρ i) → CAt w' p loose awL3 V' → CFr p w V w' V' → w'.heap[b3]? = some (.cells #[strV [], rv] tG (0, 0)) → w'.ownsRow 0 tI 1 rv 3 (ints (worldL 3)) → K .normal ρ' w') : W fn_ Tryd.prog 107 dispatcherlaw15_awake_R7 K ρ w := by
  have hd : Mod none_ w { w with drawn := w.drawn + 1 } := (Mod.refl _ w).drawn _
  refine dispatcherlaw15_awake_R7_held (D := []) (fun w' => w'.heap[b3]? = some (.cells #[strV [], rv] tG (0, 0))) (hd.blk hb3 id) ?_
  generalize ({ w with drawn := w.drawn + 1 } : World) = wd at *
  unfold dispatcherlaw15_awake_R7_H
  rw [q2, q3]
  refine HV_of (v := grpV [] rv) (fun w' hw => run_ldB (cs := #[strV [], rv]) Tryd.underlying32 rfl iG hw) ?_
  refine CK_st Tryd.func56 rfl rfl (reduce_ok 9) ?_
  rintro _ w2 ⟨rfl, hm2⟩
  have hm02 := hd.trans hm2
  have ho2 := owns_mod ho hm02 fun _ _ => id
  have hb2 := hm02.blk hb3 id
  refine ⟨hb2, ?_⟩
  refine CK_st Tryd.func12 rfl rfl (Bring_ok (b := awB 2 9) (h.calm hm02) (by decide) (reads_of_owns ho2) (by decide)) ?_
  rintro _ w3 ⟨rfl, V', hc, hf⟩
  rw [aw3] at hc ⊢
  have hf' : CFr p w V w3 V' := (CFr.calm hm02).trans hf
  have hb := keepB h hf' (by decide) (by decide) (by decide) (by decide) hb3
  refine ⟨hb, hK _ w3 V' (fun i hi => ?_) hc hf' hb (keepR h hf' ho)⟩
  repeat rw [up_at, if_neg (by omega)]
end
end Go.Proofs.YtandbmnhghmcgaaDoor.Col
set_option linter.unusedVariables false
set_option linter.unusedSimpArgs false
set_option maxRecDepth 8000
namespace Go.Proofs.YtandbmnhghmcgaaDoor.Col
open Go Go.X Go.RowKit Go.Proofs.YtandbmnhghmcgaaDoor.XF Go.Proofs.YtandbmnhghmcgaaDoor.XG Go.Proofs.YtandbmnhghmcgaaDoor.XI Go.Proofs.YtandbmnhghmcgaaDoor.XK
theorem bPtB : Tryd.prog.built tPt [(0, .int .u8 15)] = some (Pt.enc ⟨15, 0, 0, 0, 0, 0⟩).toArray := by kernel_rfl
section
variable {w0 w : World} {p d : Nat} {loose : Bool} {V VD : CV}
theorem awake_R10 {K : Exit → Sl → World → Prop} {ρ : Sl} {b3 : Nat} {rv : Value} {n : Int} (hn : (n == 1) = loose) (hgl : Gl w0) (h : Cs w0 w d loose awL2 VD) (hb3 : w.heap[b3]? = some (.cells #[strV [], rv] tG (0, 0))) (ho : w.ownsRow 0 tI 1 rv 3 (ints (worldL 3)))
    (q1 : ρ 1 = .int .i64 n) (q5 : ρ 5 = .pointer (some ⟨d, 0, none⟩)) (q3 : ρ 3 = .pointer (some ⟨b3, 0, none⟩))
    (hK : ∀ (ρ' : Sl) (w' : World), ρ' 1 = ρ 1 → Mod none_ w0 w' → K .normal ρ' w') : sx fn_ Tryd.prog 107 dispatcherlaw15_awake_R10 K ρ w := by
  rw [dispatcherlaw15_awake_R10_eq]; unfold dispatcherlaw15_awake_R10_F
  rw [q3, q5, q1]
  refine ldS (cs := #[strV [], rv]) rfl Tryd.underlying32 rfl iG hb3 ?_
  rw [build_ok bPtB]
  refine CK_st Tryd.func12 rfl rfl (Bring_ok (b := awX) h.at_ (by decide) (reads_of_owns ho) (by decide)) ?_
  rintro _ w1 ⟨rfl, V1, hc, hf⟩
  rw [aw4] at hc ⊢
  have h1 := h.put hc hf
  refine CK_st Tryd.func24 rfl rfl (Odd_ok h1.at_ (hgl.calm h1.mod) (by decide) (fun b hb => by simp [awLD, awB, awX] at hb; rcases hb with rfl | rfl | rfl <;> simp)) ?_
  rintro x w2 ⟨hx, hm2⟩
  rw [awOd] at hx
  have h2 := h1.calm hm2
  have hrx := reads_of_owns hx
  obtain ⟨A, c, es, _⟩ := reads_cap hrx
  rw [es, len_sl vSs, ← es]
  simp only [↓VG_u, ↓UG_u, ↓MG_u, ↓NG_u, ↓PG_u, ↓BG_u, ↓CG_u, ↓IG_u, ↓VGtt, ↓VGtf, ↓VGft, ↓VGff, ↓UGtt, ↓UGtf, ↓UGft, ↓UGff, ↓MGtt, ↓MGtf, ↓MGft, ↓MGff, ↓NGtt, ↓NGtf, ↓NGft, ↓NGff, ↓PGtt, ↓PGtf, ↓PGft, ↓PGff, ↓BGtt, ↓BGtf, ↓BGft, ↓BGff, ↓CGtt, ↓CGtf, ↓CGft, ↓CGff, ↓IGtt, ↓IGtf, ↓IGft, ↓IGff, ↓PKt, ↓PKf, ↓CDt, ↓CDf, ↓NOTt, ↓NOTf, ↓NK_ptr, ↓NEf (show (([[46, 48]] : List Ky).length : Int) = 1 from rfl)]
  refine ixld vSs cS vS rfl hrx (by decide) (i := 0) (u := strV [46, 48]) rfl fun y => ?_
  rw [show (Value.string { data := #[46, 48] } : Value) = strV [46, 48] from rfl]
  unfold strV
  simp only [↓VG_u, ↓UG_u, ↓MG_u, ↓NG_u, ↓PG_u, ↓BG_u, ↓CG_u, ↓IG_u, ↓VGtt, ↓VGtf, ↓VGft, ↓VGff, ↓UGtt, ↓UGtf, ↓UGft, ↓UGff, ↓MGtt, ↓MGtf, ↓MGft, ↓MGff, ↓NGtt, ↓NGtf, ↓NGft, ↓NGff, ↓PGtt, ↓PGtf, ↓PGft, ↓PGff, ↓BGtt, ↓BGtf, ↓BGft, ↓BGff, ↓CGtt, ↓CGtf, ↓CGft, ↓CGff, ↓IGtt, ↓IGtf, ↓IGft, ↓IGff, ↓PKt, ↓PKf, ↓CDt, ↓CDf, ↓NOTt, ↓NOTf, ↓NK_ptr, ↓SNEf (show (⟨([46, 48] : Ky).toArray⟩ : ByteArray) = ⟨([46, 48] : Ky).toArray⟩ from rfl)]
  refine CK_st Tryd.func31 rfl rfl (Over_ok h2.at_ h2.at_.hG [] 1 0) ?_
  rintro _ w3 ⟨rfl, hm3⟩
  have h3 := h2.calm hm3
  rw [awO2]
  try simp only [↓VG_u, ↓UG_u, ↓MG_u, ↓NG_u, ↓PG_u, ↓BG_u, ↓CG_u, ↓IG_u, ↓VGtt, ↓VGtf, ↓VGft, ↓VGff, ↓UGtt, ↓UGtf, ↓UGft, ↓UGff, ↓MGtt, ↓MGtf, ↓MGft, ↓MGff, ↓NGtt, ↓NGtf, ↓NGft, ↓NGff, ↓PGtt, ↓PGtf, ↓PGft, ↓PGff, ↓BGtt, ↓BGtf, ↓BGft, ↓BGff, ↓CGtt, ↓CGtf, ↓CGft, ↓CGff, ↓IGtt, ↓IGtf, ↓IGft, ↓IGff, ↓PKt, ↓PKf, ↓CDt, ↓CDf, ↓NOTt, ↓NOTf, ↓NK_ptr]
  refine CK_st Tryd.func31 rfl rfl (Over_ok h3.at_ h3.at_.hG [] 2 0) ?_
  rintro _ w4 ⟨rfl, hm4⟩
  have h4 := h3.calm hm4
  rw [awO3]
  try simp only [↓VG_u, ↓UG_u, ↓MG_u, ↓NG_u, ↓PG_u, ↓BG_u, ↓CG_u, ↓IG_u, ↓VGtt, ↓VGtf, ↓VGft, ↓VGff, ↓UGtt, ↓UGtf, ↓UGft, ↓UGff, ↓MGtt, ↓MGtf, ↓MGft, ↓MGff, ↓NGtt, ↓NGtf, ↓NGft, ↓NGff, ↓PGtt, ↓PGtf, ↓PGft, ↓PGff, ↓BGtt, ↓BGtf, ↓BGft, ↓BGff, ↓CGtt, ↓CGtf, ↓CGft, ↓CGff, ↓IGtt, ↓IGtf, ↓IGft, ↓IGff, ↓PKt, ↓PKf, ↓CDt, ↓CDf, ↓NOTt, ↓NOTf, ↓NK_ptr]
  refine CK_st Tryd.func31 rfl rfl (Over_ok h4.at_ h4.at_.hG [] 0 0) ?_
  rintro _ w5 ⟨rfl, hm5⟩
  have h5 := h4.calm hm5
  rw [awO4]
  try simp only [↓VG_u, ↓UG_u, ↓MG_u, ↓NG_u, ↓PG_u, ↓BG_u, ↓CG_u, ↓IG_u, ↓VGtt, ↓VGtf, ↓VGft, ↓VGff, ↓UGtt, ↓UGtf, ↓UGft, ↓UGff, ↓MGtt, ↓MGtf, ↓MGft, ↓MGff, ↓NGtt, ↓NGtf, ↓NGft, ↓NGff, ↓PGtt, ↓PGtf, ↓PGft, ↓PGff, ↓BGtt, ↓BGtf, ↓BGft, ↓BGff, ↓CGtt, ↓CGtf, ↓CGft, ↓CGff, ↓IGtt, ↓IGtf, ↓IGft, ↓IGff, ↓PKt, ↓PKf, ↓CDt, ↓CDf, ↓NOTt, ↓NOTf, ↓NK_ptr]
  rw [BK_eql, hn, BK_neqB vB, show (!(loose == loose)) = false by simp]
  rw [dispatcherlaw15_awake_R11_eq]; unfold dispatcherlaw15_awake_R11_F
  refine condF ?_
  refine hK _ _ ?_ h5.mod
  repeat rw [up_at, if_neg (by omega)]
theorem awake_R8 {K : Exit → Sl → World → Prop} {ρ : Sl} {b3 : Nat} {rv : Value} {n : Int} (hn : (n == 1) = loose) (hgl : Gl w0) (hc : Cs w0 w p loose awL3 V) (h : Cs w0 w d loose awL2 VD) (hb3 : w.heap[b3]? = some (.cells #[strV [], rv] tG (0, 0))) (ho : w.ownsRow 0 tI 1 rv 3 (ints (worldL 3)))
    (q1 : ρ 1 = .int .i64 n) (q2 : ρ 2 = .pointer (some ⟨p, 0, none⟩)) (q4 : ρ 4 = .bool loose) (q5 : ρ 5 = .pointer (some ⟨d, 0, none⟩)) (q3 : ρ 3 = .pointer (some ⟨b3, 0, none⟩))
    (hK : ∀ (ρ' : Sl) (w' : World), ρ' 1 = ρ 1 → Mod none_ w0 w' → K .normal ρ' w') : sx fn_ Tryd.prog 107 dispatcherlaw15_awake_R8 K ρ w := by
  rw [dispatcherlaw15_awake_R8_eq]; unfold dispatcherlaw15_awake_R8_F
  rw [q2, q1, q4, q5]
  have hC : ∀ b ∈ awL3, -9223372036854775808 ≤ b.p.color ∧ b.p.color ≤ 9223372036854775807 := fun b hb => by simp [awL3, awB] at hb; rcases hb with rfl | rfl | rfl <;> simp
  have hKy : ∀ b ∈ awL3, b.key.length ≤ 1000000 := fun b hb => by simp [awL3, awB] at hb; rcases hb with rfl | rfl | rfl <;> simp
  refine CK_st Tryd.func27 rfl rfl (Told_ok hc.at_ (hgl.calm hc.mod) (by decide) hKy hC [] 1 0) ?_
  rintro _ w1 ⟨u, rfl, hu, hm1⟩
  rw [awT1] at hu ⊢
  obtain ⟨row, rks, rfl, hr1, hr2⟩ := hu
  rw [extract_ok (v := .agg (tdCells { zTd with val := 21 } row rks)) rfl, extract_ok (v := .bool true) rfl]
  obtain ⟨A1, c1, es1, _⟩ := reads_cap (reads_of_owns hr1)
  obtain ⟨A2, c2, es2, _⟩ := reads_cap (reads_of_owns hr2)
  refine lcl_k (cs := tdCells { zTd with val := 21 } row rks) zTd_z _ iTd rfl (by rw [es1, es2]; exact td_one _ _ _ _ _ _ _) fun w2 hb2 hm2 hz2 => ?_
  have hc2 := (hc.calm hm1).calm hm2
  refine CK_st Tryd.func27 rfl rfl (Told_ok hc2.at_ (hgl.calm hc2.mod) (by decide) hKy hC [] 2 0) ?_
  rintro _ w3 ⟨u, rfl, hu, hm3⟩
  rw [awT2] at hu ⊢
  obtain ⟨row', rks', rfl, hr1', hr2'⟩ := hu
  rw [extract_ok (v := .agg (tdCells zTd row' rks')) rfl, extract_ok (v := .bool true) rfl]
  obtain ⟨A3, c3, es3, _⟩ := reads_cap (reads_of_owns hr1')
  obtain ⟨A4, c4, es4, _⟩ := reads_cap (reads_of_owns hr2')
  refine lcl_k (cs := tdCells zTd row' rks') zTd_z _ iTd rfl (by rw [es3, es4]; exact td_one _ _ _ _ _ _ _) fun w4 hb4 hm4 hz4 => ?_
  have hm14 := (hm1.trans hm2).trans (hm3.trans hm4)
  have hb24 := (hm3.trans hm4).blk hb2 id
  have h4 := h.calm hm14
  rw [BK_eql, hn, BK_neqB vB, show (!(loose == loose)) = false by simp]
  simp only [↓VG_u, ↓UG_u, ↓MG_u, ↓NG_u, ↓PG_u, ↓BG_u, ↓CG_u, ↓IG_u, ↓VGtt, ↓VGtf, ↓VGft, ↓VGff, ↓UGtt, ↓UGtf, ↓UGft, ↓UGff, ↓MGtt, ↓MGtf, ↓MGft, ↓MGff, ↓NGtt, ↓NGtf, ↓NGft, ↓NGff, ↓PGtt, ↓PGtf, ↓PGft, ↓PGff, ↓BGtt, ↓BGtf, ↓BGft, ↓BGff, ↓CGtt, ↓CGtf, ↓CGft, ↓CGff, ↓IGtt, ↓IGtf, ↓IGft, ↓IGff, ↓PKt, ↓PKf, ↓CDt, ↓CDf, ↓NOTt, ↓NOTf, ↓NK_ptr, ↓(fT0 hb24).e, ↓NEf (show (21 : Int) = 21 from rfl)]
  simp only [↓(fT0 hb4).e, ↓NEf (show (zTd.val : Int) = 0 from rfl), ↓VG_u, ↓UG_u, ↓MG_u, ↓NG_u, ↓PG_u, ↓BG_u, ↓CG_u, ↓IG_u, ↓VGtt, ↓VGtf, ↓VGft, ↓VGff, ↓UGtt, ↓UGtf, ↓UGft, ↓UGff, ↓MGtt, ↓MGtf, ↓MGft, ↓MGff, ↓NGtt, ↓NGtf, ↓NGft, ↓NGff, ↓PGtt, ↓PGtf, ↓PGft, ↓PGff, ↓BGtt, ↓BGtf, ↓BGft, ↓BGff, ↓CGtt, ↓CGtf, ↓CGft, ↓CGff, ↓IGtt, ↓IGtf, ↓IGft, ↓IGff, ↓PKt, ↓PKf, ↓CDt, ↓CDf, ↓NOTt, ↓NOTf, ↓NK_ptr]
  rw [BK_eqlP uC]
  simp only [↓VG_u, ↓UG_u, ↓MG_u, ↓NG_u, ↓PG_u, ↓BG_u, ↓CG_u, ↓IG_u, ↓VGtt, ↓VGtf, ↓VGft, ↓VGff, ↓UGtt, ↓UGtf, ↓UGft, ↓UGff, ↓MGtt, ↓MGtf, ↓MGft, ↓MGff, ↓NGtt, ↓NGtf, ↓NGft, ↓NGff, ↓PGtt, ↓PGtf, ↓PGft, ↓PGff, ↓BGtt, ↓BGtf, ↓BGft, ↓BGff, ↓CGtt, ↓CGtf, ↓CGft, ↓CGff, ↓IGtt, ↓IGtf, ↓IGft, ↓IGff, ↓PKt, ↓PKf, ↓CDt, ↓CDf, ↓NOTt, ↓NOTf, ↓NK_ptr, Option.isNone_some]
  refine CK_st Tryd.func31 rfl rfl (Over_ok h4.at_ h4.at_.hG [] 1 0) ?_
  rintro _ w5 ⟨rfl, hm5⟩
  rw [awO1]
  try simp only [↓VG_u, ↓UG_u, ↓MG_u, ↓NG_u, ↓PG_u, ↓BG_u, ↓CG_u, ↓IG_u, ↓VGtt, ↓VGtf, ↓VGft, ↓VGff, ↓UGtt, ↓UGtf, ↓UGft, ↓UGff, ↓MGtt, ↓MGtf, ↓MGft, ↓MGff, ↓NGtt, ↓NGtf, ↓NGft, ↓NGff, ↓PGtt, ↓PGtf, ↓PGft, ↓PGff, ↓BGtt, ↓BGtf, ↓BGft, ↓BGff, ↓CGtt, ↓CGtf, ↓CGft, ↓CGff, ↓IGtt, ↓IGtf, ↓IGft, ↓IGff, ↓PKt, ↓PKf, ↓CDt, ↓CDf, ↓NOTt, ↓NOTf, ↓NK_ptr]
  rw [dispatcherlaw15_awake_R9_eq]; unfold dispatcherlaw15_awake_R9_F
  have h5 := h4.calm hm5
  have hm15 := hm14.trans hm5
  simp only [sq_n, sq_x, sq_r, bk_n, bk_r, bk_x, rt_r, rt_n, rs_0, rs_t, pk_1, pk_2, up_at, reduceIte, Nat.reduceEqDiff, ↓VG_u, ↓UG_u, ↓MG_u, ↓NG_u, ↓PG_u, ↓BG_u, ↓CG_u, ↓IG_u, ↓VGtt, ↓VGtf, ↓VGft, ↓VGff, ↓UGtt, ↓UGtf, ↓UGft, ↓UGff, ↓MGtt, ↓MGtf, ↓MGft, ↓MGff, ↓NGtt, ↓NGtf, ↓NGft, ↓NGff, ↓PGtt, ↓PGtf, ↓PGft, ↓PGff, ↓BGtt, ↓BGtf, ↓BGft, ↓BGff, ↓CGtt, ↓CGtf, ↓CGft, ↓CGff, ↓IGtt, ↓IGtf, ↓IGft, ↓IGff, ↓PKt, ↓PKf, ↓CDt, ↓CDf, ↓NOTt, ↓NOTf, ↓NK_ptr]
  try rw [sq_n]
  refine awake_R10 hn hgl h5 (hm15.blk hb3 id) (owns_mod ho hm15 fun _ _ => id) ?_ ?_ ?_ ?_
  · exact q1
  · exact q5
  · exact q3
  intro ρ' w' s hm'
  exact hK ρ' w' s hm'
end
end Go.Proofs.YtandbmnhghmcgaaDoor.Col
set_option linter.unusedVariables false
set_option linter.unusedSimpArgs false
set_option maxRecDepth 8000
namespace Go.Proofs.YtandbmnhghmcgaaDoor.Col
open Go Go.X Go.RowKit Go.Proofs.YtandbmnhghmcgaaDoor.XF Go.Proofs.YtandbmnhghmcgaaDoor.XG Go.Proofs.YtandbmnhghmcgaaDoor.XI Go.Proofs.YtandbmnhghmcgaaDoor.XK
section
variable {w : World}
theorem awake_ok (hgl : Gl w) : Rt Tryd.prog 26 #[] w fun v w' => v = .bool true ∧ Mod none_ w w' := by
  refine dispatcherlaw15_awake_calls ?_
  unfold dispatcherlaw15_awake_F
  refine W_loop dispatcherlaw15_awake_L0_ok (fun ρ w' => ∃ i : Nat, i ≤ 2 ∧ ρ 1 = .int .i64 i ∧ Mod none_ w w') (fun ρ _ => 2 - (intOf (ρ 1)).toNat)
    ⟨0, Nat.zero_le _, rfl, Mod.refl _ _⟩ ?_
  rintro ρ w1 ⟨i, hi, e1, hm1⟩
  rw [dispatcherlaw15_awake_L0_eq]; unfold dispatcherlaw15_awake_L0_F
  rw [e1, BK_lss]
  by_cases hlt : i < 2
  case neg =>
    obtain rfl : i = 2 := by omega
    rw [decide_eq_false (by omega)]
    refine condF ?_
    rw [sq_x, bk_x, sq_n, dispatcherlaw15_awake_R1_eq]; unfold dispatcherlaw15_awake_R1_F
    exact ⟨rfl, hm1⟩
  rw [decide_eq_true (by omega)]
  refine condT ?_
  rw [BK_eql]
  obtain ⟨loose, hn⟩ : ∃ loose, ((i : Int) == 1) = loose := ⟨_, rfl⟩
  rw [hn]
  refine CK_st Tryd.func11 rfl rfl (New_ok w1 loose) ?_
  rintro _ w2 ⟨p, V, rfl, hc, _, _, hnew, hm2⟩
  rw [BK_eqlP uC]
  simp only [Option.isNone_some]
  refine condF ?_
  have hc2 : Cs w w2 p loose [] V := ⟨hc, fun b hb => Nat.le_trans hm1.size (hnew b hb), hm1.trans hm2⟩
  refine CK_st Tryd.func30 rfl rfl (ranks_ok (n := 3) (by decide) (by decide)) ?_
  rintro _ w3 ⟨rv, rfl, ho, hm3⟩
  obtain ⟨A', c', e', _⟩ := reads_cap (reads_of_owns ho)
  refine lcl_k (cs := #[strV [], rv]) zG _ iG rfl (by rw [e']; exact grp_one _ _ _ _) fun w4 hb4 hm4 hz4 => ?_
  have hc4 := (hc2.calm hm3).calm hm4
  have ho4 : w4.ownsRow 0 tI 1 rv 3 (ints (worldL 3)) := owns_base (owns_mod ho hm4 fun _ _ => id) (Nat.zero_le _)
  refine awake_R2 (b3 := w3.heap.size) (rv := rv) hc4.at_ hb4 ho4 rfl rfl ?_
  intro ρ5 w5 V5 s5 hA5 hf5 hb5 ho5
  have hc5 := hc4.put hA5 hf5
  have q5 : ρ5 1 = .int .i64 i ∧ ρ5 2 = .pointer (some ⟨p, 0, none⟩) ∧ ρ5 3 = .pointer (some ⟨w3.heap.size, 0, none⟩) := ⟨(s5 1 (by decide)).trans e1, s5 2 (by decide), s5 3 (by decide)⟩
  rw [sq_n, dispatcherlaw15_awake_R3_eq]; unfold dispatcherlaw15_awake_R3_F
  rw [q5.2.1]
  refine CK_st Tryd.func31 rfl rfl (Over_ok hc5.at_ hc5.at_.hG [] 0 0) ?_
  rintro _ w6 ⟨rfl, hm6⟩
  rw [awE]
  have hc6 := hc5.calm hm6
  refine awake_R5 (b3 := w3.heap.size) (rv := rv) hc6.at_ (hm6.blk hb5 id) (owns_mod ho5 hm6 fun _ _ => id) ?_ ?_ ?_
  · exact q5.2.1
  · exact q5.2.2
  intro ρ7 w7 V7 s7 hA7 hf7 hb7 ho7
  have hc7 := hc6.put hA7 hf7
  have q7 : ρ7 1 = .int .i64 i ∧ ρ7 2 = .pointer (some ⟨p, 0, none⟩) ∧ ρ7 3 = .pointer (some ⟨w3.heap.size, 0, none⟩) ∧ ρ7 4 = .bool loose := ⟨(s7 1 (by decide)).trans q5.1, (s7 2 (by decide)).trans q5.2.1, (s7 3 (by decide)).trans q5.2.2, s7 4 (by decide)⟩
  rw [sq_n, dispatcherlaw15_awake_R6_eq]; unfold dispatcherlaw15_awake_R6_F
  rw [q7.2.1]
  refine CK_st Tryd.func15 rfl rfl (Copy_ok hc7.at_ (by decide)) ?_
  rintro _ w8 ⟨d, VD, rfl, hD, hDn, hm8⟩
  have hc8 := hc7.calm hm8
  have hd8 : Cs w w8 d loose awL2 VD := ⟨hD, fun b hb => Nat.le_trans hc7.mod.size (hDn b hb), hc8.mod⟩
  refine awake_R7 (b3 := w3.heap.size) (rv := rv) hc8.at_ (hm8.blk hb7 id) (owns_mod ho7 hm8 fun _ _ => id) ?_ ?_ ?_
  · exact q7.2.1
  · exact q7.2.2.1
  intro ρ9 w9 V9 s9 hA9 hf9 hb9 ho9
  have hc9 := hc8.put hA9 hf9
  have hd9 : Cs w w9 d loose awL2 VD := ⟨hd8.at_.beside hc8.at_ (fun b hb z => by have := hDn b hb; have := hc7.at_.old z; omega) hf9, hd8.new, hc9.mod⟩
  have q9 : ρ9 1 = .int .i64 i ∧ ρ9 2 = .pointer (some ⟨p, 0, none⟩) ∧ ρ9 3 = .pointer (some ⟨w3.heap.size, 0, none⟩) ∧ ρ9 4 = .bool loose ∧ ρ9 5 = .pointer (some ⟨d, 0, none⟩) := ⟨(s9 1 (by decide)).trans q7.1, (s9 2 (by decide)).trans q7.2.1, (s9 3 (by decide)).trans q7.2.2.1, (s9 4 (by decide)).trans q7.2.2.2, s9 5 (by decide)⟩
  rw [sq_n]
  refine awake_R8 (b3 := w3.heap.size) (rv := rv) hn hgl hc9 hd9 hb9 ho9 q9.1 q9.2.1 q9.2.2.2.1 q9.2.2.2.2 q9.2.2.1 ?_
  intro ρ' w' s' hm'
  rw [bk_n, sq_n, dispatcherlaw15_awake_R4_eq]; unfold dispatcherlaw15_awake_R4_F
  rw [s', q9.1, BK_add, wrap_i (by omega) (by omega)]
  refine ⟨⟨i + 1, hlt, rfl, hm'⟩, ?_⟩
  simp only [sq_n, sq_x, sq_r, bk_n, bk_r, bk_x, rt_r, rt_n, rs_0, rs_t, pk_1, pk_2, up_at, reduceIte, Nat.reduceEqDiff, intOf]; omega
end
end Go.Proofs.YtandbmnhghmcgaaDoor.Col
set_option linter.unusedVariables false
set_option linter.unusedSimpArgs false
set_option maxRecDepth 8000
namespace Go.X
open Go Go.RowKit
theorem Hnot {P : Program} {S : World → Prop} {K : Value → Prop} {b : Bool} (hk : K (.bool (!b))) : HK P S (do pure (Next.value (← Op.unary .not (.bool b)))) K := by
  refine HV_of (v := .bool (!b)) (fun w _ => ?_) hk
  cases b <;> rfl
def PtAt (w : World) (g : Addr) (p : Pt) : Prop := ∀ j c, p.enc[j]? = some c → w.cell? (g.add j) = some c
end Go.X
namespace Go.Proofs.YtandbmnhghmcgaaDoor.Col
open Go Go.X Go.RowKit Go.Proofs.YtandbmnhghmcgaaDoor.XF Go.Proofs.YtandbmnhghmcgaaDoor.XG Go.Proofs.YtandbmnhghmcgaaDoor.XI Go.Proofs.YtandbmnhghmcgaaDoor.XK
abbrev PtsR (w : World) (v : Value) (l : List Pt) : Prop := reads w 6 v l.length (l.flatMap Pt.enc)
section
variable {w : World}
theorem PtsR.calm {w' : World} {v : Value} {l : List Pt} (h : PtsR w v l) (hm : Mod none_ w w') : PtsR w' v l := reads_mod h hm (fun _ _ _ => id)
theorem pts_at {v : Value} {l : List Pt} (h : PtsR w v l) {i : Nat} {p : Pt} (hi : l[i]? = some p) : ∃ g : Addr, (∀ w', (Instr.indexAt tPts v (.int .i64 (i : Int))).run Tryd.prog w' = .ok (.pointer (some g)) w') ∧ ∀ w', Mod none_ w w' → PtAt w' g p :=
  elIx vPts cPt Pt.enc_len h hi
theorem pt_ld {g : Addr} {p : Pt} (h : PtAt w g p) : (Instr.loadAt tPt (.pointer (some g))).run Tryd.prog w = .ok p.v w :=
  run_ldA (cs := p.enc) Tryd.underlying34 rfl (by kernel_rfl) h
theorem may_R2 {w0 : World} {K : Exit → Sl → World → Prop} {ρ : Sl} {v : Value} {l : List Pt} {i : Nat} {p : Pt} (h : PtsR w0 v l) (hm : Mod none_ w0 w) (h1 : 1 ≤ l.length) (h8 : l.length ≤ 8) (hi : l[i]? = some p) (q0 : ρ 0 = v) (q3 : ρ 3 = .int .i64 i)
    (hK : ∀ (ρ' : Sl) (w' : World), (∀ i, i < 12 → ρ' i = ρ i) → ρ' 26 = .bool (!mayPt l.length p) → Mod none_ w0 w' → K .normal ρ' w') : W fn_ Tryd.prog 27 dispatcherlaw15_may_R2 K ρ w := by
  have hd : Mod none_ w0 { w with drawn := w.drawn + 1 } := hm.trans ((Mod.refl _ w).drawn _)
  refine dispatcherlaw15_may_R2_held (D := []) (fun w' => Mod none_ w0 w') hd ?_
  generalize ({ w with drawn := w.drawn + 1 } : World) = wd at *
  unfold dispatcherlaw15_may_R2_H
  rw [q0, q3]
  obtain ⟨A, c, es, _⟩ := reads_cap h
  obtain ⟨g, hix, hat⟩ := pts_at h hi
  have hlen : ∀ {K : Value → Prop}, K (.int .i64 (l.length : Int)) → HK Tryd.prog (fun w' => Mod none_ w0 w') (builtin .len #[tPts] tI [false].toArray [v].toArray) K := fun {K} hk => by
    rw [es]
    exact HI_len vPts _ _ _ _ hk
  refine hlen (HV_of (fun w' _ => hix w') (HV_of (fun w' hw => pt_ld (hat w' hw)) ?_))
  refine CK_st Tryd.func30 rfl rfl (ranks_ok h1 (by omega)) ?_
  rintro _ w2 ⟨rv, rfl, ho, hm2⟩
  refine ⟨hd.trans hm2, ?_⟩
  have hwl := worldL_len l.length
  have hRR : RR w2 rv (worldL l.length) := by
    have := reads_of_owns ho
    unfold RR
    rw [hwl]
    exact this
  refine CK_st Tryd.func19 rfl rfl (MayP_ok (key := []) hRR (by omega) p) ?_
  rintro _ w3 ⟨rfl, hm3⟩
  rw [hwl]
  have hm03 := (hd.trans hm2).trans hm3
  refine ⟨hm03, Hnot ?_⟩
  refine hK _ _ (fun i hi => ?_) rfl hm03
  repeat rw [up_at, if_neg (by omega)]
theorem may_ok {v : Value} {l : List Pt} (h : PtsR w v l) : Rt Tryd.prog 29 #[v] w fun u w' => ∃ b, u = .bool b ∧ (b = true → 1 ≤ l.length ∧ l.length ≤ 8 ∧ ∀ p ∈ l, mayPt l.length p = true) ∧ Mod none_ w w' := by
  refine dispatcherlaw15_may_calls ?_
  unfold dispatcherlaw15_may_F
  obtain ⟨A, c, es, _⟩ := reads_cap h
  have ev := es
  rw [es, len_sl vPts, ← ev]
  by_cases c1 : (l.length : Int) < 1
  · simp only [↓VG_u, ↓UG_u, ↓MG_u, ↓NG_u, ↓PG_u, ↓BG_u, ↓CG_u, ↓IG_u, ↓VGtt, ↓VGtf, ↓VGft, ↓VGff, ↓UGtt, ↓UGtf, ↓UGft, ↓UGff, ↓MGtt, ↓MGtf, ↓MGft, ↓MGff, ↓NGtt, ↓NGtf, ↓NGft, ↓NGff, ↓PGtt, ↓PGtf, ↓PGft, ↓PGff, ↓BGtt, ↓BGtf, ↓BGft, ↓BGff, ↓CGtt, ↓CGtf, ↓CGft, ↓CGff, ↓IGtt, ↓IGtf, ↓IGft, ↓IGff, ↓PKt, ↓PKf, ↓CDt, ↓CDf, ↓NOTt, ↓NOTf, ↓NK_ptr, ↓LTt c1]
    exact ⟨false, rfl, fun q => by simp at q, Mod.refl _ _⟩
  simp only [↓VG_u, ↓UG_u, ↓MG_u, ↓NG_u, ↓PG_u, ↓BG_u, ↓CG_u, ↓IG_u, ↓VGtt, ↓VGtf, ↓VGft, ↓VGff, ↓UGtt, ↓UGtf, ↓UGft, ↓UGff, ↓MGtt, ↓MGtf, ↓MGft, ↓MGff, ↓NGtt, ↓NGtf, ↓NGft, ↓NGff, ↓PGtt, ↓PGtf, ↓PGft, ↓PGff, ↓BGtt, ↓BGtf, ↓BGft, ↓BGff, ↓CGtt, ↓CGtf, ↓CGft, ↓CGff, ↓IGtt, ↓IGtf, ↓IGft, ↓IGff, ↓PKt, ↓PKf, ↓CDt, ↓CDf, ↓NOTt, ↓NOTf, ↓NK_ptr, ↓LTf (show (1 : Int) ≤ (l.length : Int) by omega)]
  rw [es, len_sl vPts, ← ev]
  by_cases c2 : (8 : Int) < (l.length : Int)
  · simp only [↓VG_u, ↓UG_u, ↓MG_u, ↓NG_u, ↓PG_u, ↓BG_u, ↓CG_u, ↓IG_u, ↓VGtt, ↓VGtf, ↓VGft, ↓VGff, ↓UGtt, ↓UGtf, ↓UGft, ↓UGff, ↓MGtt, ↓MGtf, ↓MGft, ↓MGff, ↓NGtt, ↓NGtf, ↓NGft, ↓NGff, ↓PGtt, ↓PGtf, ↓PGft, ↓PGff, ↓BGtt, ↓BGtf, ↓BGft, ↓BGff, ↓CGtt, ↓CGtf, ↓CGft, ↓CGff, ↓IGtt, ↓IGtf, ↓IGft, ↓IGff, ↓PKt, ↓PKf, ↓CDt, ↓CDf, ↓NOTt, ↓NOTf, ↓NK_ptr, ↓GTt c2]
    exact ⟨false, rfl, fun q => by simp at q, Mod.refl _ _⟩
  simp only [↓VG_u, ↓UG_u, ↓MG_u, ↓NG_u, ↓PG_u, ↓BG_u, ↓CG_u, ↓IG_u, ↓VGtt, ↓VGtf, ↓VGft, ↓VGff, ↓UGtt, ↓UGtf, ↓UGft, ↓UGff, ↓MGtt, ↓MGtf, ↓MGft, ↓MGff, ↓NGtt, ↓NGtf, ↓NGft, ↓NGff, ↓PGtt, ↓PGtf, ↓PGft, ↓PGff, ↓BGtt, ↓BGtf, ↓BGft, ↓BGff, ↓CGtt, ↓CGtf, ↓CGft, ↓CGff, ↓IGtt, ↓IGtf, ↓IGft, ↓IGff, ↓PKt, ↓PKf, ↓CDt, ↓CDf, ↓NOTt, ↓NOTf, ↓NK_ptr, ↓GTf (show (l.length : Int) ≤ 8 by omega)]
  refine W_loop dispatcherlaw15_may_L0_ok (fun ρ w' => ∃ i : Nat, i ≤ l.length ∧ ρ 3 = .int .i64 i ∧ ρ 0 = v ∧ (∀ p ∈ l.take i, mayPt l.length p = true) ∧ Mod none_ w w') (fun ρ _ => l.length - (intOf (ρ 3)).toNat)
    ⟨0, Nat.zero_le _, rfl, rfl, by simp, Mod.refl _ _⟩ ?_
  rintro ρ w1 ⟨i, hi, e3, e0, hall, hm⟩
  rw [dispatcherlaw15_may_L0_eq]; unfold dispatcherlaw15_may_L0_F
  rw [e3, e0, ev, len_sl vPts, ← ev, BK_lss]
  by_cases hlt : i < l.length
  · rw [decide_eq_true (by omega)]
    refine condT ?_
    have hx : l[i]? = some l[i] := List.getElem?_eq_getElem hlt
    have etk : l.take (i + 1) = l.take i ++ [l[i]] := by rw [List.take_add_one, hx]; rfl
    generalize l[i] = a at *
    refine may_R2 h hm (by omega) (by omega) hx ?_ ?_ ?_
    · exact e0
    · exact e3
    intro ρ' w' s q26 hm'
    rw [sq_n, dispatcherlaw15_may_R3_eq]; unfold dispatcherlaw15_may_R3_F
    rw [q26]
    cases hp : mayPt l.length a with
    | false => exact condT ⟨false, rfl, fun q => by simp at q, hm'⟩
    | true =>
      refine condF ?_
      rw [bk_n, sq_n, dispatcherlaw15_may_R4_eq]; unfold dispatcherlaw15_may_R4_F
      have s3 : ρ' 3 = .int .i64 i := (s 3 (by decide)).trans e3
      rw [s3, BK_add, wrap_i (by omega) (by omega)]
      refine ⟨⟨i + 1, hlt, rfl, (s 0 (by decide)).trans e0, fun x hx' => ?_, hm'⟩, ?_⟩
      · rw [etk] at hx'
        rcases List.mem_append.1 hx' with z | z
        · exact hall x z
        · rw [List.mem_singleton.1 z]; exact hp
      · simp only [sq_n, sq_x, sq_r, bk_n, bk_r, bk_x, rt_r, rt_n, rs_0, rs_t, pk_1, pk_2, up_at, reduceIte, Nat.reduceEqDiff, intOf]; omega
  · obtain rfl : i = l.length := by omega
    rw [decide_eq_false (by omega)]
    refine condF ?_
    rw [sq_x, bk_x, sq_n, dispatcherlaw15_may_R1_eq]; unfold dispatcherlaw15_may_R1_F
    rw [List.take_length] at hall
    exact ⟨true, rfl, fun _ => ⟨by omega, by omega, hall⟩, hm⟩
end
end Go.Proofs.YtandbmnhghmcgaaDoor.Col
set_option linter.unusedVariables false
set_option linter.unusedSimpArgs false
set_option maxRecDepth 8000
namespace Go.X
open Go Go.RowKit
end Go.X
namespace Go.Proofs.YtandbmnhghmcgaaDoor.Col
open Go Go.X Go.RowKit Go.Proofs.YtandbmnhghmcgaaDoor.XF Go.Proofs.YtandbmnhghmcgaaDoor.XG Go.Proofs.YtandbmnhghmcgaaDoor.XI Go.Proofs.YtandbmnhghmcgaaDoor.XK
section
variable {w : World}
end
end Go.Proofs.YtandbmnhghmcgaaDoor.Col
set_option linter.unusedVariables false
set_option linter.unusedSimpArgs false
set_option maxRecDepth 8000
namespace Go.Proofs.YtandbmnhghmcgaaDoor.Col
open Go Go.X Go.RowKit Go.Proofs.YtandbmnhghmcgaaDoor.XF Go.Proofs.YtandbmnhghmcgaaDoor.XG Go.Proofs.YtandbmnhghmcgaaDoor.XI Go.Proofs.YtandbmnhghmcgaaDoor.XK
section
variable {w0 w : World} {p : Nat} {loose : Bool} {l : List Pt} {lacks : Int} {v : Value}
structure AlS (loose : Bool) (v : Value) (lacks : Int) (p : Nat) (ρ : Sl) : Prop where
  h0 : ρ 0 = .bool loose
  h1 : ρ 1 = v
  h2 : ρ 2 = .int .i64 lacks
  h7 : ρ 7 = .pointer (some ⟨p, 0, none⟩)
theorem AlS.of {ρ ρ' : Sl} (h : AlS loose v lacks p ρ) (hs : ∀ i, i < 8 → ρ' i = ρ i) : AlS loose v lacks p ρ' := ⟨(hs 0 (by decide)).trans h.h0, (hs 1 (by decide)).trans h.h1, (hs 2 (by decide)).trans h.h2, (hs 7 (by decide)).trans h.h7⟩
end
end Go.Proofs.YtandbmnhghmcgaaDoor.Col
set_option linter.unusedVariables false
set_option linter.unusedSimpArgs false
set_option maxRecDepth 8000
namespace Go.Proofs.YtandbmnhghmcgaaDoor.Col
open Go Go.X Go.RowKit Go.Proofs.YtandbmnhghmcgaaDoor.XF Go.Proofs.YtandbmnhghmcgaaDoor.XG Go.Proofs.YtandbmnhghmcgaaDoor.XI Go.Proofs.YtandbmnhghmcgaaDoor.XK
section
variable {w0 w : World} {p : Nat} {loose : Bool} {l : List Pt} {lacks : Int} {v : Value}
end
end Go.Proofs.YtandbmnhghmcgaaDoor.Col
set_option linter.unusedVariables false
set_option linter.unusedSimpArgs false
set_option maxRecDepth 8000
namespace Go.Proofs.YtandbmnhghmcgaaDoor.Col
open Go Go.X Go.RowKit Go.Proofs.YtandbmnhghmcgaaDoor.XF Go.Proofs.YtandbmnhghmcgaaDoor.XG Go.Proofs.YtandbmnhghmcgaaDoor.XI Go.Proofs.YtandbmnhghmcgaaDoor.XK
section
variable {w : World}
end
end Go.Proofs.YtandbmnhghmcgaaDoor.Col
set_option linter.unusedVariables false
set_option linter.unusedSimpArgs false
set_option maxRecDepth 8000
namespace Go.X
open Go Go.RowKit
structure Lf (parts : List Pt) (L : List Br) (lf : List Int) : Prop where
  wd : Wd parts.length L
  len : lf.length + L.length = parts.length
  nd : lf.Nodup
  rg : ∀ x ∈ lf, 0 ≤ x ∧ x < parts.length
  pt : ∀ i : Nat, i < parts.length → partsC L [] (i : Int) = if (i : Int) ∈ lf then [] else [parts.getD i zPt]
theorem Lf.init (parts : List Pt) : Lf parts [] (worldL parts.length) :=
  ⟨Wd.nil _, by rw [worldL_len]; rfl, worldL_nodup _, fun x hx => worldL_mem.1 hx, fun i hi => by rw [if_pos (worldL_mem.2 ⟨by omega, by omega⟩)]; rfl⟩
theorem mem_drop1 {lf : List Int} (hn : lf.Nodup) {a : Nat} {r : Int} (hr : lf[a]? = some r) (x : Int) : x ∈ lf.take a ++ lf.drop (a + 1) ↔ x ∈ lf ∧ x ≠ r := by
  have hlt := (List.getElem?_eq_some_iff.1 hr).1
  have e : lf = lf.take a ++ r :: lf.drop (a + 1) := by
    have h := List.take_append_drop a lf
    rw [List.drop_eq_getElem_cons hlt] at h
    have : lf[a] = r := (List.getElem?_eq_some_iff.1 hr).2
    rw [this] at h
    exact h.symm
  have hn' := hn
  rw [e] at hn'
  have hd := List.nodup_append.1 hn'
  constructor
  · intro h
    refine ⟨?_, fun q => ?_⟩
    · rw [e]
      rcases List.mem_append.1 h with z | z
      · exact List.mem_append_left _ z
      · exact List.mem_append_right _ (List.mem_cons_of_mem _ z)
    · subst q
      rcases List.mem_append.1 h with z | z
      · exact hd.2.2 x z x (List.mem_cons_self ..) rfl
      · exact (List.nodup_cons.1 hd.2.1).1 z
  · rintro ⟨h, hne⟩
    rw [e] at h
    rcases List.mem_append.1 h with z | z
    · exact List.mem_append_left _ z
    · rcases List.mem_cons.1 z with z | z
      · exact absurd z hne
      · exact List.mem_append_right _ z
theorem Lf.step {parts : List Pt} {L : List Br} {lf : List Int} (h : Lf parts L lf) {a : Nat} {r : Int} (hr : lf[a]? = some r) : Lf parts (L ++ [⟨[], worldL parts.length, r, parts.getD r.toNat zPt⟩]) (lf.take a ++ lf.drop (a + 1)) := by
  have hlt := (List.getElem?_eq_some_iff.1 hr).1
  have hmem : r ∈ lf := List.mem_of_getElem? hr
  obtain ⟨hr0, hr1⟩ := h.rg r hmem
  have hsub : (lf.take a ++ lf.drop (a + 1)).Sublist lf := by
    have h2 : lf.take a ++ lf.drop a = lf := List.take_append_drop a lf
    have h1 : (lf.take a ++ lf.drop (a + 1)).Sublist (lf.take a ++ lf.drop a) := by
      refine List.Sublist.append (List.Sublist.refl _) ?_
      rw [List.drop_eq_getElem_cons hlt]
      exact List.sublist_cons_self _ _
    rw [h2] at h1
    exact h1
  refine ⟨h.wd.snoc r _, ?_, h.nd.sublist hsub, fun x hx => h.rg x ((mem_drop1 h.nd hr x).1 hx).1, fun i hi => ?_⟩
  · have := h.len
    simp only [List.length_append, List.length_take, List.length_drop, List.length_cons, List.length_nil]
    omega
  · have hp := h.pt i hi
    by_cases e : (i : Int) = r
    · rw [if_neg (fun q => ((mem_drop1 h.nd hr _).1 q).2 e)]
      rw [if_pos (e ▸ hmem)] at hp
      have := partsC_own L ⟨[], worldL parts.length, r, parts.getD r.toNat zPt⟩
      simp only at this
      rw [e, this, ← e, hp]
      simp
    · rw [partsC_far (.inr (by simpa using e)), hp]
      by_cases m : (i : Int) ∈ lf
      · rw [if_pos m, if_pos ((mem_drop1 h.nd hr _).2 ⟨m, e⟩)]
      · rw [if_neg m, if_neg fun q => m ((mem_drop1 h.nd hr _).1 q).1]
theorem Lf.full {parts : List Pt} {L : List Br} {lf : List Int} (h : Lf parts L lf) (hi : CInv L) (hl : lf.length = 0) : FullL parts L := by
  have e : lf = [] := List.eq_nil_of_length_eq_zero hl
  subst e
  exact ⟨h.wd, by have := h.len; simpa using this, hi, fun i hi => by rw [h.pt i hi]; simp⟩
theorem ints_take (l : List Int) (n : Nat) : ints (l.take n) = (ints l).take n := by unfold ints; rw [List.map_take]
theorem ints_drop (l : List Int) (n : Nat) : ints (l.drop n) = (ints l).drop n := by unfold ints; rw [List.map_drop]
theorem ints_app (a b : List Int) : ints (a ++ b) = ints a ++ ints b := by unfold ints; rw [List.map_append]
end Go.X
namespace Go.Proofs.YtandbmnhghmcgaaDoor.Col
open Go Go.X Go.RowKit Go.Proofs.YtandbmnhghmcgaaDoor.XF Go.Proofs.YtandbmnhghmcgaaDoor.XG Go.Proofs.YtandbmnhghmcgaaDoor.XI Go.Proofs.YtandbmnhghmcgaaDoor.XK
theorem cI1 : Tryd.prog.cellsOf tI = 0 + 1 := by kernel_rfl
theorem cut_hiI {w : World} {v : Value} {l : List Int} (h : RR w v l) {i : Nat} (hi : i ≤ l.length) : ∃ v', (∀ w', (Instr.sliceAt tIs v none (some (.int .i64 (i : Int))) none).run Tryd.prog w' = .ok v' w') ∧ RR w v' (l.take i) := by
  obtain ⟨hl, A, c, rfl, hnc, hr⟩ := h
  obtain ⟨z, hz, hzs⟩ := info_of cI1
  have he : Tryd.prog.elem tIs = tI := by simp [Program.elem, vIs]
  refine ⟨sliced A 0 i c 1, fun w' => ?_, ?_⟩
  · rw [run_sliceAt_slice (h := elem_of vIs), run_slice_h w' tIs A _ c (elem_of vIs) .i64 _ (by omega) (by omega), he]
    simp [sizeOf, typeInfo, hz, hzs]
  · refine ⟨by simp [ints, Nat.min_eq_left hi], ?_⟩
    refine ⟨_, _, by simp only [sliced, Nat.sub_zero]; rw [List.length_take, Nat.min_eq_left hi], by rw [List.length_take]; omega, fun k u hku => ?_⟩
    rw [ints_take] at hku
    have hk := (List.getElem?_eq_some_iff.1 hku).1
    rw [List.getElem?_take_of_lt (by rw [List.length_take] at hk; omega)] at hku
    obtain ⟨a, rfl, hcell⟩ := hr k u hku
    have hk2 := (List.getElem?_eq_some_iff.1 hku).1
    have : c ≠ 0 := by simp [ints] at hk2; omega
    refine ⟨a, by simp [this]; try rfl, hcell⟩
theorem cut_loI {w : World} {v : Value} {l : List Int} (h : RR w v l) {i : Nat} (hi : i ≤ l.length) : ∃ v', (∀ w', (Instr.sliceAt tIs v (some (.int .i64 (i : Int))) none none).run Tryd.prog w' = .ok v' w') ∧ RR w v' (l.drop i) := by
  obtain ⟨hl, A, c, rfl, hnc, hr⟩ := h
  obtain ⟨z, hz, hzs⟩ := info_of cI1
  have he : Tryd.prog.elem tIs = tI := by simp [Program.elem, vIs]
  refine ⟨sliced A i l.length c 1, fun w' => ?_, ?_⟩
  · rw [run_sliceAt_slice (h := elem_of vIs), run_slice_l w' tIs A _ c (elem_of vIs) .i64 _ (by omega) (by omega), he]
    simp [sizeOf, typeInfo, hz, hzs]
  · refine ⟨by simp [ints], ?_⟩
    refine ⟨_, _, by simp only [sliced]; rw [List.length_drop], by rw [List.length_drop]; omega, fun k u hku => ?_⟩
    rw [ints_drop, List.getElem?_drop] at hku
    obtain ⟨a, rfl, hcell⟩ := hr _ u hku
    have hk2 := (List.getElem?_eq_some_iff.1 hku).1
    have : c ≠ i := by simp [ints] at hk2; omega
    refine ⟨a.add i, by simp [this], ?_⟩
    rw [add_add]
    exact hcell
end Go.Proofs.YtandbmnhghmcgaaDoor.Col
set_option linter.unusedVariables false
set_option linter.unusedSimpArgs false
set_option maxRecDepth 8000
namespace Go.X
open Go Go.RowKit
theorem HX_of {P : Program} {S : World → Prop} {K : Value → Prop} {vs : Array Value} {i : Nat} {v : Value} (h : vs[i]? = some v) (hk : K v) : HK P S (do pure (Next.value (← Instr.extract (.tuple vs) i))) K :=
  HV_of (v := v) (fun w _ => by simp [Instr.extract, h]) hk
end Go.X
namespace Go.Proofs.YtandbmnhghmcgaaDoor.Col
open Go Go.X Go.RowKit Go.Proofs.YtandbmnhghmcgaaDoor.XF Go.Proofs.YtandbmnhghmcgaaDoor.XG Go.Proofs.YtandbmnhghmcgaaDoor.XI Go.Proofs.YtandbmnhghmcgaaDoor.XK
section
variable {w0 w w' : World} {p : Nat} {loose : Bool} {L : List Br} {V V' : CV}
theorem all_R6 {K : Exit → Sl → World → Prop} {ρ : Sl} {v : Value} {l : List Pt} {r : Int} {q : Pt} (h : PtsR w0 v l) (hc : Cs w0 w p loose L V) (hL : L.length ≤ 1000000) (h1 : 1 ≤ l.length) (h8 : l.length ≤ 8) (hr0 : 0 ≤ r) (hi : l[r.toNat]? = some q) (q0 : ρ 0 = .pointer (some ⟨p, 0, none⟩)) (q1 : ρ 1 = .int .i64 l.length) (q2 : ρ 2 = v) (q13 : ρ 13 = .int .i64 r)
    (hK : ∀ (ρ' : Sl) (w' : World) V', (∀ i, i < 14 → ρ' i = ρ i) → ρ' 14 = .int .i64 (bringC L ⟨[], worldL l.length, r, q⟩).2.1 → ρ' 15 = .int .i64 (bringC L ⟨[], worldL l.length, r, q⟩).2.2 → Cs w0 w' p loose (bringC L ⟨[], worldL l.length, r, q⟩).1 V' → CFr p w V w' V' → K .normal ρ' w') : W fn_ Tryd.prog 76 dispatcherlaw15_all_R6 K ρ w := by
  have hdw : Mod none_ w { w with drawn := w.drawn + 1 } := (Mod.refl _ w).drawn _
  have hd : Mod none_ w0 { w with drawn := w.drawn + 1 } := hc.mod.trans hdw
  refine dispatcherlaw15_all_R6_held (D := []) (fun w' => Mod none_ w0 w') hd ?_
  generalize ({ w with drawn := w.drawn + 1 } : World) = wd at *
  unfold dispatcherlaw15_all_R6_H dispatcherlaw15_all_R6_H0
  rw [q0, q1, q2, q13]
  obtain ⟨g, hix, hat⟩ := pts_at h hi
  rw [Int.toNat_of_nonneg hr0] at hix
  refine HV_of (fun w' _ => hix w') (HV_of (fun w' hw => pt_ld (hat w' hw)) ?_)
  refine CK_st Tryd.func30 rfl rfl (ranks_ok h1 (by omega)) ?_
  rintro _ w2 ⟨rv, rfl, ho, hm2⟩
  refine ⟨hd.trans hm2, ?_⟩
  have hwl := worldL_len l.length
  have hRR : RR w2 rv (worldL l.length) := by
    have := reads_of_owns ho
    unfold RR
    rw [hwl]
    exact this
  have hc2 := (hc.calm hdw).calm hm2
  refine CK_st Tryd.func12 rfl rfl (Bring_ok (b := ⟨[], worldL l.length, r, q⟩) hc2.at_ hL hRR (by show (worldL l.length).length ≤ 1000; omega)) ?_
  rintro _ w3 ⟨rfl, V', hA, hf⟩
  have hc3 := hc2.put hA hf
  refine ⟨hc3.mod, HX_of rfl (HX_of rfl ?_)⟩
  unfold dispatcherlaw15_all_R6_H1
  refine hK _ _ V' (fun i hi => ?_) rfl rfl hc3 ((CFr.calm (hdw.trans hm2)).trans hf)
  repeat rw [up_at, if_neg (by omega)]
theorem all_R8' {K : Exit → Sl → World → Prop} {ρ : Sl} {B a : Nat} {lv : Value} {lf : List Int} (ho : w.ownsRow B tI 1 lv lf.length (ints lf)) (hB : B ≤ w.heap.size) (hl : lf.length ≤ 1000) (ha : a < lf.length) (q9 : ρ 9 = lv) (q12 : ρ 12 = .int .i64 a)
    (hK : ∀ (ρ' : Sl) (w' : World) lv', (∀ i, i < 9 → ρ' i = ρ i) → ρ' 11 = ρ 11 → ρ' 9 = lv' → w'.ownsRow B tI 1 lv' (lf.take a ++ lf.drop (a + 1)).length (ints (lf.take a ++ lf.drop (a + 1))) → Mod none_ w w' → K .normal ρ' w') : W fn_ Tryd.prog 76 dispatcherlaw15_all_R8 K ρ w := by
  have hd : Mod none_ w { w with drawn := w.drawn + 1 } := (Mod.refl _ w).drawn _
  refine dispatcherlaw15_all_R8_held (D := []) (fun w' => Mod none_ w w') hd ?_
  generalize ({ w with drawn := w.drawn + 1 } : World) = wd at *
  unfold dispatcherlaw15_all_R8_H
  rw [q9, q12]
  have hR : RR w lv lf := reads_of_owns ho
  obtain ⟨u1, hu1, hr1⟩ := cut_hiI hR (Nat.le_of_lt ha)
  obtain ⟨u2, hu2, hr2⟩ := cut_loI hR (show a + 1 ≤ lf.length by omega)
  refine HV_of (fun w' _ => hu1 w') (Hadd ?_)
  rw [wrap_i (by omega) (by omega)]
  refine HV_of (fun w' _ => hu2 w') ?_
  refine bs0_k (n := 1) vIs (by kernel_rfl) fun w2 hb2 hm2 hz2 => ?_
  have hm02 := hd.trans hm2
  refine ⟨hm02, ?_⟩
  have ho0 : w2.ownsRow wd.heap.size tI 1 (.slice (some ⟨wd.heap.size, 0, none⟩) 0 0) 0 [] := owns_zero hb2 (Nat.le_refl _)
  refine ap_any eIs ho0 (hr1.calm hm02) (fun u hu => ints_one _ u hu) (by rw [List.length_take]; unfold maxLen; omega) (by rw [List.length_take]; omega) (by omega) fun v3 w3 ho3 hm3 hv3 => ?_
  have hm23 : Mod none_ wd w3 := hm2.then hm3 fun i hi z => by
    have : i = wd.heap.size := by
      have := Option.some.inj (show some i = some wd.heap.size from z)
      exact this
    omega
  have hm03 := hd.trans hm23
  refine ⟨hm03, ?_⟩
  refine ap_any eIs ho3 (hr2.calm hm03) (fun u hu => ints_one _ u hu) (by rw [List.length_take, List.length_drop]; unfold maxLen; omega) (by rw [List.length_take, List.length_drop]; omega) (Nat.le_trans (by omega) hm3.size) fun v4 w4 ho4 hm4 hv4 => ?_
  have hm04 : Mod none_ w w4 := hm03.then hm4 fun i hi z => by
    have := (owns_bd ho3 i z.symm).1
    have := hd.size
    omega
  refine ⟨hm04, hK _ w4 v4 (fun i hi => ?_) rfl rfl ?_ hm04⟩
  · repeat rw [up_at, if_neg (by omega)]
  · have hs := hd.size
    rw [ints_app, List.length_append]
    have := owns_base ho4 (show B ≤ wd.heap.size by omega)
    simpa using this
end
end Go.Proofs.YtandbmnhghmcgaaDoor.Col
set_option linter.unusedVariables false
set_option linter.unusedSimpArgs false
set_option maxRecDepth 8000
namespace Go.X
open Go Go.RowKit
def u8L (l : List Int) : List Value := l.map fun n => .int .u8 n
theorem fill_step {n i : Nat} (h : i < n) : (ints (worldL i) ++ List.replicate (n - i) (Value.int .i64 0)).set i (.int .i64 (i : Int)) = ints (worldL (i + 1)) ++ List.replicate (n - (i + 1)) (Value.int .i64 0) := by
  have hl : (ints (worldL i)).length = i := by simp [ints, worldL_len]
  rw [List.set_append_right _ _ (by omega), hl, Nat.sub_self, show n - i = (n - (i + 1)) + 1 by omega, List.replicate_succ, List.set_cons_zero]
  have : worldL (i + 1) = worldL i ++ [(i : Int)] := by
    unfold worldL
    rw [List.range_succ, List.map_append]; rfl
  rw [this, ints_app, List.append_assoc]
  rfl
end Go.X
namespace Go.Proofs.YtandbmnhghmcgaaDoor.Col
open Go Go.X Go.RowKit Go.Proofs.YtandbmnhghmcgaaDoor.XF Go.Proofs.YtandbmnhghmcgaaDoor.XG Go.Proofs.YtandbmnhghmcgaaDoor.XI Go.Proofs.YtandbmnhghmcgaaDoor.XK
abbrev tU8s : TypeId := 66
theorem vU8s : Tryd.prog.underlying tU8s = some (.slice 5) := Tryd.underlying66
theorem iI0 : (Tryd.prog.info? tI).map (fun i => (i.zero, i.size, i.bytes)) = some (some (.int .i64 0), 1, 8) := by kernel_rfl
section
variable {w0 w : World} {p : Nat} {loose : Bool} {L : List Br} {V : CV}
structure AoS (p n : Nat) (v tv : Value) (ρ : Sl) : Prop where
  h0 : ρ 0 = .pointer (some ⟨p, 0, none⟩)
  h1 : ρ 1 = .int .i64 n
  h2 : ρ 2 = v
  h3 : ρ 3 = tv
theorem AoS.of {n : Nat} {v tv : Value} {ρ ρ' : Sl} (h : AoS p n v tv ρ) (hs : ∀ i, i < 4 → ρ' i = ρ i) : AoS p n v tv ρ' := ⟨(hs 0 (by decide)).trans h.h0, (hs 1 (by decide)).trans h.h1, (hs 2 (by decide)).trans h.h2, (hs 3 (by decide)).trans h.h3⟩
theorem AoS.same {n : Nat} {v tv : Value} {ρ ρ' : Sl} (h : AoS p n v tv ρ) (h0 : ρ' 0 = ρ 0) (h1 : ρ' 1 = ρ 1) (h2 : ρ' 2 = ρ 2) (h3 : ρ' 3 = ρ 3) : AoS p n v tv ρ' := ⟨h0.trans h.h0, h1.trans h.h1, h2.trans h.h2, h3.trans h.h3⟩
def AllP (w0 w : World) (p : Nat) (loose : Bool) (l : List Pt) (V : CV) : Value → World → Prop := fun u w' => u = .bool true ∧ ∃ L' V', FullL l L' ∧ Cs w0 w' p loose L' V' ∧ CFr p w V w' V'
theorem all_R4o {N : Sl → World → Prop} {K0 : Exit → Sl → World → Prop} {ρ : Sl} {v tv : Value} {l : List Pt} {V1 : CV} {wa : World} {i a : Nat} {lf : List Int} {lv : Value} (h : PtsR w0 v l) (h1 : 1 ≤ l.length) (h8 : l.length ≤ 8) (hm : ∀ q ∈ l, mayPt l.length q = true)
    (hLf : Lf l L lf) (hc : Cs w0 w p loose L V1) (hfr : CFr p wa V w V1) (ho : w.ownsRow wa.heap.size tI 1 lv lf.length (ints lf)) (hB : wa.heap.size ≤ w.heap.size) (ha : a < lf.length) (hi : L.length = i) (es : AoS p l.length v tv ρ) (q9 : ρ 9 = lv) (q11 : ρ 11 = .int .i64 i) (q12 : ρ 12 = .int .i64 a)
    (hN : ∀ (ρ' : Sl) (w' : World) L' V' lf' lv', Lf l L' lf' → Cs w0 w' p loose L' V' → CFr p wa V w' V' → w'.ownsRow wa.heap.size tI 1 lv' lf'.length (ints lf') → wa.heap.size ≤ w'.heap.size → L'.length = i + 1 → AoS p l.length v tv ρ' → ρ' 9 = lv' → ρ' 11 = .int .i64 (i + 1 : Nat) → N ρ' w') :
    sx fn_ Tryd.prog 76 dispatcherlaw15_all_R4 (blkK 3 (seqK (sx fn_ Tryd.prog 76 dispatcherlaw15_all_R5 (seqK N K0)) (seqK N K0))) ρ w := by
  rw [dispatcherlaw15_all_R4_eq]; unfold dispatcherlaw15_all_R4_F
  rw [q9, q12]
  have hx : lf[a]? = some lf[a] := List.getElem?_eq_getElem ha
  generalize lf[a] = r at *
  obtain ⟨p1, r1, l1⟩ := ixR (reads_of_owns ho : RR w lv lf) hx
  refine VK_of (r1 w) (VK_of (l1 w (Mod.refl _ _)) ?_)
  obtain ⟨hr0, hr1⟩ := hLf.rg r (List.mem_of_getElem? hx)
  have hll : lf.length ≤ 8 := by have := hLf.len; omega
  have hLl : L.length ≤ 8 := by have := hLf.len; omega
  have hq : l[r.toNat]? = some (l.getD r.toNat zPt) := by
    rw [List.getD_eq_getElem?_getD, List.getElem?_eq_getElem (by omega)]; rfl
  have hbr := hLf.wd.bring h1 (by omega) (worldL_mem.2 ⟨hr0, hr1⟩) (hm _ (List.mem_of_getElem? hq))
  have h0 : ((partsC L [] r).length : Int) = 0 := by
    have := hLf.pt r.toNat (by omega)
    rw [Int.toNat_of_nonneg hr0, if_pos (List.mem_of_getElem? hx)] at this
    rw [this]; rfl
  refine all_R6 h hc (by omega) h1 h8 hr0 hq ?_ ?_ ?_ rfl ?_
  · exact es.h0
  · exact es.h1
  · exact es.h2
  intro ρ2 w2 V2 s2 z14 z15 hc2 hf2
  rw [hbr] at z14 z15 hc2
  simp only at z14 z15 hc2
  rw [sq_n, dispatcherlaw15_all_R7_eq]; unfold dispatcherlaw15_all_R7_F
  rw [z14, z15, h0]
  simp only [↓VG_u, ↓UG_u, ↓MG_u, ↓NG_u, ↓PG_u, ↓BG_u, ↓CG_u, ↓IG_u, ↓VGtt, ↓VGtf, ↓VGft, ↓VGff, ↓UGtt, ↓UGtf, ↓UGft, ↓UGff, ↓MGtt, ↓MGtf, ↓MGft, ↓MGff, ↓NGtt, ↓NGtf, ↓NGft, ↓NGff, ↓PGtt, ↓PGtf, ↓PGft, ↓PGff, ↓BGtt, ↓BGtf, ↓BGft, ↓BGff, ↓CGtt, ↓CGtf, ↓CGft, ↓CGff, ↓IGtt, ↓IGtf, ↓IGft, ↓IGff, ↓PKt, ↓PKf, ↓CDt, ↓CDf, ↓NOTt, ↓NOTf, ↓NK_ptr, ↓NEf (show (0 : Int) = 0 from rfl)]
  have ho2 := keepR hc.at_ hf2 ho
  have hB2 : wa.heap.size ≤ w2.heap.size := Nat.le_trans hB hf2.mod.size
  refine all_R8' ho2 hB2 (by omega) ha ?_ ?_ ?_
  · exact (s2 9 (by decide)).trans q9
  · exact (s2 12 (by decide)).trans q12
  intro ρ3 w3 lv' s3 z11 z9 ho3 hm3
  rw [bk_n, sq_n, dispatcherlaw15_all_R5_eq]; unfold dispatcherlaw15_all_R5_F
  have y11 : ρ3 11 = .int .i64 i := by
    rw [z11]
    exact (s2 11 (by decide)).trans q11
  have hil : i ≤ 8 := by omega
  rw [y11, BK_add, wrap_i (by omega) (by omega)]
  refine hN _ w3 _ V2 _ lv' (hLf.step hx) (hc2.calm hm3) ((hfr.trans hf2).trans (CFr.calm hm3)) ho3 (Nat.le_trans hB2 hm3.size) (by simp [hi]) ?_ z9 rfl
  refine es.of fun i hi => ?_
  have : ρ3 i = ρ2 i := by
    rw [s3 i (by omega)]
    repeat rw [up_at, if_neg (by omega)]
  rw [up_at, if_neg (by omega), up_at, if_neg (by omega), up_at, if_neg (by omega), this, s2 i (by omega)]
  repeat rw [up_at, if_neg (by omega)]
end
end Go.Proofs.YtandbmnhghmcgaaDoor.Col
set_option linter.unusedVariables false
set_option linter.unusedSimpArgs false
set_option maxRecDepth 8000
namespace Go.Proofs.YtandbmnhghmcgaaDoor.Col
open Go Go.X Go.RowKit Go.Proofs.YtandbmnhghmcgaaDoor.XF Go.Proofs.YtandbmnhghmcgaaDoor.XG Go.Proofs.YtandbmnhghmcgaaDoor.XI Go.Proofs.YtandbmnhghmcgaaDoor.XK
structure Trn (w : World) (tv : Value) (ts : List Int) : Prop where
  row : reads w 1 tv ts.length (u8L ts)
  lo : ∀ t ∈ ts, 0 ≤ t ∧ t ≤ 255
theorem Trn.calm {w w' : World} {tv : Value} {ts : List Int} (h : Trn w tv ts) (hm : Mod none_ w w') : Trn w' tv ts := ⟨reads_mod h.row hm (fun _ _ _ => id), h.lo⟩
section
variable {w0 w : World} {p : Nat} {loose : Bool} {V : CV}
theorem all_ok {v tv : Value} {l : List Pt} {ts : List Int} (h : PtsR w0 v l) (ht : Trn w0 tv ts) (h1 : 1 ≤ l.length) (h8 : l.length ≤ 8) (hm : ∀ q ∈ l, mayPt l.length q = true) (hc : Cs w0 w p loose [] V) :
    Rt Tryd.prog 32 #[.pointer (some ⟨p, 0, none⟩), .int .i64 (l.length : Int), v, tv] w (AllP w0 w p loose l V) := by
  refine dispatcherlaw15_all_calls ?_
  unfold dispatcherlaw15_all_F
  refine mk1_k vIs iI0 (by omega) rfl (by omega) fun w1 hb1 hm1 hz1 => ?_
  have hrow1 : w1.ownsRow w.heap.size tI 1 (.slice (some ⟨w.heap.size, 0, none⟩) l.length l.length) l.length (List.replicate l.length (.int .i64 0)) := ⟨by simp, .inr ⟨w.heap.size, _, _, rfl, Nat.le_refl _, hb1, Nat.le_refl _, by unfold maxLen; omega, by simp, by simp⟩⟩
  have hc1 := hc.calm hm1
  refine W_loop dispatcherlaw15_all_L0_ok (fun ρ w' => ∃ i : Nat, i ≤ l.length ∧ ρ 10 = .int .i64 i ∧ ρ 9 = .slice (some ⟨w.heap.size, 0, none⟩) l.length l.length ∧ AoS p l.length v tv ρ ∧ w'.ownsRow w.heap.size tI 1 (.slice (some ⟨w.heap.size, 0, none⟩) l.length l.length) l.length (ints (worldL i) ++ List.replicate (l.length - i) (.int .i64 0)) ∧ Mod none_ w w') (fun ρ _ => l.length - (intOf (ρ 10)).toNat)
    ⟨0, Nat.zero_le _, rfl, rfl, ⟨rfl, rfl, rfl, rfl⟩, by simpa [worldL, ints] using hrow1, hm1⟩ ?_
  rintro ρ w2 ⟨i, hi, e10, e9, es, ho, hm2⟩
  rw [dispatcherlaw15_all_L0_eq]; unfold dispatcherlaw15_all_L0_F
  rw [e10, e9, es.h1, BK_lss]
  by_cases hlt : i < l.length
  · rw [decide_eq_true (by omega)]
    refine condT ?_
    refine VK_of (v := .pointer (some ⟨w.heap.size, i, none⟩)) (by rw [run_ixa (sz := 0) vIs cI1 (by omega) (by omega) w2, add_pl]; congr 4; omega) ?_
    refine st_row (by kernel_rfl) rfl ho (k := i) (by omega) fun w3 ho3 hm3 => ?_
    rw [BK_add, wrap_i (by omega) (by omega)]
    refine ⟨⟨i + 1, hlt, rfl, e9, es.of fun i hi => by repeat rw [up_at, if_neg (by omega)], by rw [fill_step hlt] at ho3; exact ho3, hm2.then hm3 fun i hi z => by omega⟩, ?_⟩
    simp only [sq_n, sq_x, sq_r, bk_n, bk_r, bk_x, rt_r, rt_n, rs_0, rs_t, pk_1, pk_2, up_at, reduceIte, Nat.reduceEqDiff, intOf]; omega
  obtain rfl : i = l.length := by omega
  rw [decide_eq_false (by omega)]
  refine condF ?_
  rw [sq_x, bk_x, sq_n, dispatcherlaw15_all_R1_eq]; unfold dispatcherlaw15_all_R1_F
  rw [Nat.sub_self, List.replicate_zero, List.append_nil] at ho
  obtain ⟨lv, hlv⟩ : ∃ lv, lv = Value.slice (some ⟨w.heap.size, 0, none⟩) l.length l.length := ⟨_, rfl⟩
  rw [← hlv] at ho e9
  obtain ⟨At, ct, et, _⟩ := reads_cap ht.row
  refine W_loop dispatcherlaw15_all_L2_ok (fun ρ w' => ∃ (i : Nat) (lf : List Int) (L : List Br) (V' : CV) (lv : Value), Lf l L lf ∧ L.length = i ∧ ρ 11 = .int .i64 i ∧ ρ 9 = lv ∧ AoS p l.length v tv ρ ∧ w'.ownsRow w.heap.size tI 1 lv lf.length (ints lf) ∧ Cs w0 w' p loose L V' ∧ CFr p w V w' V' ∧ w.heap.size ≤ w'.heap.size) (fun ρ _ => l.length - (intOf (ρ 11)).toNat)
    ⟨0, worldL l.length, [], V, lv, Lf.init l, rfl, rfl, e9, es.of fun i hi => by repeat rw [up_at, if_neg (by omega)], by rw [worldL_len]; exact ho, hc.calm hm2, CFr.calm hm2, hm2.size⟩ ?_
  rintro ρ w3 ⟨i, lf, L, V', lv, hLf, hi, e11, e9, es, ho, hc3, hf3, hB⟩
  have hlen := hLf.len
  rw [dispatcherlaw15_all_L2_eq]; unfold dispatcherlaw15_all_L2_F
  rw [e11, es.h1, es.h3, e9, BK_lss]
  by_cases hlt : i < l.length
  · rw [decide_eq_true (by omega)]
    refine condT ?_
    obtain ⟨A9, c9, e9', _⟩ := reads_cap (reads_of_owns ho : RR w3 lv lf)
    rw [et, len_sl vU8s, ← et, BK_lss]
    have nxt : ∀ (ρ' : Sl) (w' : World) L' V' lf' lv', Lf l L' lf' → Cs w0 w' p loose L' V' → CFr p w V w' V' → w'.ownsRow w.heap.size tI 1 lv' lf'.length (ints lf') → w.heap.size ≤ w'.heap.size → L'.length = i + 1 → AoS p l.length v tv ρ' → ρ' 9 = lv' → ρ' 11 = .int .i64 (i + 1 : Nat) → (∃ (i : Nat) (lf : List Int) (L : List Br) (V' : CV) (lv : Value), Lf l L lf ∧ L.length = i ∧ ρ' 11 = .int .i64 i ∧ ρ' 9 = lv ∧ AoS p l.length v tv ρ' ∧ w'.ownsRow w.heap.size tI 1 lv lf.length (ints lf) ∧ Cs w0 w' p loose L V' ∧ CFr p w V w' V' ∧ w.heap.size ≤ w'.heap.size) ∧ l.length - (intOf (ρ' 11)).toNat < l.length - (intOf (.int .i64 (i : Int))).toNat := by
      intro ρ' w' L' V' lf' lv' a1 a2 a3 a4 a5 a6 a7 a8 a9
      refine ⟨⟨i + 1, lf', L', V', lv', a1, a6, a9, a8, a7, a4, a2, a3, a5⟩, ?_⟩
      rw [a9]
      simp only [intOf]; omega
    by_cases ct : i < ts.length
    · rw [decide_eq_true (by omega)]
      refine condT ?_
      have hx : ts[i]? = some ts[i] := List.getElem?_eq_getElem ct
      have hmem : ts[i] ∈ ts := List.getElem_mem ct
      generalize ts[i] = t at *
      obtain ⟨t0, t1⟩ := ht.lo t hmem
      refine ixld vU8s (by kernel_rfl) vU8 rfl (reads_mod ht.row hc3.mod (fun _ _ _ => id)) (by omega) (u := .int .u8 t) (by rw [Int.toNat_natCast]; unfold u8L; rw [List.getElem?_map, hx]; rfl) fun y => ?_
      rw [conv_k (k := .i64) (by kernel_rfl) (by kernel_rfl), wrap_i (by omega) (by omega), e9', len_sl vIs, ← e9', BK_rem (by omega)]
      have hmod : t.tmod (lf.length : Int) = ((t.toNat % lf.length : Nat) : Int) := by
        rw [Int.tmod_eq_emod_of_nonneg t0]
        have : ((t.toNat : Nat) : Int) = t := Int.toNat_of_nonneg t0
        rw [← this]
        simp
      rw [hmod]
      refine all_R4o (a := t.toNat % lf.length) h h1 h8 hm hLf hc3 hf3 ho hB (Nat.mod_lt _ (by omega)) hi (es.of fun i hi => by repeat rw [up_at, if_neg (by omega)]) ?_ ?_ rfl nxt
      · exact e9
      · exact e11
    · rw [decide_eq_false (by omega)]
      refine condF ?_
      refine all_R4o (a := 0) h h1 h8 hm hLf hc3 hf3 ho hB (by omega) hi (es.of fun i hi => by repeat rw [up_at, if_neg (by omega)]) ?_ ?_ rfl nxt
      · exact e9
      · exact e11
  · rw [decide_eq_false (by omega)]
    refine condF ?_
    rw [sq_x, bk_x, sq_n, dispatcherlaw15_all_R3_eq]; unfold dispatcherlaw15_all_R3_F
    exact ⟨rfl, L, V', hLf.full hc3.at_.inv (by omega), hc3, hf3⟩
end
end Go.Proofs.YtandbmnhghmcgaaDoor.Col
set_option linter.unusedVariables false
set_option linter.unusedSimpArgs false
set_option maxRecDepth 8000
namespace Go.X
open Go Go.RowKit
theorem FullL.clr {l : List Pt} {L : List Br} (h : FullL l L) (hc : ∀ q ∈ l, -9223372036854775808 ≤ q.color ∧ q.color ≤ 9223372036854775807) : ∀ b ∈ L, -9223372036854775808 ≤ b.p.color ∧ b.p.color ≤ 9223372036854775807 := by
  intro b hb
  obtain ⟨hk, hr⟩ := h.wd.all b hb
  have hrk := (h.inv.ok b hb).2.1
  rw [hr] at hrk
  obtain ⟨h0, h1⟩ := worldL_mem.1 hrk
  have hp := h.pt b.rank.toNat (by omega)
  rw [Int.toNat_of_nonneg h0] at hp
  have hm : b.p ∈ partsC L [] b.rank := by
    unfold partsC
    refine List.mem_map.2 ⟨b, List.mem_filter.2 ⟨hb, ?_⟩, rfl⟩
    simp [atK, hk]
  rw [hp, List.mem_singleton] at hm
  rw [hm]
  refine hc _ ?_
  rw [List.getD_eq_getElem?_getD, List.getElem?_eq_getElem (by omega)]
  exact List.getElem_mem _
theorem FullL.key {l : List Pt} {L : List Br} (h : FullL l L) : ∀ b ∈ L, b.key.length ≤ 1000000 := fun b hb => by rw [(h.wd.all b hb).1]; simp
end Go.X
namespace Go.Proofs.YtandbmnhghmcgaaDoor.Col
open Go Go.X Go.RowKit Go.Proofs.YtandbmnhghmcgaaDoor.XF Go.Proofs.YtandbmnhghmcgaaDoor.XG Go.Proofs.YtandbmnhghmcgaaDoor.XI Go.Proofs.YtandbmnhghmcgaaDoor.XK
section
variable {w : World}
theorem owns_max {B : Nat} {e : TypeId} {s : Nat} {v : Value} {n : Nat} {xs : List Value} (h : w.ownsRow B e s v n xs) : n ≤ maxLen := by
  obtain ⟨_, ⟨_, rfl⟩ | ⟨g, cap, cur, _, _, _, hn, hm, _⟩⟩ := h
  · exact Nat.zero_le _
  · exact Nat.le_trans hn hm
theorem TdAt.max {B : Nat} {v : Value} {t : Td} (h : TdAt w B v t) : t.row.length ≤ maxLen ∧ t.ranks.length ≤ maxLen := by
  obtain ⟨row, rks, _, h1, h2⟩ := h
  exact ⟨owns_max h1, owns_max h2⟩
theorem TdAt.one {B : Nat} {v : Value} {t : Td} (h : TdAt w B v t) : ∃ row rks, v = .agg (tdCells t row rks) ∧ (tdCells t row rks).all (·.oneCell') = true := by
  obtain ⟨row, rks, e, h1, h2⟩ := h
  obtain ⟨A1, c1, e1, _⟩ := reads_cap (reads_of_owns h1)
  obtain ⟨A2, c2, e2, _⟩ := reads_cap (reads_of_owns h2)
  exact ⟨row, rks, e, by rw [e1, e2]; exact td_one _ _ _ _ _ _ _⟩
structure OrS (a b : Nat) (v : Value) (ρ : Sl) : Prop where
  h1 : ρ 1 = v
  h9 : ρ 9 = .pointer (some ⟨a, 0, none⟩)
  h10 : ρ 10 = .pointer (some ⟨b, 0, none⟩)
theorem order_R1 {w0 : World} {ρ : Sl} {p q : Nat} {loose : Bool} {v : Value} {l : List Pt} {A B : List Br} {VA VB : CV} (hgl : Gl w0) (h : PtsR w0 v l) (h1 : 1 ≤ l.length) (h8 : l.length ≤ 8) (hcl : ∀ q ∈ l, -9223372036854775808 ≤ q.color ∧ q.color ≤ 9223372036854775807)
    (hA : FullL l A) (hB : FullL l B) (ca : Cs w0 w p loose A VA) (cb : Cs w0 w q loose B VB) (es : OrS p q v ρ) :
    sx fn_ Tryd.prog 77 dispatcherlaw15_CollOrder_R1 (retK Tryd.prog [ResultVar.tmp 8] fun u w' => u = .bool true ∧ Mod none_ w0 w') ρ w := by
  rw [dispatcherlaw15_CollOrder_R1_eq]; unfold dispatcherlaw15_CollOrder_R1_F
  refine W_loop dispatcherlaw15_CollOrder_L2_ok (fun ρ w' => ∃ i : Nat, i ≤ l.length ∧ ρ 11 = .int .i64 i ∧ OrS p q v ρ ∧ Mod none_ w w') (fun ρ _ => l.length - (intOf (ρ 11)).toNat)
    ⟨0, Nat.zero_le _, rfl, ⟨es.h1, es.h9, es.h10⟩, Mod.refl _ _⟩ ?_
  rintro ρ w1 ⟨i, hi, e11, es, hm1⟩
  obtain ⟨Av, cv, ev, _⟩ := reads_cap h
  rw [dispatcherlaw15_CollOrder_L2_eq]; unfold dispatcherlaw15_CollOrder_L2_F
  rw [e11, es.h1, es.h9, es.h10, ev, len_sl vPts, ← ev, BK_lss]
  by_cases hlt : i < l.length
  · rw [decide_eq_true (by omega)]
    refine condT ?_
    have ca1 := ca.calm hm1
    have hAl := hA.len
    have hBl := hB.len
    refine CK_st Tryd.func27 rfl rfl (Told_ok ca1.at_ (hgl.calm ca1.mod) (by omega) hA.key (hA.clr hcl) [] i 0) ?_
    rintro _ w2 ⟨u, rfl, hu, hm2⟩
    obtain ⟨row, rks, eu, ho1⟩ := hu.one
    have hmx := hu.max
    have hR := hu.R
    rw [extract_ok (v := u) rfl, extract_ok (v := .bool (toldC loose A [] i 0).2) rfl, eu]
    refine lcl_k (cs := tdCells (toldC loose A [] i 0).1 row rks) zTd_z _ iTd rfl ho1 fun w3 hb3 hm3 hz3 => ?_
    have cb3 := ((cb.calm hm1).calm hm2).calm hm3
    refine CK_st Tryd.func27 rfl rfl (Told_ok cb3.at_ (hgl.calm cb3.mod) (by omega) hB.key (hB.clr hcl) [] i 0) ?_
    rintro _ w4 ⟨u', rfl, hu', hm4⟩
    obtain ⟨row', rks', eu', ho1'⟩ := hu'.one
    have hR' := hu'.R
    rw [extract_ok (v := u') rfl, extract_ok (v := .bool (toldC loose B [] i 0).2) rfl, eu']
    refine lcl_k (cs := tdCells (toldC loose B [] i 0).1 row' rks') zTd_z _ iTd rfl ho1' fun w5 hb5 hm5 hz5 => ?_
    rw [← hA.same h1 hB loose i 0]
    rw [BK_neqB vB, show (!((toldC loose A [] i 0).2 == (toldC loose A [] i 0).2)) = false by simp]
    simp only [↓VG_u, ↓UG_u, ↓MG_u, ↓NG_u, ↓PG_u, ↓BG_u, ↓CG_u, ↓IG_u, ↓VGtt, ↓VGtf, ↓VGft, ↓VGff, ↓UGtt, ↓UGtf, ↓UGft, ↓UGff, ↓MGtt, ↓MGtf, ↓MGft, ↓MGff, ↓NGtt, ↓NGtf, ↓NGft, ↓NGff, ↓PGtt, ↓PGtf, ↓PGft, ↓PGff, ↓BGtt, ↓BGtf, ↓BGft, ↓BGff, ↓CGtt, ↓CGtf, ↓CGft, ↓CGff, ↓IGtt, ↓IGtf, ↓IGft, ↓IGff, ↓PKt, ↓PKf, ↓CDt, ↓CDf, ↓NOTt, ↓NOTf, ↓NK_ptr]
    have hb35 := (hm4.trans hm5).blk hb3 id
    refine ldS (cs := tdCells _ row rks) rfl Tryd.underlying57 rfl iTd hb35 ?_
    refine ldS (cs := tdCells _ row' rks') rfl Tryd.underlying57 rfl iTd hb5 ?_
    rw [← eu, ← eu']
    rw [← hA.same h1 hB loose i 0] at hR'
    refine CK_st Tryd.func28 rfl rfl (Same15_ok (hR.calm (hm3.trans (hm4.trans hm5))) (hR'.calm hm5) hmx.1 hmx.2) ?_
    rintro _ w6 ⟨rfl, hm6⟩
    rw [sameTd_iff.2 rfl]
    simp only [↓VG_u, ↓UG_u, ↓MG_u, ↓NG_u, ↓PG_u, ↓BG_u, ↓CG_u, ↓IG_u, ↓VGtt, ↓VGtf, ↓VGft, ↓VGff, ↓UGtt, ↓UGtf, ↓UGft, ↓UGff, ↓MGtt, ↓MGtf, ↓MGft, ↓MGff, ↓NGtt, ↓NGtf, ↓NGft, ↓NGff, ↓PGtt, ↓PGtf, ↓PGft, ↓PGff, ↓BGtt, ↓BGtf, ↓BGft, ↓BGff, ↓CGtt, ↓CGtf, ↓CGft, ↓CGff, ↓IGtt, ↓IGtf, ↓IGft, ↓IGff, ↓PKt, ↓PKf, ↓CDt, ↓CDf, ↓NOTt, ↓NOTf, ↓NK_ptr]
    rw [dispatcherlaw15_CollOrder_R4_eq]; unfold dispatcherlaw15_CollOrder_R4_F
    refine condF ?_
    rw [bk_n, sq_n, dispatcherlaw15_CollOrder_R5_eq]; unfold dispatcherlaw15_CollOrder_R5_F
    simp only [sq_n, sq_x, sq_r, bk_n, bk_r, bk_x, rt_r, rt_n, rs_0, rs_t, pk_1, pk_2, up_at, reduceIte, Nat.reduceEqDiff, e11]
    rw [BK_add, wrap_i (by omega) (by omega)]
    refine ⟨⟨i + 1, hlt, rfl, ⟨es.h1, es.h9, es.h10⟩, hm1.trans ((hm2.trans hm3).trans ((hm4.trans hm5).trans hm6))⟩, ?_⟩
    simp only [sq_n, sq_x, sq_r, bk_n, bk_r, bk_x, rt_r, rt_n, rs_0, rs_t, pk_1, pk_2, up_at, reduceIte, Nat.reduceEqDiff, intOf]; omega
  · obtain rfl : i = l.length := by omega
    rw [decide_eq_false (by omega)]
    refine condF ?_
    rw [sq_x, bk_x, sq_n, dispatcherlaw15_CollOrder_R3_eq]; unfold dispatcherlaw15_CollOrder_R3_F
    exact ⟨rfl, ca.mod.trans hm1⟩
theorem CollOrder_ok {v t1 t2 : Value} {l : List Pt} {ts1 ts2 : List Int} (hgl : Gl w) (h : PtsR w v l) (hcl : ∀ q ∈ l, -9223372036854775808 ≤ q.color ∧ q.color ≤ 9223372036854775807) (ht1 : Trn w t1 ts1) (ht2 : Trn w t2 ts2) (loose : Bool) : Rt Tryd.prog 7 #[.bool loose, v, t1, t2] w fun u w' => u = .bool true ∧ Mod none_ w w' := by
  refine dispatcherlaw15_CollOrder_calls ?_
  unfold dispatcherlaw15_CollOrder_F
  refine CK_st Tryd.func26 rfl rfl (awake_ok hgl) ?_
  rintro _ w1 ⟨rfl, hm1⟩
  simp only [↓VG_u, ↓UG_u, ↓MG_u, ↓NG_u, ↓PG_u, ↓BG_u, ↓CG_u, ↓IG_u, ↓VGtt, ↓VGtf, ↓VGft, ↓VGff, ↓UGtt, ↓UGtf, ↓UGft, ↓UGff, ↓MGtt, ↓MGtf, ↓MGft, ↓MGff, ↓NGtt, ↓NGtf, ↓NGft, ↓NGff, ↓PGtt, ↓PGtf, ↓PGft, ↓PGff, ↓BGtt, ↓BGtf, ↓BGft, ↓BGff, ↓CGtt, ↓CGtf, ↓CGft, ↓CGff, ↓IGtt, ↓IGtf, ↓IGft, ↓IGff, ↓PKt, ↓PKf, ↓CDt, ↓CDf, ↓NOTt, ↓NOTf, ↓NK_ptr]
  refine CK_st Tryd.func29 rfl rfl (may_ok (h.calm hm1)) ?_
  rintro _ w2 ⟨b, rfl, hb, hm2⟩
  have hm02 := hm1.trans hm2
  cases b with
  | false =>
    simp only [↓VG_u, ↓UG_u, ↓MG_u, ↓NG_u, ↓PG_u, ↓BG_u, ↓CG_u, ↓IG_u, ↓VGtt, ↓VGtf, ↓VGft, ↓VGff, ↓UGtt, ↓UGtf, ↓UGft, ↓UGff, ↓MGtt, ↓MGtf, ↓MGft, ↓MGff, ↓NGtt, ↓NGtf, ↓NGft, ↓NGff, ↓PGtt, ↓PGtf, ↓PGft, ↓PGff, ↓BGtt, ↓BGtf, ↓BGft, ↓BGff, ↓CGtt, ↓CGtf, ↓CGft, ↓CGff, ↓IGtt, ↓IGtf, ↓IGft, ↓IGff, ↓PKt, ↓PKf, ↓CDt, ↓CDf, ↓NOTt, ↓NOTf, ↓NK_ptr]
    exact ⟨by first | trivial | rfl, hm02⟩
  | true =>
  obtain ⟨h1, h8, hmay⟩ := hb rfl
  simp only [↓VG_u, ↓UG_u, ↓MG_u, ↓NG_u, ↓PG_u, ↓BG_u, ↓CG_u, ↓IG_u, ↓VGtt, ↓VGtf, ↓VGft, ↓VGff, ↓UGtt, ↓UGtf, ↓UGft, ↓UGff, ↓MGtt, ↓MGtf, ↓MGft, ↓MGff, ↓NGtt, ↓NGtf, ↓NGft, ↓NGff, ↓PGtt, ↓PGtf, ↓PGft, ↓PGff, ↓BGtt, ↓BGtf, ↓BGft, ↓BGff, ↓CGtt, ↓CGtf, ↓CGft, ↓CGff, ↓IGtt, ↓IGtf, ↓IGft, ↓IGff, ↓PKt, ↓PKf, ↓CDt, ↓CDf, ↓NOTt, ↓NOTf, ↓NK_ptr]
  refine CK_st Tryd.func11 rfl rfl (New_ok w2 loose) ?_
  rintro _ w3 ⟨p, V, rfl, hc, _, _, hnew, hm3⟩
  have ca3 : Cs w w3 p loose [] V := ⟨hc, fun b hb => Nat.le_trans hm02.size (hnew b hb), hm02.trans hm3⟩
  refine CK_st Tryd.func11 rfl rfl (New_ok w3 loose) ?_
  rintro _ w4 ⟨q, VB, rfl, hcb, _, _, hnewb, hm4⟩
  have ca4 := ca3.calm hm4
  have cb4 : Cs w w4 q loose [] VB := ⟨hcb, fun b hb => Nat.le_trans ca3.mod.size (hnewb b hb), ca4.mod⟩
  have dis4 : ∀ b, CF q VB b → ¬ CF p V b := fun b hb z => by have := hnewb b hb; have := ca3.at_.old z; omega
  obtain ⟨Av, cv, ev, _⟩ := reads_cap h
  rw [ev, len_sl vPts, ← ev]
  refine CK_st Tryd.func32 rfl rfl (all_ok h ht1 h1 h8 hmay ca4) ?_
  rintro _ w5 ⟨rfl, A, VA5, hA, ca5, hfa⟩
  have cb5 : Cs w w5 q loose [] VB := ⟨cb4.at_.beside ca4.at_ dis4 hfa, cb4.new, ca5.mod⟩
  have dis5 : ∀ b, CF p VA5 b → ¬ CF q VB b := fun b hb z => by
    rcases hfa.f b hb with y | y
    · exact dis4 b z y
    · have := cb4.at_.old z; omega
  simp only [↓VG_u, ↓UG_u, ↓MG_u, ↓NG_u, ↓PG_u, ↓BG_u, ↓CG_u, ↓IG_u, ↓VGtt, ↓VGtf, ↓VGft, ↓VGff, ↓UGtt, ↓UGtf, ↓UGft, ↓UGff, ↓MGtt, ↓MGtf, ↓MGft, ↓MGff, ↓NGtt, ↓NGtf, ↓NGft, ↓NGff, ↓PGtt, ↓PGtf, ↓PGft, ↓PGff, ↓BGtt, ↓BGtf, ↓BGft, ↓BGff, ↓CGtt, ↓CGtf, ↓CGft, ↓CGff, ↓IGtt, ↓IGtf, ↓IGft, ↓IGff, ↓PKt, ↓PKf, ↓CDt, ↓CDf, ↓NOTt, ↓NOTf, ↓NK_ptr]
  rw [ev, len_sl vPts, ← ev]
  refine CK_st Tryd.func32 rfl rfl (all_ok h ht2 h1 h8 hmay cb5) ?_
  rintro _ w6 ⟨rfl, B, VB6, hB, cb6, hfb⟩
  have ca6 : Cs w w6 p loose A VA5 := ⟨ca5.at_.beside cb5.at_ dis5 hfb, ca5.new, cb6.mod⟩
  simp only [↓VG_u, ↓UG_u, ↓MG_u, ↓NG_u, ↓PG_u, ↓BG_u, ↓CG_u, ↓IG_u, ↓VGtt, ↓VGtf, ↓VGft, ↓VGff, ↓UGtt, ↓UGtf, ↓UGft, ↓UGff, ↓MGtt, ↓MGtf, ↓MGft, ↓MGff, ↓NGtt, ↓NGtf, ↓NGft, ↓NGff, ↓PGtt, ↓PGtf, ↓PGft, ↓PGff, ↓BGtt, ↓BGtf, ↓BGft, ↓BGff, ↓CGtt, ↓CGtf, ↓CGft, ↓CGff, ↓IGtt, ↓IGtf, ↓IGft, ↓IGff, ↓PKt, ↓PKf, ↓CDt, ↓CDf, ↓NOTt, ↓NOTf, ↓NK_ptr]
  have hAl := hA.len
  have hBl := hB.len
  refine CK_st Tryd.func24 rfl rfl (Odd_ok ca6.at_ (hgl.calm ca6.mod) (by omega) hA.key) ?_
  rintro x w7 ⟨hx, hm7⟩
  have cb7 := cb6.calm hm7
  obtain ⟨A3, c3, es3, _⟩ := reads_cap (reads_of_owns hx)
  rw [es3, len_sl vSs]
  try simp only [↓VG_u, ↓UG_u, ↓MG_u, ↓NG_u, ↓PG_u, ↓BG_u, ↓CG_u, ↓IG_u, ↓VGtt, ↓VGtf, ↓VGft, ↓VGff, ↓UGtt, ↓UGtf, ↓UGft, ↓UGff, ↓MGtt, ↓MGtf, ↓MGft, ↓MGff, ↓NGtt, ↓NGtf, ↓NGft, ↓NGff, ↓PGtt, ↓PGtf, ↓PGft, ↓PGff, ↓BGtt, ↓BGtf, ↓BGft, ↓BGff, ↓CGtt, ↓CGtf, ↓CGft, ↓CGff, ↓IGtt, ↓IGtf, ↓IGft, ↓IGff, ↓PKt, ↓PKf, ↓CDt, ↓CDf, ↓NOTt, ↓NOTf, ↓NK_ptr]
  refine CK_st Tryd.func24 rfl rfl (Odd_ok cb7.at_ (hgl.calm cb7.mod) (by omega) hB.key) ?_
  rintro x' w8 ⟨hx', hm8⟩
  obtain ⟨A4, c4, es4, _⟩ := reads_cap (reads_of_owns hx')
  rw [es4, len_sl vSs]
  simp only [↓VG_u, ↓UG_u, ↓MG_u, ↓NG_u, ↓PG_u, ↓BG_u, ↓CG_u, ↓IG_u, ↓VGtt, ↓VGtf, ↓VGft, ↓VGff, ↓UGtt, ↓UGtf, ↓UGft, ↓UGff, ↓MGtt, ↓MGtf, ↓MGft, ↓MGff, ↓NGtt, ↓NGtf, ↓NGft, ↓NGff, ↓PGtt, ↓PGtf, ↓PGft, ↓PGff, ↓BGtt, ↓BGtf, ↓BGft, ↓BGff, ↓CGtt, ↓CGtf, ↓CGft, ↓CGff, ↓IGtt, ↓IGtf, ↓IGft, ↓IGff, ↓PKt, ↓PKf, ↓CDt, ↓CDf, ↓NOTt, ↓NOTf, ↓NK_ptr, ↓NEf (show ((oddC A).length : Int) = ((oddC B).length : Int) by rw [hA.odd h1 hB])]
  rw [dispatcherlaw15_CollOrder_R0_eq]; unfold dispatcherlaw15_CollOrder_R0_F
  refine condF ?_
  rw [sq_n]
  exact order_R1 hgl h h1 h8 hcl hA hB ((ca6.calm hm7).calm hm8) (cb7.calm hm8) ⟨rfl, rfl, rfl⟩
end
end Go.Proofs.YtandbmnhghmcgaaDoor.Col
set_option linter.unusedVariables false
set_option maxRecDepth 8000
namespace Go.X
open Go Go.RowKit
theorem u8_of {n : Int} (h : (Lit.int .u8 n).wf = true) : 0 ≤ n ∧ n ≤ 255 := by
  simp [Lit.wf, IntKind.min, IntKind.max, IntKind.signed, IntKind.bits] at h
  omega
end Go.X
namespace Go.Proofs.YtandbmnhghmcgaaDoor.Col
open Go Go.X Go.RowKit
theorem opensTrn (n : Nat) : OpensAt Tryd.prog n (Sh.slice (Sh.int .u8)) tU8s := opens_slice vU8s (by kernel_rfl) (fun m _ => opens_int vU8)
theorem Trn_of {w : World} {x : Value × List Int} {cs : List Value} (h : (Sh.slice (Sh.int .u8)).K w x cs) : Trn w x.1 x.2 := by
  refine ⟨?_, fun t ht => ?_⟩
  · have := reads_sh h (fun g => [Value.int .u8 g]) (fun _ => rfl) (fun _ _ hd => hd.1)
    have e : ∀ l : List Int, (l.flatMap fun g => [Value.int .u8 g]) = u8L l := fun l => by
      unfold u8L
      induction l with
      | nil => rfl
      | cons a l ih => rw [List.flatMap_cons, ih]; rfl
    rw [e] at this
    exact this
  · obtain ⟨d, hd⟩ := sh_mem h t ht
    exact u8_of hd.2
end Go.Proofs.YtandbmnhghmcgaaDoor.Col
