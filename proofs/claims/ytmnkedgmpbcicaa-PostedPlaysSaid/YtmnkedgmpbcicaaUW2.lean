/- Several texts of this repo, one behind the other, without what is not used here. -/
import Derived.Test.YtmnkedgmpbcicaaProg
import Derived.Test.YtmnkedgmpbcicaaUW1
set_option linter.unusedVariables false
set_option maxRecDepth 100000
namespace Go.Proofs.Ytmnkedgmpbcicaa.XF
open Go Go.X
noncomputable def dispatcherref13_Same_b : Code := (Try.f15.body).getD .skip
noncomputable def dispatcherref13_Same_L0 : Code := cAt [1, 1, 0, 1, 0, 0] dispatcherref13_Same_b
noncomputable def dispatcherref13_Same_R1 : Code := cAt [1, 1, 1] dispatcherref13_Same_b
noncomputable def dispatcherref13_Same_R2 : Code := cAt [1, 1, 0, 1, 0, 0, 1, 0, 0, 0] dispatcherref13_Same_b
noncomputable def dispatcherref13_Same_R3 : Code := cAt [1, 1, 0, 1, 0, 0, 1, 0, 0, 1] dispatcherref13_Same_b
noncomputable def dispatcherref13_Same_R4 : Code := cAt [1, 1, 0, 1, 0, 0, 1, 1] dispatcherref13_Same_b
noncomputable def dispatcherref13_Same_L0_F (z : At) (K : Exit → Sl → World → Prop) (ρ : Sl) (w : World) : Prop :=
  IK Try.prog .len #[31] 3 [false] [(ρ 0)] w fun x13 w => BK Try.prog .lss 3 (.tmp 11) (.tmp 13) (ρ 5) x13 w fun x14 w => CondK x14 (W z Try.prog 26 dispatcherref13_Same_R2 (seqK (sx z Try.prog 26 dispatcherref13_Same_R3 (blkK 1 (seqK (sx z Try.prog 26 dispatcherref13_Same_R4 K) K))) (blkK 1 (seqK (sx z Try.prog 26 dispatcherref13_Same_R4 K) K))) (up (up (up (up ρ 11 (ρ 5)) 12 (ρ 0)) 13 x13) 14 x14) w) (K (.exit 0) (up (up (up (up ρ 11 (ρ 5)) 12 (ρ 0)) 13 x13) 14 x14) w)
theorem dispatcherref13_Same_L0_eq (z : At) (K : Exit → Sl → World → Prop) (ρ : Sl) (w : World) : sx z Try.prog 26 dispatcherref13_Same_L0 K ρ w = dispatcherref13_Same_L0_F z K ρ w := by kernel_rfl
theorem dispatcherref13_Same_L0_ok : dstOk 26 dispatcherref13_Same_L0 = true := by kernel_rfl
noncomputable def dispatcherref13_Same_R1_F (z : At) (K : Exit → Sl → World → Prop) (ρ : Sl) (w : World) : Prop :=
  K .ret (up ρ 4 (Value.bool true)) w
theorem dispatcherref13_Same_R1_eq (z : At) (K : Exit → Sl → World → Prop) (ρ : Sl) (w : World) : sx z Try.prog 26 dispatcherref13_Same_R1 K ρ w = dispatcherref13_Same_R1_F z K ρ w := by kernel_rfl
noncomputable def dispatcherref13_Same_R2_ops : Array Oper := opsOf dispatcherref13_Same_R2
def dispatcherref13_Same_R2_Q (C : World → Prop) (K : Exit → Sl → World → Prop) (ρ : Sl) : Prop :=
  QK Try.prog C (do pure (Next.value (← Instr.indexAt 31 (ρ 0) (ρ 5)))) fun x19 => QK Try.prog C (do pure (Next.value (← Instr.loadAt 39 x19))) fun x20 => QK Try.prog C (do pure (Next.value (← Instr.indexAt 31 (ρ 1) (ρ 5)))) fun x23 => QK Try.prog C (do pure (Next.value (← Instr.loadAt 39 x23))) fun x24 => QK Try.prog C (do pure (Next.value (← (do eqGuard BinOp.neq 39 (Operand.tmp 20) (Operand.tmp 24) x20 x24; binOp BinOp.neq 39 x20 x24)))) fun x25 => ∀ w', C w' → K Exit.normal (up (up (up (up (up (up (up (up (up ρ 17 (ρ 0)) 18 (ρ 5)) 19 x19) 20 x20) 21 (ρ 1)) 22 (ρ 5)) 23 x23) 24 x24) 25 x25) w'
theorem dispatcherref13_Same_R2_quiet {D : List Deferred} (C : World → Prop) {K : Exit → Sl → World → Prop} {ρ : Sl} {w : World} (hC : C { w with drawn := w.drawn + 1 }) (h : dispatcherref13_Same_R2_Q C K ρ) : W ⟨none, D⟩ Try.prog 26 dispatcherref13_Same_R2 K ρ w := by
  have e : dispatcherref13_Same_R2 = .region (idOf dispatcherref13_Same_R2) dispatcherref13_Same_R2_ops true := by kernel_rfl
  have q : sxq Try.prog C dispatcherref13_Same_R2_ops (fun ρ' => ∀ w', C w' → K .normal ρ' w') dispatcherref13_Same_R2_ops.toList ρ = dispatcherref13_Same_R2_Q C K ρ := by kernel_rfl
  rw [e]
  exact W_quiet C (by kernel_rfl) (by kernel_rfl) (by kernel_rfl) hC (Eq.mpr q h)
noncomputable def dispatcherref13_Same_R3_F (z : At) (K : Exit → Sl → World → Prop) (ρ : Sl) (w : World) : Prop :=
  CondK (ρ 25) (K .ret (up ρ 4 (Value.bool false)) w) (K .normal ρ w)
theorem dispatcherref13_Same_R3_eq (z : At) (K : Exit → Sl → World → Prop) (ρ : Sl) (w : World) : sx z Try.prog 26 dispatcherref13_Same_R3 K ρ w = dispatcherref13_Same_R3_F z K ρ w := by kernel_rfl
noncomputable def dispatcherref13_Same_R4_F (z : At) (K : Exit → Sl → World → Prop) (ρ : Sl) (w : World) : Prop :=
  BK Try.prog .add 3 (.tmp 15) (.const (Value.int .i64 1)) (ρ 5) (Value.int .i64 1) w fun x16 w => K .normal (up (up (up ρ 15 (ρ 5)) 16 x16) 5 x16) w
theorem dispatcherref13_Same_R4_eq (z : At) (K : Exit → Sl → World → Prop) (ρ : Sl) (w : World) : sx z Try.prog 26 dispatcherref13_Same_R4 K ρ w = dispatcherref13_Same_R4_F z K ρ w := by kernel_rfl
noncomputable def dispatcherref13_Same_F (a0 a1 : Value) (w : World) (R : Value → World → Prop) : Prop :=
  IK Try.prog .len #[31] 3 [false] [a0] w fun x7 w => IK Try.prog .len #[31] 3 [false] [a1] w fun x9 w => BK Try.prog .neq 3 (.tmp 7) (.tmp 9) x7 x9 w fun x10 w => CondK x10 (R (Value.bool false) w) (W fn_ Try.prog 26 (Code.loop dispatcherref13_Same_L0) (blkK 0 (seqK (sx fn_ Try.prog 26 dispatcherref13_Same_R1 (retK Try.prog [ResultVar.tmp 4] R)) (retK Try.prog [ResultVar.tmp 4] R))) (up (up (up (up (up (up (up (rho0 [a0, a1]) 4 (Value.bool false)) 6 a0) 7 x7) 8 a1) 9 x9) 10 x10) 5 (Value.int .i64 0)) w)
theorem dispatcherref13_Same_eq (a0 a1 : Value) (w : World) (R : Value → World → Prop) : sx fn_ Try.prog 26 dispatcherref13_Same_b (retK Try.prog Try.f15.results.toList R) (rho0 [a0, a1]) w = dispatcherref13_Same_F a0 a1 w R := by kernel_rfl
theorem dispatcherref13_Same_calls {a0 a1 : Value} {w : World} {R : Value → World → Prop} (h : dispatcherref13_Same_F a0 a1 w R) : Calls Try.prog 15 #[a0, a1] w fun e w' => ∃ v, e = .returned v ∧ R v w' :=
  Go.X.calls_of_sx (n := 26) (c := dispatcherref13_Same_b) Try.func15 (by kernel_rfl) (by kernel_rfl) (Nat.le_of_ble_eq_true rfl) (by kernel_rfl) (Eq.mpr (dispatcherref13_Same_eq a0 a1 w R) h)
noncomputable def queue_New_b : Code := (Try.f23.body).getD .skip
noncomputable def queue_New_F (w : World) (R : Value → World → Prop) : Prop :=
  VK Try.prog (Instr.makeMap 86 none) w fun x1 w => VK Try.prog (Instr.makeMap 87 none) w fun x2 w => VK Try.prog (Instr.build 89 [(0, x1), (1, x2)].toArray) w fun x3 w => VK Try.prog (Instr.box 89 x3) w fun x4 w => R x4 w
theorem queue_New_calls {w : World} {R : Value → World → Prop} (h : queue_New_F  w R) : Calls Try.prog 23 #[] w fun e w' => ∃ v, e = .returned v ∧ R v w' :=
  Go.X.calls_eq (n := 5) (c := queue_New_b) (fn := Try.f23) (args := #[]) (F := queue_New_F  w R) (R := R) Try.func23 (by kernel_rfl) (by kernel_rfl) (Nat.le_of_ble_eq_true rfl) (by kernel_rfl) (by kernel_rfl) h
noncomputable def queue_Queue_Send_b : Code := (Try.f25.body).getD .skip
noncomputable def queue_Queue_Send_R0 : Code := cAt [1, 1, 0] queue_Queue_Send_b
noncomputable def queue_Queue_Send_R1 : Code := cAt [1, 1, 1] queue_Queue_Send_b
noncomputable def queue_Queue_Send_R2 : Code := cAt [1, 1, 1, 0, 1] queue_Queue_Send_b
noncomputable def queue_Queue_Send_R3 : Code := cAt [1, 1, 1, 1] queue_Queue_Send_b
noncomputable def queue_Queue_Send_R4 : Code := cAt [1, 1, 1, 1, 1, 0] queue_Queue_Send_b
noncomputable def queue_Queue_Send_R5 : Code := cAt [1, 1, 1, 1, 1, 1] queue_Queue_Send_b
noncomputable def queue_Queue_Send_R6 : Code := cAt [1, 1, 1, 1, 1, 1, 0] queue_Queue_Send_b
noncomputable def queue_Queue_Send_R7 : Code := cAt [1, 1, 1, 1, 1, 1, 1] queue_Queue_Send_b
noncomputable def queue_Queue_Send_R0_ops : Array Oper := opsOf queue_Queue_Send_R0
def queue_Queue_Send_R0_H (S : World → Prop) (K : Exit → Sl → World → Prop) (ρ : Sl) (w : World) : Prop :=
  HK Try.prog S (nilCk (ρ 0)) fun x12 => HK Try.prog S (do pure (Next.value (← Instr.fieldAt 89 x12 1))) fun x13 => HK Try.prog S (do pure (Next.value (← Instr.loadAt 87 x13))) fun x14 => HK Try.prog S (do pure (Next.value (← Instr.fieldAt 39 (ρ 3) 1))) fun x15 => HK Try.prog S (do pure (Next.value (← Instr.loadAt 3 x15))) fun x16 => HK Try.prog S (do pure (Next.value (← Instr.fieldAt 39 (ρ 3) 3))) fun x17 => HK Try.prog S (do pure (Next.value (← Instr.loadAt 3 x17))) fun x18 => HK Try.prog S (do pure (Next.value (← Instr.build 94 [(0, x16), (1, x18)].toArray))) fun x19 => HK Try.prog S (do pure (Next.value (← Instr.lookup 87 x14 x19 true))) fun x20 => HK Try.prog S (do pure (Next.value (← Instr.extract x20 0))) fun x21 => HK Try.prog S (do pure (Next.value (← Instr.extract x20 1))) fun x22 => VK Try.prog (Instr.alloc 91 true (.tuple #[])) w fun x5 w => S w ∧ (UK Try.prog (Instr.storeAt 91 x5 x21) w fun _ w => S w ∧ (K Exit.normal (up (up (up (up (up (up (up (up (up (up (up (up (up (up (up ρ 11 (ρ 0)) 12 x12) 13 x13) 14 x14) 15 x15) 16 x16) 17 x17) 18 x18) 19 x19) 20 x20) 10 x20) 21 x21) 22 x22) 5 x5) 6 x22) w))
theorem queue_Queue_Send_R0_held {D : List Deferred} (S : World → Prop) {K : Exit → Sl → World → Prop} {ρ : Sl} {w : World} (hS : S { w with drawn := w.drawn + 1 }) (h : queue_Queue_Send_R0_H S K ρ { w with drawn := w.drawn + 1 }) : W ⟨none, D⟩ Try.prog 85 queue_Queue_Send_R0 K ρ w := by
  have e : queue_Queue_Send_R0 = .region (idOf queue_Queue_Send_R0) queue_Queue_Send_R0_ops true := by kernel_rfl
  have q : sxh Try.prog S queue_Queue_Send_R0_ops (K .normal) [(0, true), (1, true), (2, true), (3, true), (4, true), (5, true), (6, true), (7, true), (8, true), (9, true), (10, true), (11, true), (12, true), (13, false), (14, false), (15, true)] ρ { w with drawn := w.drawn + 1 } = queue_Queue_Send_R0_H S K ρ { w with drawn := w.drawn + 1 } := by kernel_rfl
  rw [e]
  exact W_held S [(0, true), (1, true), (2, true), (3, true), (4, true), (5, true), (6, true), (7, true), (8, true), (9, true), (10, true), (11, true), (12, true), (13, false), (14, false), (15, true)] (by kernel_rfl) (by kernel_rfl) (by kernel_rfl) (by kernel_rfl) hS (Eq.mpr q h)
noncomputable def queue_Queue_Send_R1_F (z : At) (K : Exit → Sl → World → Prop) (ρ : Sl) (w : World) : Prop :=
  VG Try.prog (ρ 6) false (Instr.fieldAt 39 (ρ 3) 7) w fun x25 w => VG Try.prog (ρ 6) false (Instr.loadAt 4 x25) w fun x26 w => PK Try.prog (ρ 6) (Value.bool true) x26 w fun x27 w => VG Try.prog x27 false (Instr.fieldAt 39 (ρ 3) 1) w fun x29 w => VG Try.prog x27 false (Instr.loadAt 3 x29) w fun x30 w => CG Try.prog x27 false (Value.func (Fn.func 50) #[] #[]) [x30, (Value.int .i64 0), (Value.int .i64 63)] w fun x31 w => VG Try.prog x27 false (Op.unary UnOp.not x31) w fun x32 w => PK Try.prog x27 (Value.bool true) x32 w fun x33 w => VG Try.prog x33 false (Instr.fieldAt 39 (ρ 3) 2) w fun x35 w => VG Try.prog x33 false (Instr.loadAt 3 x35) w fun x36 w => CG Try.prog x33 false (Value.func (Fn.func 50) #[] #[]) [x36, (Value.int .i64 0), (Value.int .i64 63)] w fun x37 w => VG Try.prog x33 false (Op.unary UnOp.not x37) w fun x38 w => PK Try.prog x33 (Value.bool true) x38 w fun x39 w => VG Try.prog x39 false (Instr.fieldAt 39 (ρ 3) 3) w fun x41 w => VG Try.prog x39 false (Instr.loadAt 3 x41) w fun x42 w => BG Try.prog x39 false .lss 3 (.tmp 42) (.const (Value.int .i64 0)) x42 (Value.int .i64 0) w fun x43 w => PK Try.prog x39 (Value.bool true) x43 w fun x44 w => VG Try.prog x44 false (Instr.fieldAt 39 (ρ 3) 4) w fun x46 w => VG Try.prog x44 false (Instr.loadAt 3 x46) w fun x47 w => CG Try.prog x44 false (Value.func (Fn.func 50) #[] #[]) [x47, (Value.int .i64 0), (Value.int .i64 32767)] w fun x48 w => VG Try.prog x44 false (Op.unary UnOp.not x48) w fun x49 w => PK Try.prog x44 (Value.bool true) x49 w fun x50 w => VG Try.prog x50 false (Instr.fieldAt 39 (ρ 3) 6) w fun x52 w => VG Try.prog x50 false (Instr.loadAt 3 x52) w fun x53 w => CG Try.prog x50 false (Value.func (Fn.func 50) #[] #[]) [x53, (Value.int .i64 1), (Value.int .i64 64)] w fun x54 w => VG Try.prog x50 false (Op.unary UnOp.not x54) w fun x55 w => PK Try.prog x50 (Value.bool true) x55 w fun x56 w => sx z Try.prog 85 queue_Queue_Send_R2 (seqK (sx z Try.prog 85 queue_Queue_Send_R3 K) K) (up (up (up (up (up (up (up (up (up (up (up (up (up (up (up (up (up (up (up (up (up (up (up (up (up (up (up (up (up (up (up (up (up (up ρ 23 (ρ 6)) 24 (ρ 6)) 25 x25) 26 x26) 27 x27) 28 x27) 29 x29) 30 x30) 31 x31) 32 x32) 33 x33) 34 x33) 35 x35) 36 x36) 37 x37) 38 x38) 39 x39) 40 x39) 41 x41) 42 x42) 43 x43) 44 x44) 45 x44) 46 x46) 47 x47) 48 x48) 49 x49) 50 x50) 51 x50) 52 x52) 53 x53) 54 x54) 55 x55) 56 x56) w
theorem queue_Queue_Send_R1_eq (z : At) (K : Exit → Sl → World → Prop) (ρ : Sl) (w : World) : sx z Try.prog 85 queue_Queue_Send_R1 K ρ w = queue_Queue_Send_R1_F z K ρ w := by kernel_rfl
noncomputable def queue_Queue_Send_R2_F (z : At) (K : Exit → Sl → World → Prop) (ρ : Sl) (w : World) : Prop :=
  CondK (ρ 56) (K .ret (up ρ 4 (Value.int .i64 2)) w) (K .normal ρ w)
theorem queue_Queue_Send_R2_eq (z : At) (K : Exit → Sl → World → Prop) (ρ : Sl) (w : World) : sx z Try.prog 85 queue_Queue_Send_R2 K ρ w = queue_Queue_Send_R2_F z K ρ w := by kernel_rfl
noncomputable def queue_Queue_Send_R3_F (z : At) (K : Exit → Sl → World → Prop) (ρ : Sl) (w : World) : Prop :=
  VK Try.prog (Instr.fieldAt 39 (ρ 3) 0) w fun x57 w => VK Try.prog (Instr.loadAt 9 x57) w fun x58 w => VK Try.prog (Instr.fieldAt 39 (ρ 3) 1) w fun x59 w => VK Try.prog (Instr.loadAt 3 x59) w fun x60 w => VK Try.prog (Instr.fieldAt 39 (ρ 3) 2) w fun x61 w => VK Try.prog (Instr.loadAt 3 x61) w fun x62 w => VK Try.prog (Instr.build 91 [(0, x58), (1, x60), (2, x62)].toArray) w fun x63 w => VK Try.prog (Instr.alloc 91 true (.tuple #[])) w fun x7 w => UK Try.prog (Instr.storeAt 91 x7 x63) w fun _ w => W z Try.prog 85 queue_Queue_Send_R4 (seqK (sx z Try.prog 85 queue_Queue_Send_R5 K) K) (up (up (up (up (up (up (up (up ρ 57 x57) 58 x58) 59 x59) 60 x60) 61 x61) 62 x62) 63 x63) 7 x7) w
theorem queue_Queue_Send_R3_eq (z : At) (K : Exit → Sl → World → Prop) (ρ : Sl) (w : World) : sx z Try.prog 85 queue_Queue_Send_R3 K ρ w = queue_Queue_Send_R3_F z K ρ w := by kernel_rfl
noncomputable def queue_Queue_Send_R4_ops : Array Oper := opsOf queue_Queue_Send_R4
def queue_Queue_Send_R4_H (S : World → Prop) (K : Exit → Sl → World → Prop) (ρ : Sl) (w : World) : Prop :=
  HK Try.prog S (nilCk (ρ 0)) fun x65 => HK Try.prog S (do pure (Next.value (← Instr.fieldAt 89 x65 0))) fun x66 => HK Try.prog S (do pure (Next.value (← Instr.loadAt 86 x66))) fun x67 => HK Try.prog S (do pure (Next.value (← Instr.loadAt 91 (ρ 7)))) fun x68 => HK Try.prog S (do pure (Next.value (← Instr.loadAt 39 (ρ 3)))) fun x70 => VK Try.prog (Instr.buildSlice 31 1 [(0, x70)].toArray) w fun x71 w => S w ∧ (VK Try.prog (Instr.mapEntry 86 x67 x68) w fun x72 w => S w ∧ (HK Try.prog S (do pure (Next.value (← Instr.extract x72 0))) fun x69 => HK Try.prog S (do pure (Next.value (← Instr.extract x72 1))) fun x74 => IK Try.prog Builtin.append #[31, 31] 31 [false, false] [x69, x71] w fun x73 w => S w ∧ (UK Try.prog (Instr.entryStore 86 x67 x74 x73) w fun _ w => S w ∧ (K Exit.normal (up (up (up (up (up (up (up (up (up (up (up ρ 64 (ρ 0)) 65 x65) 66 x66) 67 x67) 68 x68) 70 x70) 71 x71) 72 x72) 69 x69) 74 x74) 73 x73) w))))
theorem queue_Queue_Send_R4_held {D : List Deferred} (S : World → Prop) {K : Exit → Sl → World → Prop} {ρ : Sl} {w : World} (hS : S { w with drawn := w.drawn + 1 }) (h : queue_Queue_Send_R4_H S K ρ { w with drawn := w.drawn + 1 }) : W ⟨none, D⟩ Try.prog 85 queue_Queue_Send_R4 K ρ w := by
  have e : queue_Queue_Send_R4 = .region (idOf queue_Queue_Send_R4) queue_Queue_Send_R4_ops true := by kernel_rfl
  have q : sxh Try.prog S queue_Queue_Send_R4_ops (K .normal) [(0, true), (1, true), (2, true), (3, true), (4, true), (5, true), (6, false), (7, false), (8, true), (10, true), (9, false), (11, false)] ρ { w with drawn := w.drawn + 1 } = queue_Queue_Send_R4_H S K ρ { w with drawn := w.drawn + 1 } := by kernel_rfl
  rw [e]
  exact W_held S [(0, true), (1, true), (2, true), (3, true), (4, true), (5, true), (6, false), (7, false), (8, true), (10, true), (9, false), (11, false)] (by kernel_rfl) (by kernel_rfl) (by kernel_rfl) (by kernel_rfl) hS (Eq.mpr q h)
noncomputable def queue_Queue_Send_R5_F (z : At) (K : Exit → Sl → World → Prop) (ρ : Sl) (w : World) : Prop :=
  W z Try.prog 85 queue_Queue_Send_R6 (seqK (sx z Try.prog 85 queue_Queue_Send_R7 K) K) ρ w
theorem queue_Queue_Send_R5_eq (z : At) (K : Exit → Sl → World → Prop) (ρ : Sl) (w : World) : sx z Try.prog 85 queue_Queue_Send_R5 K ρ w = queue_Queue_Send_R5_F z K ρ w := by kernel_rfl
noncomputable def queue_Queue_Send_R6_ops : Array Oper := opsOf queue_Queue_Send_R6
def queue_Queue_Send_R6_T (K : Exit → Sl → World → Prop) (ρ : Sl) (w : World) : Prop :=
  let C : World → Prop := fun w' => w' = w; QK Try.prog C (nilCk (ρ 0)) fun x76 => QK Try.prog C (do pure (Next.value (← Instr.fieldAt 89 x76 1))) fun x77 => QK Try.prog C (do pure (Next.value (← Instr.loadAt 87 x77))) fun x78 => QK Try.prog C (do pure (Next.value (← Instr.fieldAt 39 (ρ 3) 1))) fun x79 => QK Try.prog C (do pure (Next.value (← Instr.loadAt 3 x79))) fun x80 => QK Try.prog C (do pure (Next.value (← Instr.fieldAt 39 (ρ 3) 3))) fun x81 => QK Try.prog C (do pure (Next.value (← Instr.loadAt 3 x81))) fun x82 => QK Try.prog C (do pure (Next.value (← Instr.build 94 [(0, x80), (1, x82)].toArray))) fun x83 => QK Try.prog C (do pure (Next.value (← Instr.loadAt 91 (ρ 7)))) fun x84 => UK Try.prog (Instr.mapUpdate 87 x78 x83 x84) w fun _ w => K Exit.normal (up (up (up (up (up (up (up (up (up (up ρ 75 (ρ 0)) 76 x76) 77 x77) 78 x78) 79 x79) 80 x80) 81 x81) 82 x82) 83 x83) 84 x84) w
theorem queue_Queue_Send_R6_tail {D : List Deferred} {K : Exit → Sl → World → Prop} {ρ : Sl} {w : World} (h : queue_Queue_Send_R6_T K ρ { w with drawn := w.drawn + 1 }) : W ⟨none, D⟩ Try.prog 85 queue_Queue_Send_R6 K ρ w := by
  have e : queue_Queue_Send_R6 = .region (idOf queue_Queue_Send_R6) queue_Queue_Send_R6_ops true := by kernel_rfl
  have q : sxq Try.prog (fun w' => w' = { w with drawn := w.drawn + 1 }) queue_Queue_Send_R6_ops (fun ρ' => sxL Try.prog queue_Queue_Send_R6_ops (K .normal) (queue_Queue_Send_R6_ops.toList.drop 10) ρ' { w with drawn := w.drawn + 1 }) (queue_Queue_Send_R6_ops.toList.take 10) ρ = queue_Queue_Send_R6_T K ρ { w with drawn := w.drawn + 1 } := by kernel_rfl
  rw [e]
  exact W_tail 10 (by kernel_rfl) (by kernel_rfl) (by kernel_rfl) (by kernel_rfl) (Eq.mpr q h)
noncomputable def queue_Queue_Send_R7_F (z : At) (K : Exit → Sl → World → Prop) (ρ : Sl) (w : World) : Prop :=
  K .ret (up ρ 4 (Value.int .i64 0)) w
theorem queue_Queue_Send_R7_eq (z : At) (K : Exit → Sl → World → Prop) (ρ : Sl) (w : World) : sx z Try.prog 85 queue_Queue_Send_R7 K ρ w = queue_Queue_Send_R7_F z K ρ w := by kernel_rfl
noncomputable def queue_Queue_Send_F (a0 a1 : Value) (w : World) (R : Value → World → Prop) : Prop :=
  VK Try.prog (Instr.box 39 a1) w fun x3 w => CK Try.prog (Value.func (Fn.func 49) #[] #[]) [a0] w fun x9 w => CondK x9 (R (Value.int .i64 1) w) (W fn_ Try.prog 85 queue_Queue_Send_R0 (seqK (sx fn_ Try.prog 85 queue_Queue_Send_R1 (retK Try.prog [ResultVar.tmp 4] R)) (retK Try.prog [ResultVar.tmp 4] R)) (up (up (up (up (rho0 [a0, a1]) 3 x3) 4 (Value.int .i64 0)) 8 a0) 9 x9) w)
theorem queue_Queue_Send_eq (a0 a1 : Value) (w : World) (R : Value → World → Prop) : sx fn_ Try.prog 85 queue_Queue_Send_b (retK Try.prog Try.f25.results.toList R) (rho0 [a0, a1]) w = queue_Queue_Send_F a0 a1 w R := by kernel_rfl
theorem queue_Queue_Send_calls {a0 a1 : Value} {w : World} {R : Value → World → Prop} (h : queue_Queue_Send_F a0 a1 w R) : Calls Try.prog 25 #[a0, a1] w fun e w' => ∃ v, e = .returned v ∧ R v w' :=
  Go.X.calls_of_sx (n := 85) (c := queue_Queue_Send_b) Try.func25 (by kernel_rfl) (by kernel_rfl) (Nat.le_of_ble_eq_true rfl) (by kernel_rfl) (Eq.mpr (queue_Queue_Send_eq a0 a1 w R) h)
noncomputable def queue_Queue_Left_b : Code := (Try.f36.body).getD .skip
noncomputable def queue_Queue_Left_L0 : Code := cAt [1, 1, 1, 0, 1, 0, 0] queue_Queue_Left_b
noncomputable def queue_Queue_Left_R1 : Code := cAt [1, 1, 1, 1] queue_Queue_Left_b
noncomputable def queue_Queue_Left_L2 : Code := cAt [1, 1, 1, 0, 1, 0, 0, 1, 1, 0, 1, 1, 0, 0] queue_Queue_Left_b
noncomputable def queue_Queue_Left_R3 : Code := cAt [1, 1, 1, 0, 1, 0, 0, 1, 1, 0, 1, 1, 0, 0, 1, 1, 1] queue_Queue_Left_b
noncomputable def queue_Queue_Left_L0_F (z : At) (K : Exit → Sl → World → Prop) (ρ : Sl) (w : World) : Prop :=
  VK Try.prog (Instr.next (ρ 14) false 0) w fun x15 w => VK Try.prog (Instr.extract x15 0) w fun x16 w => CondK x16 (VK Try.prog (Instr.entry (ρ 14)) w fun x17 w => VK Try.prog (Instr.extract x17 1) w fun x18 w => IK Try.prog .len #[31] 3 [false] [x18] w fun x20 w => W z Try.prog 36 (Code.loop queue_Queue_Left_L2) (blkK 2 (blkK 1 K)) (up (up (up (up (up (up (up (up ρ 15 x15) 16 x16) 17 x17) 18 x18) 5 x18) 19 x18) 20 x20) 21 (Value.int .i64 0)) w) (K (.exit 0) (up (up ρ 15 x15) 16 x16) w)
theorem queue_Queue_Left_L0_eq (z : At) (K : Exit → Sl → World → Prop) (ρ : Sl) (w : World) : sx z Try.prog 36 queue_Queue_Left_L0 K ρ w = queue_Queue_Left_L0_F z K ρ w := by kernel_rfl
theorem queue_Queue_Left_L0_ok : dstOk 36 queue_Queue_Left_L0 = true := by kernel_rfl
noncomputable def queue_Queue_Left_R1_F (z : At) (K : Exit → Sl → World → Prop) (ρ : Sl) (w : World) : Prop :=
  CK Try.prog (Value.func (Fn.func 59) #[] #[]) [(ρ 3), (Value.func (Fn.func 60) #[] #[])] w fun x34 w => K .ret (up (up (up (up ρ 33 (ρ 3)) 34 x34) 35 (ρ 3)) 2 (ρ 3)) w
theorem queue_Queue_Left_R1_eq (z : At) (K : Exit → Sl → World → Prop) (ρ : Sl) (w : World) : sx z Try.prog 36 queue_Queue_Left_R1 K ρ w = queue_Queue_Left_R1_F z K ρ w := by kernel_rfl
noncomputable def queue_Queue_Left_L2_F (z : At) (K : Exit → Sl → World → Prop) (ρ : Sl) (w : World) : Prop :=
  BK Try.prog .lss 3 (.tmp 21) (.tmp 20) (ρ 21) (ρ 20) w fun x22 w => CondK x22 (VK Try.prog (Instr.indexAt 31 (ρ 19) (ρ 21)) w fun x23 w => VK Try.prog (Instr.loadAt 39 x23) w fun x24 w => VK Try.prog (Instr.alloc 39 true (.tuple #[])) w fun x7 w => UK Try.prog (Instr.storeAt 39 x7 x24) w fun _ w => VK Try.prog (Instr.fieldAt 39 x7 7) w fun x25 w => VK Try.prog (Instr.loadAt 4 x25) w fun x26 w => VK Try.prog (Op.unary UnOp.not x26) w fun x27 w => CondK x27 (VK Try.prog (Instr.loadAt 39 x7) w fun x29 w => VK Try.prog (Instr.buildSlice 31 1 [(0, x29)].toArray) w fun x30 w => IK Try.prog .append #[31, 31] 31 [false, false] [(ρ 3), x30] w fun x31 w => sx z Try.prog 36 queue_Queue_Left_R3 K (up (up (up (up (up (up (up (up (up (up (up (up ρ 22 x22) 23 x23) 24 x24) 7 x7) 25 x25) 26 x26) 27 x27) 28 (ρ 3)) 29 x29) 30 x30) 31 x31) 3 x31) w) (sx z Try.prog 36 queue_Queue_Left_R3 K (up (up (up (up (up (up (up ρ 22 x22) 23 x23) 24 x24) 7 x7) 25 x25) 26 x26) 27 x27) w)) (K (.exit 2) (up ρ 22 x22) w)
theorem queue_Queue_Left_L2_eq (z : At) (K : Exit → Sl → World → Prop) (ρ : Sl) (w : World) : sx z Try.prog 36 queue_Queue_Left_L2 K ρ w = queue_Queue_Left_L2_F z K ρ w := by kernel_rfl
theorem queue_Queue_Left_L2_ok : dstOk 36 queue_Queue_Left_L2 = true := by kernel_rfl
noncomputable def queue_Queue_Left_R3_F (z : At) (K : Exit → Sl → World → Prop) (ρ : Sl) (w : World) : Prop :=
  BK Try.prog .add 3 (.tmp 21) (.const (Value.int .i64 1)) (ρ 21) (Value.int .i64 1) w fun x32 w => K .normal (up (up ρ 32 x32) 21 x32) w
theorem queue_Queue_Left_R3_eq (z : At) (K : Exit → Sl → World → Prop) (ρ : Sl) (w : World) : sx z Try.prog 36 queue_Queue_Left_R3 K ρ w = queue_Queue_Left_R3_F z K ρ w := by kernel_rfl
noncomputable def queue_Queue_Left_F (a0 : Value) (w : World) (R : Value → World → Prop) : Prop :=
  CK Try.prog (Value.func (Fn.func 49) #[] #[]) [a0] w fun x9 w => CondK x9 (R (Value.slice none 0 0) w) (NK Try.prog a0 w fun x11 w => VK Try.prog (Instr.fieldAt 89 x11 0) w fun x12 w => VK Try.prog (Instr.loadAt 86 x12) w fun x13 w => VK Try.prog (Instr.range 86 x13) w fun x14 w => W fn_ Try.prog 36 (Code.loop queue_Queue_Left_L0) (blkK 0 (seqK (sx fn_ Try.prog 36 queue_Queue_Left_R1 (retK Try.prog [ResultVar.tmp 2] R)) (retK Try.prog [ResultVar.tmp 2] R))) (up (up (up (up (up (up (up (up (up (rho0 [a0]) 2 (Value.slice none 0 0)) 3 (Value.slice none 0 0)) 8 a0) 9 x9) 10 a0) 11 x11) 12 x12) 13 x13) 14 x14) w)
theorem queue_Queue_Left_eq (a0 : Value) (w : World) (R : Value → World → Prop) : sx fn_ Try.prog 36 queue_Queue_Left_b (retK Try.prog Try.f36.results.toList R) (rho0 [a0]) w = queue_Queue_Left_F a0 w R := by kernel_rfl
theorem queue_Queue_Left_calls {a0 : Value} {w : World} {R : Value → World → Prop} (h : queue_Queue_Left_F a0 w R) : Calls Try.prog 36 #[a0] w fun e w' => ∃ v, e = .returned v ∧ R v w' :=
  Go.X.calls_of_sx (n := 36) (c := queue_Queue_Left_b) Try.func36 (by kernel_rfl) (by kernel_rfl) (Nat.le_of_ble_eq_true rfl) (by kernel_rfl) (Eq.mpr (queue_Queue_Left_eq a0 w R) h)
noncomputable def dispatcherref13_Queue_Left_b : Code := (Try.f37.body).getD .skip
noncomputable def dispatcherref13_Queue_Left_L0 : Code := cAt [1, 1, 0, 1, 0, 0] dispatcherref13_Queue_Left_b
noncomputable def dispatcherref13_Queue_Left_R1 : Code := cAt [1, 1, 1] dispatcherref13_Queue_Left_b
noncomputable def dispatcherref13_Queue_Left_R2 : Code := cAt [1, 1, 0, 1, 0, 0, 1, 1] dispatcherref13_Queue_Left_b
noncomputable def dispatcherref13_Queue_Left_L3 : Code := cAt [1, 1, 0, 1, 0, 0, 1, 0, 0, 1, 1, 0, 0, 0] dispatcherref13_Queue_Left_b
noncomputable def dispatcherref13_Queue_Left_R4 : Code := cAt [1, 1, 0, 1, 0, 0, 1, 0, 0, 1, 1, 1] dispatcherref13_Queue_Left_b
noncomputable def dispatcherref13_Queue_Left_R5 : Code := cAt [1, 1, 0, 1, 0, 0, 1, 0, 0, 1, 1, 0, 0, 0, 0, 0] dispatcherref13_Queue_Left_b
noncomputable def dispatcherref13_Queue_Left_R6 : Code := cAt [1, 1, 0, 1, 0, 0, 1, 0, 0, 1, 1, 0, 0, 0, 0, 1] dispatcherref13_Queue_Left_b
noncomputable def dispatcherref13_Queue_Left_R7 : Code := cAt [1, 1, 0, 1, 0, 0, 1, 0, 0, 1, 1, 0, 0, 0, 1] dispatcherref13_Queue_Left_b
noncomputable def dispatcherref13_Queue_Left_R8 : Code := cAt [1, 1, 0, 1, 0, 0, 1, 0, 0, 1, 1, 1, 1] dispatcherref13_Queue_Left_b
noncomputable def dispatcherref13_Queue_Left_L0_F (z : At) (K : Exit → Sl → World → Prop) (ρ : Sl) (w : World) : Prop :=
  NK Try.prog (ρ 0) w fun x9 w => VK Try.prog (Instr.fieldAt 97 x9 0) w fun x10 w => VK Try.prog (Instr.loadAt 31 x10) w fun x11 w => IK Try.prog .len #[31] 3 [false] [x11] w fun x12 w => BK Try.prog .lss 3 (.tmp 7) (.tmp 12) (ρ 4) x12 w fun x13 w => CondK x13 (NK Try.prog (ρ 0) w fun x17 w => VK Try.prog (Instr.fieldAt 97 x17 0) w fun x18 w => VK Try.prog (Instr.loadAt 31 x18) w fun x19 w => VK Try.prog (Instr.indexAt 31 x19 (ρ 4)) w fun x21 w => VK Try.prog (Instr.fieldAt 39 x21 7) w fun x22 w => VK Try.prog (Instr.loadAt 4 x22) w fun x23 w => CondK x23 (sx z Try.prog 65 dispatcherref13_Queue_Left_R2 K (up (up (up (up (up (up (up (up (up (up (up (up (up (up (up ρ 7 (ρ 4)) 8 (ρ 0)) 9 x9) 10 x10) 11 x11) 12 x12) 13 x13) 16 (ρ 0)) 17 x17) 18 x18) 19 x19) 20 (ρ 4)) 21 x21) 22 x22) 23 x23) w) (IK Try.prog .len #[31] 3 [false] [(ρ 3)] w fun x25 w => W z Try.prog 65 (Code.loop dispatcherref13_Queue_Left_L3) (blkK 2 (seqK (sx z Try.prog 65 dispatcherref13_Queue_Left_R4 (blkK 1 (seqK (sx z Try.prog 65 dispatcherref13_Queue_Left_R2 K) K))) (blkK 1 (seqK (sx z Try.prog 65 dispatcherref13_Queue_Left_R2 K) K)))) (up (up (up (up (up (up (up (up (up (up (up (up (up (up (up (up (up (up ρ 7 (ρ 4)) 8 (ρ 0)) 9 x9) 10 x10) 11 x11) 12 x12) 13 x13) 16 (ρ 0)) 17 x17) 18 x18) 19 x19) 20 (ρ 4)) 21 x21) 22 x22) 23 x23) 24 (ρ 3)) 25 x25) 5 x25) w)) (K (.exit 0) (up (up (up (up (up (up (up ρ 7 (ρ 4)) 8 (ρ 0)) 9 x9) 10 x10) 11 x11) 12 x12) 13 x13) w)
theorem dispatcherref13_Queue_Left_L0_eq (z : At) (K : Exit → Sl → World → Prop) (ρ : Sl) (w : World) : sx z Try.prog 65 dispatcherref13_Queue_Left_L0 K ρ w = dispatcherref13_Queue_Left_L0_F z K ρ w := by kernel_rfl
theorem dispatcherref13_Queue_Left_L0_ok : dstOk 65 dispatcherref13_Queue_Left_L0 = true := by kernel_rfl
noncomputable def dispatcherref13_Queue_Left_R1_F (z : At) (K : Exit → Sl → World → Prop) (ρ : Sl) (w : World) : Prop :=
  K .ret (up (up ρ 64 (ρ 3)) 2 (ρ 3)) w
theorem dispatcherref13_Queue_Left_R1_eq (z : At) (K : Exit → Sl → World → Prop) (ρ : Sl) (w : World) : sx z Try.prog 65 dispatcherref13_Queue_Left_R1 K ρ w = dispatcherref13_Queue_Left_R1_F z K ρ w := by kernel_rfl
noncomputable def dispatcherref13_Queue_Left_R2_F (z : At) (K : Exit → Sl → World → Prop) (ρ : Sl) (w : World) : Prop :=
  BK Try.prog .add 3 (.tmp 14) (.const (Value.int .i64 1)) (ρ 4) (Value.int .i64 1) w fun x15 w => K .normal (up (up (up ρ 14 (ρ 4)) 15 x15) 4 x15) w
theorem dispatcherref13_Queue_Left_R2_eq (z : At) (K : Exit → Sl → World → Prop) (ρ : Sl) (w : World) : sx z Try.prog 65 dispatcherref13_Queue_Left_R2 K ρ w = dispatcherref13_Queue_Left_R2_F z K ρ w := by kernel_rfl
noncomputable def dispatcherref13_Queue_Left_L3_F (z : At) (K : Exit → Sl → World → Prop) (ρ : Sl) (w : World) : Prop :=
  W z Try.prog 65 dispatcherref13_Queue_Left_R5 (seqK (sx z Try.prog 65 dispatcherref13_Queue_Left_R6 (seqK (sx z Try.prog 65 dispatcherref13_Queue_Left_R7 K) K)) (seqK (sx z Try.prog 65 dispatcherref13_Queue_Left_R7 K) K)) ρ w
theorem dispatcherref13_Queue_Left_L3_eq (z : At) (K : Exit → Sl → World → Prop) (ρ : Sl) (w : World) : sx z Try.prog 65 dispatcherref13_Queue_Left_L3 K ρ w = dispatcherref13_Queue_Left_L3_F z K ρ w := by kernel_rfl
theorem dispatcherref13_Queue_Left_L3_ok : dstOk 65 dispatcherref13_Queue_Left_L3 = true := by kernel_rfl
noncomputable def dispatcherref13_Queue_Left_R4_F (z : At) (K : Exit → Sl → World → Prop) (ρ : Sl) (w : World) : Prop :=
  VK Try.prog (Instr.buildSlice 31 0 [].toArray) w fun x45 w => VK Try.prog (Instr.sliceAt 31 (ρ 3) (some (ρ 5)) none none) w fun x48 w => IK Try.prog .append #[31, 31] 31 [false, false] [x45, x48] w fun x49 w => W z Try.prog 65 dispatcherref13_Queue_Left_R8 K (up (up (up (up (up (up ρ 45 x45) 46 (ρ 3)) 47 (ρ 5)) 48 x48) 49 x49) 6 x49) w
theorem dispatcherref13_Queue_Left_R4_eq (z : At) (K : Exit → Sl → World → Prop) (ρ : Sl) (w : World) : sx z Try.prog 65 dispatcherref13_Queue_Left_R4 K ρ w = dispatcherref13_Queue_Left_R4_F z K ρ w := by kernel_rfl
noncomputable def dispatcherref13_Queue_Left_R5_ops : Array Oper := opsOf dispatcherref13_Queue_Left_R5
def dispatcherref13_Queue_Left_R5_T (K : Exit → Sl → World → Prop) (ρ : Sl) (w : World) : Prop :=
  let C : World → Prop := fun w' => w' = w; QK Try.prog C (do pure (Next.value (← (do eqGuard BinOp.gtr 3 (Operand.tmp 26) (Operand.const (Value.int IntKind.i64 0)) (ρ 5) (Value.int IntKind.i64 0); binOp BinOp.gtr 3 (ρ 5) (Value.int IntKind.i64 0))))) fun x27_1 => QG Try.prog C x27_1 true  (pure (Next.value (ρ 0))) fun x29_1 => QG Try.prog C x27_1 true  (nilCk x29_1) fun x30_1 => QG Try.prog C x27_1 true  (do pure (Next.value (← Instr.fieldAt 97 x30_1 0))) fun x31_1 => QG Try.prog C x27_1 true  (do pure (Next.value (← Instr.loadAt 31 x31_1))) fun x32_1 => QG Try.prog C x27_1 true  (pure (Next.value (ρ 4))) fun x33_1 => QG Try.prog C x27_1 true  (do pure (Next.value (← Instr.indexAt 31 x32_1 x33_1))) fun x34_1 => QG Try.prog C x27_1 true  (do pure (Next.value (← Instr.loadAt 39 x34_1))) fun x35_1 => QG Try.prog C x27_1 true  (pure (Next.value (ρ 3))) fun x36_1 => QG Try.prog C x27_1 true  (pure (Next.value (ρ 5))) fun x37_1 => QG Try.prog C x27_1 true  (do pure (Next.value (← (do eqGuard BinOp.sub 3 (Operand.tmp 37) (Operand.const (Value.int IntKind.i64 1)) x37_1 (Value.int IntKind.i64 1); binOp BinOp.sub 3 x37_1 (Value.int IntKind.i64 1))))) fun x38_1 => QG Try.prog C x27_1 true  (do pure (Next.value (← Instr.indexAt 31 x36_1 x38_1))) fun x39_1 => QG Try.prog C x27_1 true  (do pure (Next.value (← Instr.loadAt 39 x39_1))) fun x40_1 => CG Try.prog x27_1 true (Value.func (Fn.func 61) #[] #[]) [x35_1, x40_1] w fun x41_1 w => PK Try.prog x27_1 x41_1 (Value.bool false) w fun x42_1 w => K Exit.normal (up (up (up (up (up (up (up (up (up (up (up (up (up (up (up (up (up ρ 26 (ρ 5)) 27 x27_1) 28 x27_1) 29 x29_1) 30 x30_1) 31 x31_1) 32 x32_1) 33 x33_1) 34 x34_1) 35 x35_1) 36 x36_1) 37 x37_1) 38 x38_1) 39 x39_1) 40 x40_1) 41 x41_1) 42 x42_1) w
theorem dispatcherref13_Queue_Left_R5_tail {D : List Deferred} {K : Exit → Sl → World → Prop} {ρ : Sl} {w : World} (h : dispatcherref13_Queue_Left_R5_T K ρ { w with drawn := w.drawn + 1 }) : W ⟨none, D⟩ Try.prog 65 dispatcherref13_Queue_Left_R5 K ρ w := by
  have e : dispatcherref13_Queue_Left_R5 = .region (idOf dispatcherref13_Queue_Left_R5) dispatcherref13_Queue_Left_R5_ops true := by kernel_rfl
  have q : sxq Try.prog (fun w' => w' = { w with drawn := w.drawn + 1 }) dispatcherref13_Queue_Left_R5_ops (fun ρ' => sxL Try.prog dispatcherref13_Queue_Left_R5_ops (K .normal) (dispatcherref13_Queue_Left_R5_ops.toList.drop 15) ρ' { w with drawn := w.drawn + 1 }) (dispatcherref13_Queue_Left_R5_ops.toList.take 15) ρ = dispatcherref13_Queue_Left_R5_T K ρ { w with drawn := w.drawn + 1 } := by kernel_rfl
  rw [e]
  exact W_tail 15 (by kernel_rfl) (by kernel_rfl) (by kernel_rfl) (by kernel_rfl) (Eq.mpr q h)
noncomputable def dispatcherref13_Queue_Left_R6_F (z : At) (K : Exit → Sl → World → Prop) (ρ : Sl) (w : World) : Prop :=
  CondK (ρ 42) (K .normal ρ w) (K (.exit 2) ρ w)
theorem dispatcherref13_Queue_Left_R6_eq (z : At) (K : Exit → Sl → World → Prop) (ρ : Sl) (w : World) : sx z Try.prog 65 dispatcherref13_Queue_Left_R6 K ρ w = dispatcherref13_Queue_Left_R6_F z K ρ w := by kernel_rfl
noncomputable def dispatcherref13_Queue_Left_R7_F (z : At) (K : Exit → Sl → World → Prop) (ρ : Sl) (w : World) : Prop :=
  BK Try.prog .sub 3 (.tmp 43) (.const (Value.int .i64 1)) (ρ 5) (Value.int .i64 1) w fun x44 w => K .normal (up (up (up ρ 43 (ρ 5)) 44 x44) 5 x44) w
theorem dispatcherref13_Queue_Left_R7_eq (z : At) (K : Exit → Sl → World → Prop) (ρ : Sl) (w : World) : sx z Try.prog 65 dispatcherref13_Queue_Left_R7 K ρ w = dispatcherref13_Queue_Left_R7_F z K ρ w := by kernel_rfl
noncomputable def dispatcherref13_Queue_Left_R8_ops : Array Oper := opsOf dispatcherref13_Queue_Left_R8
def dispatcherref13_Queue_Left_R8_H (S : World → Prop) (K : Exit → Sl → World → Prop) (ρ : Sl) (w : World) : Prop :=
  HK Try.prog S (do pure (Next.value (← Instr.sliceAt 31 (ρ 3) none (some (ρ 5)) none))) fun x52 => HK Try.prog S (nilCk (ρ 0)) fun x54 => HK Try.prog S (do pure (Next.value (← Instr.fieldAt 97 x54 0))) fun x55 => HK Try.prog S (do pure (Next.value (← Instr.loadAt 31 x55))) fun x56 => HK Try.prog S (do pure (Next.value (← Instr.indexAt 31 x56 (ρ 4)))) fun x58 => HK Try.prog S (do pure (Next.value (← Instr.loadAt 39 x58))) fun x59 => VK Try.prog (Instr.buildSlice 31 1 [(0, x59)].toArray) w fun x60 w => S w ∧ (IK Try.prog Builtin.append #[31, 31] 31 [false, false] [x52, x60] w fun x61 w => S w ∧ (IK Try.prog Builtin.append #[31, 31] 31 [false, false] [x61, (ρ 6)] w fun x63 w => S w ∧ (K Exit.normal (up (up (up (up (up (up (up (up (up (up (up (up (up (up (up ρ 50 (ρ 3)) 51 (ρ 5)) 52 x52) 53 (ρ 0)) 54 x54) 55 x55) 56 x56) 57 (ρ 4)) 58 x58) 59 x59) 62 (ρ 6)) 60 x60) 61 x61) 63 x63) 3 x63) w)))
theorem dispatcherref13_Queue_Left_R8_held {D : List Deferred} (S : World → Prop) {K : Exit → Sl → World → Prop} {ρ : Sl} {w : World} (hS : S { w with drawn := w.drawn + 1 }) (h : dispatcherref13_Queue_Left_R8_H S K ρ { w with drawn := w.drawn + 1 }) : W ⟨none, D⟩ Try.prog 65 dispatcherref13_Queue_Left_R8 K ρ w := by
  have e : dispatcherref13_Queue_Left_R8 = .region (idOf dispatcherref13_Queue_Left_R8) dispatcherref13_Queue_Left_R8_ops true := by kernel_rfl
  have q : sxh Try.prog S dispatcherref13_Queue_Left_R8_ops (K .normal) [(0, true), (1, true), (2, true), (3, true), (4, true), (5, true), (6, true), (7, true), (8, true), (9, true), (12, true), (10, false), (11, false), (13, false), (14, true)] ρ { w with drawn := w.drawn + 1 } = dispatcherref13_Queue_Left_R8_H S K ρ { w with drawn := w.drawn + 1 } := by kernel_rfl
  rw [e]
  exact W_held S [(0, true), (1, true), (2, true), (3, true), (4, true), (5, true), (6, true), (7, true), (8, true), (9, true), (12, true), (10, false), (11, false), (13, false), (14, true)] (by kernel_rfl) (by kernel_rfl) (by kernel_rfl) (by kernel_rfl) hS (Eq.mpr q h)
noncomputable def dispatcherref13_Queue_Left_F (a0 : Value) (w : World) (R : Value → World → Prop) : Prop :=
  W fn_ Try.prog 65 (Code.loop dispatcherref13_Queue_Left_L0) (blkK 0 (seqK (sx fn_ Try.prog 65 dispatcherref13_Queue_Left_R1 (retK Try.prog [ResultVar.tmp 2] R)) (retK Try.prog [ResultVar.tmp 2] R))) (up (up (up (rho0 [a0]) 2 (Value.slice none 0 0)) 3 (Value.slice none 0 0)) 4 (Value.int .i64 0)) w
theorem dispatcherref13_Queue_Left_eq (a0 : Value) (w : World) (R : Value → World → Prop) : sx fn_ Try.prog 65 dispatcherref13_Queue_Left_b (retK Try.prog Try.f37.results.toList R) (rho0 [a0]) w = dispatcherref13_Queue_Left_F a0 w R := by kernel_rfl
theorem dispatcherref13_Queue_Left_calls {a0 : Value} {w : World} {R : Value → World → Prop} (h : dispatcherref13_Queue_Left_F a0 w R) : Calls Try.prog 37 #[a0] w fun e w' => ∃ v, e = .returned v ∧ R v w' :=
  Go.X.calls_of_sx (n := 65) (c := dispatcherref13_Queue_Left_b) Try.func37 (by kernel_rfl) (by kernel_rfl) (Nat.le_of_ble_eq_true rfl) (by kernel_rfl) (Eq.mpr (dispatcherref13_Queue_Left_eq a0 w R) h)
noncomputable def slices_ContainsFunc_queue_Message_queue_Message_b : Code := (Try.f44.body).getD .skip
noncomputable def slices_ContainsFunc_queue_Message_queue_Message_F (a0 a1 : Value) (w : World) (R : Value → World → Prop) : Prop :=
  CK Try.prog (Value.func (Fn.func 68) #[] #[]) [a0, a1] w fun x7 w => BK Try.prog .geq 3 (.tmp 7) (.const (Value.int .i64 0)) x7 (Value.int .i64 0) w fun x8 w => R x8 w
theorem slices_ContainsFunc_queue_Message_queue_Message_eq (a0 a1 : Value) (w : World) (R : Value → World → Prop) : sx fn_ Try.prog 9 slices_ContainsFunc_queue_Message_queue_Message_b (retK Try.prog Try.f44.results.toList R) (rho0 [a0, a1]) w = slices_ContainsFunc_queue_Message_queue_Message_F a0 a1 w R := by kernel_rfl
theorem slices_ContainsFunc_queue_Message_queue_Message_calls {a0 a1 : Value} {w : World} {R : Value → World → Prop} (h : slices_ContainsFunc_queue_Message_queue_Message_F a0 a1 w R) : Calls Try.prog 44 #[a0, a1] w fun e w' => ∃ v, e = .returned v ∧ R v w' :=
  Go.X.calls_of_sx (n := 9) (c := slices_ContainsFunc_queue_Message_queue_Message_b) Try.func44 (by kernel_rfl) (by kernel_rfl) (Nat.le_of_ble_eq_true rfl) (by kernel_rfl) (Eq.mpr (slices_ContainsFunc_queue_Message_queue_Message_eq a0 a1 w R) h)
noncomputable def queue_Queue_Take_b : Code := (Try.f45.body).getD .skip
noncomputable def queue_Queue_Take_R0 : Code := cAt [1, 1, 1, 1, 1] queue_Queue_Take_b
noncomputable def queue_Queue_Take_R0_F (z : At) (K : Exit → Sl → World → Prop) (ρ : Sl) (w : World) : Prop :=
  K .ret (up ρ 6 (Value.int .i64 0)) w
theorem queue_Queue_Take_R0_eq (z : At) (K : Exit → Sl → World → Prop) (ρ : Sl) (w : World) : sx z Try.prog 31 queue_Queue_Take_R0 K ρ w = queue_Queue_Take_R0_F z K ρ w := by kernel_rfl
noncomputable def queue_Queue_Take_F (a0 a1 a2 : Value) (w : World) (R : Value → World → Prop) : Prop :=
  CK Try.prog (Value.func (Fn.func 49) #[] #[]) [a0] w fun x10 w => CondK x10 (R (Value.int .i64 1) w) (CK Try.prog (Value.func (Fn.func 69) #[] #[]) [a0, a1, a2] w fun x15 w => VK Try.prog (Instr.extract x15 0) w fun x16 w => VK Try.prog (Instr.extract x15 1) w fun x17 w => BK Try.prog .lss 3 (.tmp 18) (.const (Value.int .i64 0)) x17 (Value.int .i64 0) w fun x19 w => MG Try.prog x19 false x16 w fun x21 w => MG Try.prog x19 false x17 w fun x22 w => VG Try.prog x19 false (Instr.indexAt 31 x21 x22) w fun x23 w => VG Try.prog x19 false (Instr.fieldAt 39 x23 7) w fun x24 w => VG Try.prog x19 false (Instr.loadAt 4 x24) w fun x25 w => PK Try.prog x19 (Value.bool true) x25 w fun x26 w => CondK x26 (R (Value.int .i64 2) w) (VK Try.prog (Instr.indexAt 31 x16 x17) w fun x29 w => VK Try.prog (Instr.fieldAt 39 x29 7) w fun x30 w => UK Try.prog (Instr.storeAt 4 x30 (Value.bool true)) w fun _ w => sx fn_ Try.prog 31 queue_Queue_Take_R0 (retK Try.prog [ResultVar.tmp 6] R) (up (up (up (up (up (up (up (up (up (up (up (up (up (up (up (up (up (up (up (up (up (up (up (up (up (rho0 [a0, a1, a2]) 6 (Value.int .i64 0)) 9 a0) 10 x10) 12 a0) 13 a1) 14 a2) 15 x15) 11 x15) 16 x16) 17 x17) 7 x16) 8 x17) 18 x17) 19 x19) 20 x19) 21 x21) 22 x22) 23 x23) 24 x24) 25 x25) 26 x26) 27 x16) 28 x17) 29 x29) 30 x30) w))
theorem queue_Queue_Take_eq (a0 a1 a2 : Value) (w : World) (R : Value → World → Prop) : sx fn_ Try.prog 31 queue_Queue_Take_b (retK Try.prog Try.f45.results.toList R) (rho0 [a0, a1, a2]) w = queue_Queue_Take_F a0 a1 a2 w R := by kernel_rfl
theorem queue_Queue_Take_calls {a0 a1 a2 : Value} {w : World} {R : Value → World → Prop} (h : queue_Queue_Take_F a0 a1 a2 w R) : Calls Try.prog 45 #[a0, a1, a2] w fun e w' => ∃ v, e = .returned v ∧ R v w' :=
  Go.X.calls_of_sx (n := 31) (c := queue_Queue_Take_b) Try.func45 (by kernel_rfl) (by kernel_rfl) (Nat.le_of_ble_eq_true rfl) (by kernel_rfl) (Eq.mpr (queue_Queue_Take_eq a0 a1 a2 w R) h)
noncomputable def queue_Queue_none_b : Code := (Try.f49.body).getD .skip
noncomputable def queue_Queue_none_F (a0 : Value) (w : World) (R : Value → World → Prop) : Prop :=
  BK Try.prog .eql 27 (.tmp 3) (.const (Value.pointer none)) a0 (Value.pointer none) w fun x4 w => MG Try.prog x4 false a0 w fun x6 w => NG Try.prog x4 false x6 w fun x7 w => VG Try.prog x4 false (Instr.fieldAt 89 x7 0) w fun x8 w => VG Try.prog x4 false (Instr.loadAt 86 x8) w fun x9 w => BG Try.prog x4 false .eql 86 (.tmp 9) (.const (Value.map none)) x9 (Value.map none) w fun x10 w => PK Try.prog x4 (Value.bool true) x10 w fun x11 w => R x11 w
theorem queue_Queue_none_eq (a0 : Value) (w : World) (R : Value → World → Prop) : sx fn_ Try.prog 12 queue_Queue_none_b (retK Try.prog Try.f49.results.toList R) (rho0 [a0]) w = queue_Queue_none_F a0 w R := by kernel_rfl
theorem queue_Queue_none_calls {a0 : Value} {w : World} {R : Value → World → Prop} (h : queue_Queue_none_F a0 w R) : Calls Try.prog 49 #[a0] w fun e w' => ∃ v, e = .returned v ∧ R v w' :=
  Go.X.calls_of_sx (n := 12) (c := queue_Queue_none_b) Try.func49 (by kernel_rfl) (by kernel_rfl) (Nat.le_of_ble_eq_true rfl) (by kernel_rfl) (Eq.mpr (queue_Queue_none_eq a0 w R) h)
noncomputable def queue_in_b : Code := (Try.f50.body).getD .skip
noncomputable def queue_in_F (a0 a1 a2 : Value) (w : World) (R : Value → World → Prop) : Prop :=
  BK Try.prog .geq 3 (.tmp 7) (.tmp 8) a0 a1 w fun x9 w => MG Try.prog x9 true a0 w fun x11 w => MG Try.prog x9 true a2 w fun x12 w => BG Try.prog x9 true .leq 3 (.tmp 11) (.tmp 12) x11 x12 w fun x13 w => PK Try.prog x9 x13 (Value.bool false) w fun x14 w => R x14 w
theorem queue_in_eq (a0 a1 a2 : Value) (w : World) (R : Value → World → Prop) : sx fn_ Try.prog 15 queue_in_b (retK Try.prog Try.f50.results.toList R) (rho0 [a0, a1, a2]) w = queue_in_F a0 a1 a2 w R := by kernel_rfl
theorem queue_in_calls {a0 a1 a2 : Value} {w : World} {R : Value → World → Prop} (h : queue_in_F a0 a1 a2 w R) : Calls Try.prog 50 #[a0, a1, a2] w fun e w' => ∃ v, e = .returned v ∧ R v w' :=
  Go.X.calls_of_sx (n := 15) (c := queue_in_b) Try.func50 (by kernel_rfl) (by kernel_rfl) (Nat.le_of_ble_eq_true rfl) (by kernel_rfl) (Eq.mpr (queue_in_eq a0 a1 a2 w R) h)
noncomputable def dispatcherref13_Queue_Send_b : Code := (Try.f52.body).getD .skip
noncomputable def dispatcherref13_Queue_Send_R0 : Code := cAt [1, 0, 1] dispatcherref13_Queue_Send_b
noncomputable def dispatcherref13_Queue_Send_R1 : Code := cAt [1, 1] dispatcherref13_Queue_Send_b
noncomputable def dispatcherref13_Queue_Send_R2 : Code := cAt [1, 1, 0] dispatcherref13_Queue_Send_b
noncomputable def dispatcherref13_Queue_Send_R3 : Code := cAt [1, 1, 1] dispatcherref13_Queue_Send_b
noncomputable def dispatcherref13_Queue_Send_R0_F (z : At) (K : Exit → Sl → World → Prop) (ρ : Sl) (w : World) : Prop :=
  CondK (ρ 60) (K .ret (up ρ 4 (Value.int .i64 2)) w) (K .normal ρ w)
theorem dispatcherref13_Queue_Send_R0_eq (z : At) (K : Exit → Sl → World → Prop) (ρ : Sl) (w : World) : sx z Try.prog 71 dispatcherref13_Queue_Send_R0 K ρ w = dispatcherref13_Queue_Send_R0_F z K ρ w := by kernel_rfl
noncomputable def dispatcherref13_Queue_Send_R1_F (z : At) (K : Exit → Sl → World → Prop) (ρ : Sl) (w : World) : Prop :=
  W z Try.prog 71 dispatcherref13_Queue_Send_R2 (seqK (sx z Try.prog 71 dispatcherref13_Queue_Send_R3 K) K) ρ w
theorem dispatcherref13_Queue_Send_R1_eq (z : At) (K : Exit → Sl → World → Prop) (ρ : Sl) (w : World) : sx z Try.prog 71 dispatcherref13_Queue_Send_R1 K ρ w = dispatcherref13_Queue_Send_R1_F z K ρ w := by kernel_rfl
noncomputable def dispatcherref13_Queue_Send_R2_ops : Array Oper := opsOf dispatcherref13_Queue_Send_R2
def dispatcherref13_Queue_Send_R2_H (S : World → Prop) (K : Exit → Sl → World → Prop) (ρ : Sl) (w : World) : Prop :=
  HK Try.prog S (nilCk (ρ 0)) fun x63 => HK Try.prog S (do pure (Next.value (← Instr.fieldAt 97 x63 0))) fun x64 => HK Try.prog S (do pure (Next.value (← Instr.loadAt 39 (ρ 3)))) fun x66 => (VK Try.prog (Instr.loadAt 31 x64) w fun x65 w => S w ∧ (VK Try.prog (Instr.buildSlice 31 1 [(0, x66)].toArray) w fun x67 w => S w ∧ (IK Try.prog Builtin.append #[31, 31] 31 [false, false] [x65, x67] w fun x68 w => S w ∧ (HK Try.prog S (nilCk (ρ 0)) fun x69 => HK Try.prog S (do pure (Next.value (← Instr.fieldAt 97 x69 0))) fun x70 => UK Try.prog (Instr.storeAt 31 x70 x68) w fun _ w => S w ∧ (K Exit.normal (up (up (up (up (up (up (up (up (up (up ρ 61 (ρ 0)) 62 (ρ 0)) 63 x63) 64 x64) 66 x66) 65 x65) 67 x67) 68 x68) 69 x69) 70 x70) w))))) ∧ (VK Try.prog (Instr.buildSlice 31 1 [(0, x66)].toArray) w fun x67_1 w => S w ∧ (VK Try.prog (Instr.loadAt 31 x64) w fun x65_1 w => S w ∧ (IK Try.prog Builtin.append #[31, 31] 31 [false, false] [x65_1, x67_1] w fun x68_1 w => S w ∧ (HK Try.prog S (nilCk (ρ 0)) fun x69_1 => HK Try.prog S (do pure (Next.value (← Instr.fieldAt 97 x69_1 0))) fun x70_1 => UK Try.prog (Instr.storeAt 31 x70_1 x68_1) w fun _ w => S w ∧ (K Exit.normal (up (up (up (up (up (up (up (up (up (up ρ 61 (ρ 0)) 62 (ρ 0)) 63 x63) 64 x64) 66 x66) 67 x67_1) 65 x65_1) 68 x68_1) 69 x69_1) 70 x70_1) w)))))
theorem dispatcherref13_Queue_Send_R2_held {D : List Deferred} (S : World → Prop) {K : Exit → Sl → World → Prop} {ρ : Sl} {w : World} (hS : S { w with drawn := w.drawn + 1 }) (h : dispatcherref13_Queue_Send_R2_H S K ρ { w with drawn := w.drawn + 1 }) : W ⟨none, D⟩ Try.prog 71 dispatcherref13_Queue_Send_R2 K ρ w := by
  have e : dispatcherref13_Queue_Send_R2 = .region (idOf dispatcherref13_Queue_Send_R2) dispatcherref13_Queue_Send_R2_ops true := by kernel_rfl
  have q : sxd Try.prog S dispatcherref13_Queue_Send_R2_ops (K .normal) (Pd.take 0 (Pd.take 1 (Pd.take 2 (Pd.take 3 (Pd.take 5 (Pd.two false false 4 6 (Pd.only false 6 (Pd.only false 7 (Pd.take 8 (Pd.take 9 (Pd.only false 10 Pd.done))))) (Pd.only false 4 (Pd.only false 7 (Pd.take 8 (Pd.take 9 (Pd.only false 10 Pd.done))))))))))) ρ { w with drawn := w.drawn + 1 } = dispatcherref13_Queue_Send_R2_H S K ρ { w with drawn := w.drawn + 1 } := by kernel_rfl
  rw [e]
  exact W_pland S (Pd.take 0 (Pd.take 1 (Pd.take 2 (Pd.take 3 (Pd.take 5 (Pd.two false false 4 6 (Pd.only false 6 (Pd.only false 7 (Pd.take 8 (Pd.take 9 (Pd.only false 10 Pd.done))))) (Pd.only false 4 (Pd.only false 7 (Pd.take 8 (Pd.take 9 (Pd.only false 10 Pd.done))))))))))) (by kernel_rfl) (by kernel_rfl) (by kernel_rfl) (by kernel_rfl) hS (Eq.mpr q h)
noncomputable def dispatcherref13_Queue_Send_R3_F (z : At) (K : Exit → Sl → World → Prop) (ρ : Sl) (w : World) : Prop :=
  K .ret (up ρ 4 (Value.int .i64 0)) w
theorem dispatcherref13_Queue_Send_R3_eq (z : At) (K : Exit → Sl → World → Prop) (ρ : Sl) (w : World) : sx z Try.prog 71 dispatcherref13_Queue_Send_R3 K ρ w = dispatcherref13_Queue_Send_R3_F z K ρ w := by kernel_rfl
noncomputable def dispatcherref13_Queue_Send_F (a0 a1 : Value) (w : World) (R : Value → World → Prop) : Prop :=
  VK Try.prog (Instr.box 39 a1) w fun x3 w => VK Try.prog (Instr.fieldAt 39 x3 1) w fun x5 w => VK Try.prog (Instr.loadAt 3 x5) w fun x6 w => BK Try.prog .lss 3 (.tmp 6) (.const (Value.int .i64 0)) x6 (Value.int .i64 0) w fun x7 w => VG Try.prog x7 false (Instr.fieldAt 39 x3 1) w fun x9 w => VG Try.prog x7 false (Instr.loadAt 3 x9) w fun x10 w => BG Try.prog x7 false .gtr 3 (.tmp 10) (.const (Value.int .i64 63)) x10 (Value.int .i64 63) w fun x11 w => PK Try.prog x7 (Value.bool true) x11 w fun x12 w => VG Try.prog x12 false (Instr.fieldAt 39 x3 2) w fun x14 w => VG Try.prog x12 false (Instr.loadAt 3 x14) w fun x15 w => BG Try.prog x12 false .lss 3 (.tmp 15) (.const (Value.int .i64 0)) x15 (Value.int .i64 0) w fun x16 w => PK Try.prog x12 (Value.bool true) x16 w fun x17 w => VG Try.prog x17 false (Instr.fieldAt 39 x3 2) w fun x19 w => VG Try.prog x17 false (Instr.loadAt 3 x19) w fun x20 w => BG Try.prog x17 false .gtr 3 (.tmp 20) (.const (Value.int .i64 63)) x20 (Value.int .i64 63) w fun x21 w => PK Try.prog x17 (Value.bool true) x21 w fun x22 w => VG Try.prog x22 false (Instr.fieldAt 39 x3 3) w fun x24 w => VG Try.prog x22 false (Instr.loadAt 3 x24) w fun x25 w => BG Try.prog x22 false .lss 3 (.tmp 25) (.const (Value.int .i64 0)) x25 (Value.int .i64 0) w fun x26 w => PK Try.prog x22 (Value.bool true) x26 w fun x27 w => VG Try.prog x27 false (Instr.fieldAt 39 x3 4) w fun x29 w => VG Try.prog x27 false (Instr.loadAt 3 x29) w fun x30 w => BG Try.prog x27 false .lss 3 (.tmp 30) (.const (Value.int .i64 0)) x30 (Value.int .i64 0) w fun x31 w => PK Try.prog x27 (Value.bool true) x31 w fun x32 w => VG Try.prog x32 false (Instr.fieldAt 39 x3 4) w fun x34 w => VG Try.prog x32 false (Instr.loadAt 3 x34) w fun x35 w => BG Try.prog x32 false .gtr 3 (.tmp 35) (.const (Value.int .i64 32767)) x35 (Value.int .i64 32767) w fun x36 w => PK Try.prog x32 (Value.bool true) x36 w fun x37 w => VG Try.prog x37 false (Instr.fieldAt 39 x3 6) w fun x39 w => VG Try.prog x37 false (Instr.loadAt 3 x39) w fun x40 w => BG Try.prog x37 false .lss 3 (.tmp 40) (.const (Value.int .i64 1)) x40 (Value.int .i64 1) w fun x41 w => PK Try.prog x37 (Value.bool true) x41 w fun x42 w => VG Try.prog x42 false (Instr.fieldAt 39 x3 6) w fun x44 w => VG Try.prog x42 false (Instr.loadAt 3 x44) w fun x45 w => BG Try.prog x42 false .gtr 3 (.tmp 45) (.const (Value.int .i64 64)) x45 (Value.int .i64 64) w fun x46 w => PK Try.prog x42 (Value.bool true) x46 w fun x47 w => VG Try.prog x47 false (Instr.fieldAt 39 x3 7) w fun x49 w => VG Try.prog x47 false (Instr.loadAt 4 x49) w fun x50 w => PK Try.prog x47 (Value.bool true) x50 w fun x51 w => MG Try.prog x51 false a0 w fun x53 w => VG Try.prog x51 false (Instr.fieldAt 39 x3 1) w fun x54 w => VG Try.prog x51 false (Instr.loadAt 3 x54) w fun x55 w => VG Try.prog x51 false (Instr.fieldAt 39 x3 3) w fun x56 w => VG Try.prog x51 false (Instr.loadAt 3 x56) w fun x57 w => CG Try.prog x51 false (Value.func (Fn.func 70) #[] #[]) [x53, x55, x57] w fun x58 w => BG Try.prog x51 false .geq 3 (.tmp 58) (.const (Value.int .i64 0)) x58 (Value.int .i64 0) w fun x59 w => PK Try.prog x51 (Value.bool true) x59 w fun x60 w => sx fn_ Try.prog 71 dispatcherref13_Queue_Send_R0 (seqK (sx fn_ Try.prog 71 dispatcherref13_Queue_Send_R1 (retK Try.prog [ResultVar.tmp 4] R)) (retK Try.prog [ResultVar.tmp 4] R)) (up (up (up (up (up (up (up (up (up (up (up (up (up (up (up (up (up (up (up (up (up (up (up (up (up (up (up (up (up (up (up (up (up (up (up (up (up (up (up (up (up (up (up (up (up (up (up (up (up (up (up (up (up (up (up (up (up (up (rho0 [a0, a1]) 3 x3) 4 (Value.int .i64 0)) 5 x5) 6 x6) 7 x7) 8 x7) 9 x9) 10 x10) 11 x11) 12 x12) 13 x12) 14 x14) 15 x15) 16 x16) 17 x17) 18 x17) 19 x19) 20 x20) 21 x21) 22 x22) 23 x22) 24 x24) 25 x25) 26 x26) 27 x27) 28 x27) 29 x29) 30 x30) 31 x31) 32 x32) 33 x32) 34 x34) 35 x35) 36 x36) 37 x37) 38 x37) 39 x39) 40 x40) 41 x41) 42 x42) 43 x42) 44 x44) 45 x45) 46 x46) 47 x47) 48 x47) 49 x49) 50 x50) 51 x51) 52 x51) 53 x53) 54 x54) 55 x55) 56 x56) 57 x57) 58 x58) 59 x59) 60 x60) w
theorem dispatcherref13_Queue_Send_eq (a0 a1 : Value) (w : World) (R : Value → World → Prop) : sx fn_ Try.prog 71 dispatcherref13_Queue_Send_b (retK Try.prog Try.f52.results.toList R) (rho0 [a0, a1]) w = dispatcherref13_Queue_Send_F a0 a1 w R := by kernel_rfl
theorem dispatcherref13_Queue_Send_calls {a0 a1 : Value} {w : World} {R : Value → World → Prop} (h : dispatcherref13_Queue_Send_F a0 a1 w R) : Calls Try.prog 52 #[a0, a1] w fun e w' => ∃ v, e = .returned v ∧ R v w' :=
  Go.X.calls_of_sx (n := 71) (c := dispatcherref13_Queue_Send_b) Try.func52 (by kernel_rfl) (by kernel_rfl) (Nat.le_of_ble_eq_true rfl) (by kernel_rfl) (Eq.mpr (dispatcherref13_Queue_Send_eq a0 a1 w R) h)
noncomputable def queue_Queue_Copy_b : Code := (Try.f55.body).getD .skip
noncomputable def queue_Queue_Copy_L0 : Code := cAt [1, 1, 1, 1, 0, 1, 0, 0] queue_Queue_Copy_b
noncomputable def queue_Queue_Copy_R1 : Code := cAt [1, 1, 1, 1, 1] queue_Queue_Copy_b
noncomputable def queue_Queue_Copy_R2 : Code := cAt [1, 1, 1, 1, 0, 1, 0, 0, 1, 1, 0, 1] queue_Queue_Copy_b
noncomputable def queue_Queue_Copy_L3 : Code := cAt [1, 1, 1, 1, 1, 0, 1, 0, 0] queue_Queue_Copy_b
noncomputable def queue_Queue_Copy_R4 : Code := cAt [1, 1, 1, 1, 1, 1] queue_Queue_Copy_b
noncomputable def queue_Queue_Copy_R5 : Code := cAt [1, 1, 1, 1, 1, 0, 1, 0, 0, 1, 1, 0, 1] queue_Queue_Copy_b
noncomputable def queue_Queue_Copy_L0_F (z : At) (K : Exit → Sl → World → Prop) (ρ : Sl) (w : World) : Prop :=
  VK Try.prog (Instr.next (ρ 19) false 0) w fun x20 w => VK Try.prog (Instr.extract x20 0) w fun x21 w => CondK x21 (VK Try.prog (Instr.entry (ρ 19)) w fun x22 w => VK Try.prog (Instr.extract x22 0) w fun x23 w => VK Try.prog (Instr.extract x22 1) w fun x24 w => VK Try.prog (Instr.alloc 91 true (.tuple #[])) w fun x4 w => UK Try.prog (Instr.storeAt 91 x4 x23) w fun _ w => W z Try.prog 49 queue_Queue_Copy_R2 (blkK 1 K) (up (up (up (up (up (up (up ρ 20 x20) 21 x21) 22 x22) 23 x23) 24 x24) 4 x4) 5 x24) w) (K (.exit 0) (up (up ρ 20 x20) 21 x21) w)
theorem queue_Queue_Copy_L0_eq (z : At) (K : Exit → Sl → World → Prop) (ρ : Sl) (w : World) : sx z Try.prog 49 queue_Queue_Copy_L0 K ρ w = queue_Queue_Copy_L0_F z K ρ w := by kernel_rfl
theorem queue_Queue_Copy_L0_ok : dstOk 49 queue_Queue_Copy_L0 = true := by kernel_rfl
noncomputable def queue_Queue_Copy_R1_F (z : At) (K : Exit → Sl → World → Prop) (ρ : Sl) (w : World) : Prop :=
  NK Try.prog (ρ 0) w fun x33 w => VK Try.prog (Instr.fieldAt 89 x33 1) w fun x34 w => VK Try.prog (Instr.loadAt 87 x34) w fun x35 w => VK Try.prog (Instr.range 87 x35) w fun x36 w => W z Try.prog 49 (Code.loop queue_Queue_Copy_L3) (blkK 2 (seqK (sx z Try.prog 49 queue_Queue_Copy_R4 K) K)) (up (up (up (up (up ρ 32 (ρ 0)) 33 x33) 34 x34) 35 x35) 36 x36) w
theorem queue_Queue_Copy_R1_eq (z : At) (K : Exit → Sl → World → Prop) (ρ : Sl) (w : World) : sx z Try.prog 49 queue_Queue_Copy_R1 K ρ w = queue_Queue_Copy_R1_F z K ρ w := by kernel_rfl
noncomputable def queue_Queue_Copy_R2_ops : Array Oper := opsOf queue_Queue_Copy_R2
def queue_Queue_Copy_R2_H (S : World → Prop) (K : Exit → Sl → World → Prop) (ρ : Sl) (w : World) : Prop :=
  HK Try.prog S (nilCk (ρ 3)) fun x26_1 => HK Try.prog S (do pure (Next.value (← Instr.fieldAt 89 x26_1 0))) fun x27_1 => HK Try.prog S (do pure (Next.value (← Instr.loadAt 86 x27_1))) fun x28_1 => HK Try.prog S (do pure (Next.value (← Instr.loadAt 91 (ρ 4)))) fun x29_1 => CK Try.prog (Value.func (Fn.func 72) #[] #[]) [(ρ 5)] w fun x31_1 w => S w ∧ (UK Try.prog (Instr.mapUpdate 86 x28_1 x29_1 x31_1) w fun _ w => S w ∧ (K Exit.normal (up (up (up (up (up (up (up ρ 25 (ρ 3)) 26 x26_1) 27 x27_1) 28 x28_1) 29 x29_1) 30 (ρ 5)) 31 x31_1) w))
theorem queue_Queue_Copy_R2_held {D : List Deferred} (S : World → Prop) {K : Exit → Sl → World → Prop} {ρ : Sl} {w : World} (hS : S { w with drawn := w.drawn + 1 }) (h : queue_Queue_Copy_R2_H S K ρ { w with drawn := w.drawn + 1 }) : W ⟨none, D⟩ Try.prog 49 queue_Queue_Copy_R2 K ρ w := by
  have e : queue_Queue_Copy_R2 = .region (idOf queue_Queue_Copy_R2) queue_Queue_Copy_R2_ops true := by kernel_rfl
  have q : sxh Try.prog S queue_Queue_Copy_R2_ops (K .normal) [(0, true), (1, true), (2, true), (3, true), (4, true), (5, true), (6, false), (7, false)] ρ { w with drawn := w.drawn + 1 } = queue_Queue_Copy_R2_H S K ρ { w with drawn := w.drawn + 1 } := by kernel_rfl
  rw [e]
  exact W_held S [(0, true), (1, true), (2, true), (3, true), (4, true), (5, true), (6, false), (7, false)] (by kernel_rfl) (by kernel_rfl) (by kernel_rfl) (by kernel_rfl) hS (Eq.mpr q h)
noncomputable def queue_Queue_Copy_L3_F (z : At) (K : Exit → Sl → World → Prop) (ρ : Sl) (w : World) : Prop :=
  VK Try.prog (Instr.next (ρ 36) false 0) w fun x37 w => VK Try.prog (Instr.extract x37 0) w fun x38 w => CondK x38 (VK Try.prog (Instr.entry (ρ 36)) w fun x39 w => VK Try.prog (Instr.extract x39 0) w fun x40 w => VK Try.prog (Instr.extract x39 1) w fun x41 w => VK Try.prog (Instr.alloc 94 true (.tuple #[])) w fun x6 w => VK Try.prog (Instr.alloc 91 true (.tuple #[])) w fun x7 w => UK Try.prog (Instr.storeAt 94 x6 x40) w fun _ w => UK Try.prog (Instr.storeAt 91 x7 x41) w fun _ w => W z Try.prog 49 queue_Queue_Copy_R5 (blkK 3 K) (up (up (up (up (up (up (up ρ 37 x37) 38 x38) 39 x39) 40 x40) 41 x41) 6 x6) 7 x7) w) (K (.exit 2) (up (up ρ 37 x37) 38 x38) w)
theorem queue_Queue_Copy_L3_eq (z : At) (K : Exit → Sl → World → Prop) (ρ : Sl) (w : World) : sx z Try.prog 49 queue_Queue_Copy_L3 K ρ w = queue_Queue_Copy_L3_F z K ρ w := by kernel_rfl
theorem queue_Queue_Copy_L3_ok : dstOk 49 queue_Queue_Copy_L3 = true := by kernel_rfl
noncomputable def queue_Queue_Copy_R4_F (z : At) (K : Exit → Sl → World → Prop) (ρ : Sl) (w : World) : Prop :=
  K .ret (up (up ρ 48 (ρ 3)) 2 (ρ 3)) w
theorem queue_Queue_Copy_R4_eq (z : At) (K : Exit → Sl → World → Prop) (ρ : Sl) (w : World) : sx z Try.prog 49 queue_Queue_Copy_R4 K ρ w = queue_Queue_Copy_R4_F z K ρ w := by kernel_rfl
noncomputable def queue_Queue_Copy_R5_ops : Array Oper := opsOf queue_Queue_Copy_R5
def queue_Queue_Copy_R5_T (K : Exit → Sl → World → Prop) (ρ : Sl) (w : World) : Prop :=
  let C : World → Prop := fun w' => w' = w; QK Try.prog C (nilCk (ρ 3)) fun x43 => QK Try.prog C (do pure (Next.value (← Instr.fieldAt 89 x43 1))) fun x44 => QK Try.prog C (do pure (Next.value (← Instr.loadAt 87 x44))) fun x45 => QK Try.prog C (do pure (Next.value (← Instr.loadAt 94 (ρ 6)))) fun x46 => QK Try.prog C (do pure (Next.value (← Instr.loadAt 91 (ρ 7)))) fun x47 => UK Try.prog (Instr.mapUpdate 87 x45 x46 x47) w fun _ w => K Exit.normal (up (up (up (up (up (up ρ 42 (ρ 3)) 43 x43) 44 x44) 45 x45) 46 x46) 47 x47) w
theorem queue_Queue_Copy_R5_tail {D : List Deferred} {K : Exit → Sl → World → Prop} {ρ : Sl} {w : World} (h : queue_Queue_Copy_R5_T K ρ { w with drawn := w.drawn + 1 }) : W ⟨none, D⟩ Try.prog 49 queue_Queue_Copy_R5 K ρ w := by
  have e : queue_Queue_Copy_R5 = .region (idOf queue_Queue_Copy_R5) queue_Queue_Copy_R5_ops true := by kernel_rfl
  have q : sxq Try.prog (fun w' => w' = { w with drawn := w.drawn + 1 }) queue_Queue_Copy_R5_ops (fun ρ' => sxL Try.prog queue_Queue_Copy_R5_ops (K .normal) (queue_Queue_Copy_R5_ops.toList.drop 6) ρ' { w with drawn := w.drawn + 1 }) (queue_Queue_Copy_R5_ops.toList.take 6) ρ = queue_Queue_Copy_R5_T K ρ { w with drawn := w.drawn + 1 } := by kernel_rfl
  rw [e]
  exact W_tail 6 (by kernel_rfl) (by kernel_rfl) (by kernel_rfl) (by kernel_rfl) (Eq.mpr q h)
noncomputable def queue_Queue_Copy_F (a0 : Value) (w : World) (R : Value → World → Prop) : Prop :=
  BK Try.prog .eql 27 (.tmp 8) (.const (Value.pointer none)) a0 (Value.pointer none) w fun x9 w => CondK x9 (R (Value.pointer none) w) (CK Try.prog (Value.func (Fn.func 49) #[] #[]) [a0] w fun x11 w => CondK x11 (VK Try.prog (Instr.build 89 [].toArray) w fun x12 w => VK Try.prog (Instr.box 89 x12) w fun x13 w => R x13 w) (CK Try.prog (Value.func (Fn.func 23) #[] #[]) [] w fun x14 w => NK Try.prog a0 w fun x16 w => VK Try.prog (Instr.fieldAt 89 x16 0) w fun x17 w => VK Try.prog (Instr.loadAt 86 x17) w fun x18 w => VK Try.prog (Instr.range 86 x18) w fun x19 w => W fn_ Try.prog 49 (Code.loop queue_Queue_Copy_L0) (blkK 0 (seqK (sx fn_ Try.prog 49 queue_Queue_Copy_R1 (retK Try.prog [ResultVar.tmp 2] R)) (retK Try.prog [ResultVar.tmp 2] R))) (up (up (up (up (up (up (up (up (up (up (up (up (rho0 [a0]) 2 (Value.pointer none)) 8 a0) 9 x9) 10 a0) 11 x11) 14 x14) 3 x14) 15 a0) 16 x16) 17 x17) 18 x18) 19 x19) w))
theorem queue_Queue_Copy_eq (a0 : Value) (w : World) (R : Value → World → Prop) : sx fn_ Try.prog 49 queue_Queue_Copy_b (retK Try.prog Try.f55.results.toList R) (rho0 [a0]) w = queue_Queue_Copy_F a0 w R := by kernel_rfl
theorem queue_Queue_Copy_calls {a0 : Value} {w : World} {R : Value → World → Prop} (h : queue_Queue_Copy_F a0 w R) : Calls Try.prog 55 #[a0] w fun e w' => ∃ v, e = .returned v ∧ R v w' :=
  Go.X.calls_of_sx (n := 49) (c := queue_Queue_Copy_b) Try.func55 (by kernel_rfl) (by kernel_rfl) (Nat.le_of_ble_eq_true rfl) (by kernel_rfl) (Eq.mpr (queue_Queue_Copy_eq a0 w R) h)
noncomputable def dispatcherref13_Queue_Copy_b : Code := (Try.f56.body).getD .skip
noncomputable def dispatcherref13_Queue_Copy_F (a0 : Value) (w : World) (R : Value → World → Prop) : Prop :=
  VK Try.prog (Instr.buildSlice 31 0 [].toArray) w fun x3 w => NK Try.prog a0 w fun x5 w => VK Try.prog (Instr.fieldAt 97 x5 0) w fun x6 w => VK Try.prog (Instr.loadAt 31 x6) w fun x7 w => IK Try.prog .append #[31, 31] 31 [false, false] [x3, x7] w fun x8 w => VK Try.prog (Instr.build 97 [(0, x8)].toArray) w fun x9 w => VK Try.prog (Instr.box 97 x9) w fun x10 w => R x10 w
theorem dispatcherref13_Queue_Copy_eq (a0 : Value) (w : World) (R : Value → World → Prop) : sx fn_ Try.prog 11 dispatcherref13_Queue_Copy_b (retK Try.prog Try.f56.results.toList R) (rho0 [a0]) w = dispatcherref13_Queue_Copy_F a0 w R := by kernel_rfl
theorem dispatcherref13_Queue_Copy_calls {a0 : Value} {w : World} {R : Value → World → Prop} (h : dispatcherref13_Queue_Copy_F a0 w R) : Calls Try.prog 56 #[a0] w fun e w' => ∃ v, e = .returned v ∧ R v w' :=
  Go.X.calls_of_sx (n := 11) (c := dispatcherref13_Queue_Copy_b) Try.func56 (by kernel_rfl) (by kernel_rfl) (Nat.le_of_ble_eq_true rfl) (by kernel_rfl) (Eq.mpr (dispatcherref13_Queue_Copy_eq a0 w R) h)
noncomputable def slices_SortStableFunc_queue_Message_queue_Message_b : Code := (Try.f59.body).getD .skip
noncomputable def slices_SortStableFunc_queue_Message_queue_Message_F (a0 a1 : Value) (w : World) (R : Value → World → Prop) : Prop :=
  IK Try.prog .len #[31] 3 [false] [a0] w fun x6 w => CK Try.prog (Value.func (Fn.func 74) #[] #[]) [a0, x6, a1] w fun x8 w => R (Value.tuple #[]) w
theorem slices_SortStableFunc_queue_Message_queue_Message_eq (a0 a1 : Value) (w : World) (R : Value → World → Prop) : sx fn_ Try.prog 9 slices_SortStableFunc_queue_Message_queue_Message_b (retK Try.prog Try.f59.results.toList R) (rho0 [a0, a1]) w = slices_SortStableFunc_queue_Message_queue_Message_F a0 a1 w R := by kernel_rfl
theorem slices_SortStableFunc_queue_Message_queue_Message_calls {a0 a1 : Value} {w : World} {R : Value → World → Prop} (h : slices_SortStableFunc_queue_Message_queue_Message_F a0 a1 w R) : Calls Try.prog 59 #[a0, a1] w fun e w' => ∃ v, e = .returned v ∧ R v w' :=
  Go.X.calls_of_sx (n := 9) (c := slices_SortStableFunc_queue_Message_queue_Message_b) Try.func59 (by kernel_rfl) (by kernel_rfl) (Nat.le_of_ble_eq_true rfl) (by kernel_rfl) (Eq.mpr (slices_SortStableFunc_queue_Message_queue_Message_eq a0 a1 w R) h)
noncomputable def queue_order_b : Code := (Try.f60.body).getD .skip
noncomputable def queue_order_R0 : Code := cAt [1, 0] queue_order_b
noncomputable def queue_order_R1 : Code := cAt [1, 1] queue_order_b
noncomputable def queue_order_R0_ops : Array Oper := opsOf queue_order_R0
def queue_order_R0_H (S : World → Prop) (K : Exit → Sl → World → Prop) (ρ : Sl) (w : World) : Prop :=
  HK Try.prog S (do pure (Next.value (← Instr.fieldAt 39 (ρ 2) 0))) fun x5_1 => HK Try.prog S (do pure (Next.value (← Instr.loadAt 9 x5_1))) fun x6_1 => HK Try.prog S (do pure (Next.value (← Instr.fieldAt 39 (ρ 3) 0))) fun x7_1 => HK Try.prog S (do pure (Next.value (← Instr.loadAt 9 x7_1))) fun x8_1 => HK Try.prog S (do pure (Next.value (← Instr.fieldAt 39 (ρ 2) 1))) fun x10_1 => HK Try.prog S (do pure (Next.value (← Instr.loadAt 3 x10_1))) fun x11_1 => HK Try.prog S (do pure (Next.value (← Instr.fieldAt 39 (ρ 3) 1))) fun x12_1 => HK Try.prog S (do pure (Next.value (← Instr.loadAt 3 x12_1))) fun x13_1 => HK Try.prog S (do pure (Next.value (← Instr.fieldAt 39 (ρ 2) 2))) fun x15_1 => HK Try.prog S (do pure (Next.value (← Instr.loadAt 3 x15_1))) fun x16_1 => HK Try.prog S (do pure (Next.value (← Instr.fieldAt 39 (ρ 3) 2))) fun x17_1 => HK Try.prog S (do pure (Next.value (← Instr.loadAt 3 x17_1))) fun x18_1 => CK Try.prog (Value.func (Fn.func 76) #[] #[]) [x6_1, x8_1] w fun x9_1 w => S w ∧ (CK Try.prog (Value.func (Fn.func 77) #[] #[]) [x11_1, x13_1] w fun x14_1 w => S w ∧ (CK Try.prog (Value.func (Fn.func 77) #[] #[]) [x16_1, x18_1] w fun x19_1 w => S w ∧ (VK Try.prog (Instr.buildSlice 107 3 [(0, x9_1), (1, x14_1), (2, x19_1)].toArray) w fun x20_1 w => S w ∧ (CK Try.prog (Value.func (Fn.func 75) #[] #[]) [x20_1] w fun x21_1 w => S w ∧ (K Exit.normal (up (up (up (up (up (up (up (up (up (up (up (up (up (up (up (up (up (up ρ 5 x5_1) 6 x6_1) 7 x7_1) 8 x8_1) 10 x10_1) 11 x11_1) 12 x12_1) 13 x13_1) 15 x15_1) 16 x16_1) 17 x17_1) 18 x18_1) 9 x9_1) 14 x14_1) 19 x19_1) 20 x20_1) 21 x21_1) 4 x21_1) w)))))
theorem queue_order_R0_held {D : List Deferred} (S : World → Prop) {K : Exit → Sl → World → Prop} {ρ : Sl} {w : World} (hS : S { w with drawn := w.drawn + 1 }) (h : queue_order_R0_H S K ρ { w with drawn := w.drawn + 1 }) : W ⟨none, D⟩ Try.prog 22 queue_order_R0 K ρ w := by
  have e : queue_order_R0 = .region (idOf queue_order_R0) queue_order_R0_ops true := by kernel_rfl
  have q : sxh Try.prog S queue_order_R0_ops (K .normal) [(0, true), (1, true), (2, true), (3, true), (5, true), (6, true), (7, true), (8, true), (10, true), (11, true), (12, true), (13, true), (4, false), (9, false), (14, false), (15, false), (16, false), (17, true)] ρ { w with drawn := w.drawn + 1 } = queue_order_R0_H S K ρ { w with drawn := w.drawn + 1 } := by kernel_rfl
  rw [e]
  exact W_held S [(0, true), (1, true), (2, true), (3, true), (5, true), (6, true), (7, true), (8, true), (10, true), (11, true), (12, true), (13, true), (4, false), (9, false), (14, false), (15, false), (16, false), (17, true)] (by kernel_rfl) (by kernel_rfl) (by kernel_rfl) (by kernel_rfl) hS (Eq.mpr q h)
noncomputable def queue_order_R1_F (z : At) (K : Exit → Sl → World → Prop) (ρ : Sl) (w : World) : Prop :=
  K .ret ρ w
theorem queue_order_R1_eq (z : At) (K : Exit → Sl → World → Prop) (ρ : Sl) (w : World) : sx z Try.prog 22 queue_order_R1 K ρ w = queue_order_R1_F z K ρ w := by kernel_rfl
noncomputable def queue_order_F (a0 a1 : Value) (w : World) (R : Value → World → Prop) : Prop :=
  VK Try.prog (Instr.box 39 a0) w fun x2 w => VK Try.prog (Instr.box 39 a1) w fun x3 w => W fn_ Try.prog 22 queue_order_R0 (seqK (sx fn_ Try.prog 22 queue_order_R1 (retK Try.prog [ResultVar.tmp 4] R)) (retK Try.prog [ResultVar.tmp 4] R)) (up (up (up (rho0 [a0, a1]) 2 x2) 3 x3) 4 (Value.int .i64 0)) w
theorem queue_order_eq (a0 a1 : Value) (w : World) (R : Value → World → Prop) : sx fn_ Try.prog 22 queue_order_b (retK Try.prog Try.f60.results.toList R) (rho0 [a0, a1]) w = queue_order_F a0 a1 w R := by kernel_rfl
theorem queue_order_calls {a0 a1 : Value} {w : World} {R : Value → World → Prop} (h : queue_order_F a0 a1 w R) : Calls Try.prog 60 #[a0, a1] w fun e w' => ∃ v, e = .returned v ∧ R v w' :=
  Go.X.calls_of_sx (n := 22) (c := queue_order_b) Try.func60 (by kernel_rfl) (by kernel_rfl) (Nat.le_of_ble_eq_true rfl) (by kernel_rfl) (Eq.mpr (queue_order_eq a0 a1 w R) h)
noncomputable def dispatcherref13_ahead_b : Code := (Try.f61.body).getD .skip
noncomputable def dispatcherref13_ahead_F (a0 a1 : Value) (w : World) (R : Value → World → Prop) : Prop :=
  VK Try.prog (Instr.box 39 a0) w fun x2 w => VK Try.prog (Instr.box 39 a1) w fun x3 w => VK Try.prog (Instr.fieldAt 39 x2 0) w fun x5 w => VK Try.prog (Instr.loadAt 9 x5) w fun x6 w => VK Try.prog (Instr.fieldAt 39 x3 0) w fun x7 w => VK Try.prog (Instr.loadAt 9 x7) w fun x8 w => BK Try.prog .neq 9 (.tmp 6) (.tmp 8) x6 x8 w fun x9 w => CondK x9 (VK Try.prog (Instr.fieldAt 39 x2 0) w fun x10 w => VK Try.prog (Instr.loadAt 9 x10) w fun x11 w => VK Try.prog (Instr.fieldAt 39 x3 0) w fun x12 w => VK Try.prog (Instr.loadAt 9 x12) w fun x13 w => BK Try.prog .lss 9 (.tmp 11) (.tmp 13) x11 x13 w fun x14 w => R x14 w) (VK Try.prog (Instr.fieldAt 39 x2 1) w fun x15 w => VK Try.prog (Instr.loadAt 3 x15) w fun x16 w => VK Try.prog (Instr.fieldAt 39 x3 1) w fun x17 w => VK Try.prog (Instr.loadAt 3 x17) w fun x18 w => BK Try.prog .neq 3 (.tmp 16) (.tmp 18) x16 x18 w fun x19 w => CondK x19 (VK Try.prog (Instr.fieldAt 39 x2 1) w fun x20 w => VK Try.prog (Instr.loadAt 3 x20) w fun x21 w => VK Try.prog (Instr.fieldAt 39 x3 1) w fun x22 w => VK Try.prog (Instr.loadAt 3 x22) w fun x23 w => BK Try.prog .lss 3 (.tmp 21) (.tmp 23) x21 x23 w fun x24 w => R x24 w) (VK Try.prog (Instr.fieldAt 39 x2 2) w fun x25 w => VK Try.prog (Instr.loadAt 3 x25) w fun x26 w => VK Try.prog (Instr.fieldAt 39 x3 2) w fun x27 w => VK Try.prog (Instr.loadAt 3 x27) w fun x28 w => BK Try.prog .lss 3 (.tmp 26) (.tmp 28) x26 x28 w fun x29 w => R x29 w))
theorem dispatcherref13_ahead_eq (a0 a1 : Value) (w : World) (R : Value → World → Prop) : sx fn_ Try.prog 30 dispatcherref13_ahead_b (retK Try.prog Try.f61.results.toList R) (rho0 [a0, a1]) w = dispatcherref13_ahead_F a0 a1 w R := by kernel_rfl
theorem dispatcherref13_ahead_calls {a0 a1 : Value} {w : World} {R : Value → World → Prop} (h : dispatcherref13_ahead_F a0 a1 w R) : Calls Try.prog 61 #[a0, a1] w fun e w' => ∃ v, e = .returned v ∧ R v w' :=
  Go.X.calls_of_sx (n := 30) (c := dispatcherref13_ahead_b) Try.func61 (by kernel_rfl) (by kernel_rfl) (Nat.le_of_ble_eq_true rfl) (by kernel_rfl) (Eq.mpr (dispatcherref13_ahead_eq a0 a1 w R) h)
noncomputable def queue_Queue_Senders_b : Code := (Try.f62.body).getD .skip
noncomputable def queue_Queue_Senders_L0 : Code := cAt [1, 1, 1, 0, 1, 0, 0] queue_Queue_Senders_b
noncomputable def queue_Queue_Senders_R1 : Code := cAt [1, 1, 1, 1] queue_Queue_Senders_b
noncomputable def queue_Queue_Senders_L0_F (z : At) (K : Exit → Sl → World → Prop) (ρ : Sl) (w : World) : Prop :=
  VK Try.prog (Instr.next (ρ 17) false 0) w fun x18 w => VK Try.prog (Instr.extract x18 0) w fun x19 w => CondK x19 (VK Try.prog (Instr.entry (ρ 17)) w fun x20 w => VK Try.prog (Instr.extract x20 0) w fun x21 w => VK Try.prog (Instr.extract x20 1) w fun x22 w => VK Try.prog (Instr.alloc 91 true (.tuple #[])) w fun x8 w => UK Try.prog (Instr.storeAt 91 x8 x21) w fun _ w => CK Try.prog (Value.func (Fn.func 44) #[] #[]) [x22, (Value.func (Fn.func 78) #[] #[])] w fun x24 w => VK Try.prog (Instr.loadAt 91 x8) w fun x25 w => VK Try.prog (Instr.fieldAt 91 x8 1) w fun x27 w => VK Try.prog (Instr.loadAt 3 x27) w fun x28 w => VK Try.prog (Instr.build 91 [(0, (ρ 1)), (1, x28), (2, (ρ 2))].toArray) w fun x30 w => BK Try.prog .eql 91 (.tmp 25) (.tmp 30) x25 x30 w fun x31 w => MG Try.prog x31 true x24 w fun x33 w => PK Try.prog x31 x33 (Value.bool false) w fun x34 w => CondK x34 (VK Try.prog (Instr.fieldAt 91 x8 1) w fun x36 w => VK Try.prog (Instr.loadAt 3 x36) w fun x37 w => VK Try.prog (Instr.buildSlice 107 1 [(0, x37)].toArray) w fun x38 w => IK Try.prog .append #[107, 107] 107 [false, false] [(ρ 7), x38] w fun x39 w => K .normal (up (up (up (up (up (up (up (up (up (up (up (up (up (up (up (up (up (up (up (up (up (up (up (up (up (up ρ 18 x18) 19 x19) 20 x20) 21 x21) 22 x22) 8 x8) 9 x22) 23 x22) 24 x24) 10 x24) 25 x25) 26 (ρ 1)) 27 x27) 28 x28) 29 (ρ 2)) 30 x30) 31 x31) 32 x31) 33 x33) 34 x34) 35 (ρ 7)) 36 x36) 37 x37) 38 x38) 39 x39) 7 x39) w) (K .normal (up (up (up (up (up (up (up (up (up (up (up (up (up (up (up (up (up (up (up (up ρ 18 x18) 19 x19) 20 x20) 21 x21) 22 x22) 8 x8) 9 x22) 23 x22) 24 x24) 10 x24) 25 x25) 26 (ρ 1)) 27 x27) 28 x28) 29 (ρ 2)) 30 x30) 31 x31) 32 x31) 33 x33) 34 x34) w)) (K (.exit 0) (up (up ρ 18 x18) 19 x19) w)
theorem queue_Queue_Senders_L0_eq (z : At) (K : Exit → Sl → World → Prop) (ρ : Sl) (w : World) : sx z Try.prog 43 queue_Queue_Senders_L0 K ρ w = queue_Queue_Senders_L0_F z K ρ w := by kernel_rfl
theorem queue_Queue_Senders_L0_ok : dstOk 43 queue_Queue_Senders_L0 = true := by kernel_rfl
noncomputable def queue_Queue_Senders_R1_F (z : At) (K : Exit → Sl → World → Prop) (ρ : Sl) (w : World) : Prop :=
  CK Try.prog (Value.func (Fn.func 79) #[] #[]) [(ρ 7)] w fun x41 w => K .ret (up (up (up (up ρ 40 (ρ 7)) 41 x41) 42 (ρ 7)) 6 (ρ 7)) w
theorem queue_Queue_Senders_R1_eq (z : At) (K : Exit → Sl → World → Prop) (ρ : Sl) (w : World) : sx z Try.prog 43 queue_Queue_Senders_R1 K ρ w = queue_Queue_Senders_R1_F z K ρ w := by kernel_rfl
noncomputable def queue_Queue_Senders_F (a0 a1 a2 : Value) (w : World) (R : Value → World → Prop) : Prop :=
  CK Try.prog (Value.func (Fn.func 49) #[] #[]) [a0] w fun x12 w => CondK x12 (R (Value.slice none 0 0) w) (NK Try.prog a0 w fun x14 w => VK Try.prog (Instr.fieldAt 89 x14 0) w fun x15 w => VK Try.prog (Instr.loadAt 86 x15) w fun x16 w => VK Try.prog (Instr.range 86 x16) w fun x17 w => W fn_ Try.prog 43 (Code.loop queue_Queue_Senders_L0) (blkK 0 (seqK (sx fn_ Try.prog 43 queue_Queue_Senders_R1 (retK Try.prog [ResultVar.tmp 6] R)) (retK Try.prog [ResultVar.tmp 6] R))) (up (up (up (up (up (up (up (up (up (rho0 [a0, a1, a2]) 6 (Value.slice none 0 0)) 7 (Value.slice none 0 0)) 11 a0) 12 x12) 13 a0) 14 x14) 15 x15) 16 x16) 17 x17) w)
theorem queue_Queue_Senders_eq (a0 a1 a2 : Value) (w : World) (R : Value → World → Prop) : sx fn_ Try.prog 43 queue_Queue_Senders_b (retK Try.prog Try.f62.results.toList R) (rho0 [a0, a1, a2]) w = queue_Queue_Senders_F a0 a1 a2 w R := by kernel_rfl
theorem queue_Queue_Senders_calls {a0 a1 a2 : Value} {w : World} {R : Value → World → Prop} (h : queue_Queue_Senders_F a0 a1 a2 w R) : Calls Try.prog 62 #[a0, a1, a2] w fun e w' => ∃ v, e = .returned v ∧ R v w' :=
  Go.X.calls_of_sx (n := 43) (c := queue_Queue_Senders_b) Try.func62 (by kernel_rfl) (by kernel_rfl) (Nat.le_of_ble_eq_true rfl) (by kernel_rfl) (Eq.mpr (queue_Queue_Senders_eq a0 a1 a2 w R) h)
noncomputable def queue_Queue_First_b : Code := (Try.f63.body).getD .skip
noncomputable def queue_Queue_First_L0 : Code := cAt [1, 1, 0, 1, 0, 0] queue_Queue_First_b
noncomputable def queue_Queue_First_R1 : Code := cAt [1, 1, 1] queue_Queue_First_b
noncomputable def queue_Queue_First_L0_F (z : At) (K : Exit → Sl → World → Prop) (ρ : Sl) (w : World) : Prop :=
  BK Try.prog .lss 3 (.tmp 27) (.tmp 26) (ρ 27) (ρ 26) w fun x28 w => CondK x28 (VK Try.prog (Instr.indexAt 31 (ρ 25) (ρ 27)) w fun x29 w => VK Try.prog (Instr.loadAt 39 x29) w fun x30 w => VK Try.prog (Instr.alloc 39 true (.tuple #[])) w fun x13 w => UK Try.prog (Instr.storeAt 39 x13 x30) w fun _ w => VK Try.prog (Instr.fieldAt 39 x13 7) w fun x31 w => VK Try.prog (Instr.loadAt 4 x31) w fun x32 w => VK Try.prog (Op.unary UnOp.not x32) w fun x33 w => MG Try.prog x33 true (ρ 4) w fun x35 w => BG Try.prog x33 true .eql 3 (.tmp 35) (.const (Value.int .i64 (-1))) x35 (Value.int .i64 (-1)) w fun x36 w => MG Try.prog x33 true x36 w fun x37 w => MG Try.prog x37 false (ρ 4) w fun x38 w => VG Try.prog x37 false (Instr.fieldAt 39 x13 4) w fun x39 w => VG Try.prog x37 false (Instr.loadAt 3 x39) w fun x40 w => BG Try.prog x37 false .eql 3 (.tmp 38) (.tmp 40) x38 x40 w fun x41 w => PG Try.prog x33 true x37 (Value.bool true) x41 w fun x42 w => PK Try.prog x33 x42 (Value.bool false) w fun x43 w => CondK x43 (VK Try.prog (Instr.loadAt 39 x13) w fun x44 w => UK Try.prog (Instr.storeAt 39 (ρ 10) x44) w fun _ w => K .ret (up (up (up (up (up (up (up (up (up (up (up (up (up (up (up (up (up (up (up ρ 28 x28) 29 x29) 30 x30) 13 x13) 31 x31) 32 x32) 33 x33) 34 x33) 35 x35) 36 x36) 37 x37) 38 x38) 39 x39) 40 x40) 41 x41) 42 x42) 43 x43) 44 x44) 11 (Value.bool true)) w) (BK Try.prog .add 3 (.tmp 27) (.const (Value.int .i64 1)) (ρ 27) (Value.int .i64 1) w fun x45 w => K .normal (up (up (up (up (up (up (up (up (up (up (up (up (up (up (up (up (up (up (up ρ 28 x28) 29 x29) 30 x30) 13 x13) 31 x31) 32 x32) 33 x33) 34 x33) 35 x35) 36 x36) 37 x37) 38 x38) 39 x39) 40 x40) 41 x41) 42 x42) 43 x43) 45 x45) 27 x45) w)) (K (.exit 0) (up ρ 28 x28) w)
theorem queue_Queue_First_L0_eq (z : At) (K : Exit → Sl → World → Prop) (ρ : Sl) (w : World) : sx z Try.prog 47 queue_Queue_First_L0 K ρ w = queue_Queue_First_L0_F z K ρ w := by kernel_rfl
theorem queue_Queue_First_L0_ok : dstOk 47 queue_Queue_First_L0 = true := by kernel_rfl
noncomputable def queue_Queue_First_R1_F (z : At) (K : Exit → Sl → World → Prop) (ρ : Sl) (w : World) : Prop :=
  VK Try.prog (Instr.build 39 [].toArray) w fun x46 w => UK Try.prog (Instr.storeAt 39 (ρ 10) x46) w fun _ w => K .ret (up (up ρ 46 x46) 11 (Value.bool false)) w
theorem queue_Queue_First_R1_eq (z : At) (K : Exit → Sl → World → Prop) (ρ : Sl) (w : World) : sx z Try.prog 47 queue_Queue_First_R1 K ρ w = queue_Queue_First_R1_F z K ρ w := by kernel_rfl
noncomputable def queue_Queue_First_F (a0 a1 a2 a3 a4 : Value) (w : World) (R : Value → World → Prop) : Prop :=
  VK Try.prog (Instr.alloc 39 true (.tuple #[])) w fun x10 w => CK Try.prog (Value.func (Fn.func 49) #[] #[]) [a0] w fun x15 w => CondK x15 (VK Try.prog (Instr.build 39 [].toArray) w fun x16 w => UK Try.prog (Instr.storeAt 39 x10 x16) w fun _ w => ∃ x10_1, (do loadVar 39 (← asAddr x10) : Sem Value).run Try.prog w = .ok x10_1 w ∧ R (Value.tuple #[x10_1, (Value.bool false)]) w) (NK Try.prog a0 w fun x18 w => VK Try.prog (Instr.fieldAt 89 x18 0) w fun x19 w => VK Try.prog (Instr.loadAt 86 x19) w fun x20 w => VK Try.prog (Instr.build 91 [(0, a1), (1, a2), (2, a3)].toArray) w fun x24 w => VK Try.prog (Instr.lookup 86 x20 x24 false) w fun x25 w => IK Try.prog .len #[31] 3 [false] [x25] w fun x26 w => W fn_ Try.prog 47 (Code.loop queue_Queue_First_L0) (blkK 0 (seqK (sx fn_ Try.prog 47 queue_Queue_First_R1 (retK Try.prog [ResultVar.cell 10 39, ResultVar.tmp 11] R)) (retK Try.prog [ResultVar.cell 10 39, ResultVar.tmp 11] R))) (up (up (up (up (up (up (up (up (up (up (up (up (up (up (up (rho0 [a0, a1, a2, a3, a4]) 10 x10) 11 (Value.bool false)) 14 a0) 15 x15) 17 a0) 18 x18) 19 x19) 20 x20) 21 a1) 22 a2) 23 a3) 24 x24) 25 x25) 26 x26) 27 (Value.int .i64 0)) w)
theorem queue_Queue_First_eq (a0 a1 a2 a3 a4 : Value) (w : World) (R : Value → World → Prop) : sx fn_ Try.prog 47 queue_Queue_First_b (retK Try.prog Try.f63.results.toList R) (rho0 [a0, a1, a2, a3, a4]) w = queue_Queue_First_F a0 a1 a2 a3 a4 w R := by kernel_rfl
theorem queue_Queue_First_calls {a0 a1 a2 a3 a4 : Value} {w : World} {R : Value → World → Prop} (h : queue_Queue_First_F a0 a1 a2 a3 a4 w R) : Calls Try.prog 63 #[a0, a1, a2, a3, a4] w fun e w' => ∃ v, e = .returned v ∧ R v w' :=
  Go.X.calls_of_sx (n := 47) (c := queue_Queue_First_b) Try.func63 (by kernel_rfl) (by kernel_rfl) (Nat.le_of_ble_eq_true rfl) (by kernel_rfl) (Eq.mpr (queue_Queue_First_eq a0 a1 a2 a3 a4 w R) h)
noncomputable def slices_IndexFunc_queue_Message_queue_Message_b : Code := (Try.f68.body).getD .skip
noncomputable def slices_IndexFunc_queue_Message_queue_Message_L0 : Code := cAt [1, 0, 1, 0, 0] slices_IndexFunc_queue_Message_queue_Message_b
noncomputable def slices_IndexFunc_queue_Message_queue_Message_R1 : Code := cAt [1, 1] slices_IndexFunc_queue_Message_queue_Message_b
noncomputable def slices_IndexFunc_queue_Message_queue_Message_L0_F (z : At) (K : Exit → Sl → World → Prop) (ρ : Sl) (w : World) : Prop :=
  BK Try.prog .lss 3 (.tmp 8) (.tmp 7) (ρ 8) (ρ 7) w fun x9 w => CondK x9 (VK Try.prog (Instr.indexAt 31 (ρ 0) (ρ 8)) w fun x14 w => VK Try.prog (Instr.loadAt 39 x14) w fun x15 w => CK Try.prog (ρ 1) [x15] w fun x16 w => CondK x16 (K .ret (up (up (up (up (up (up (up (up (up (up (up ρ 9 x9) 10 (ρ 8)) 5 (ρ 8)) 11 (ρ 1)) 12 (ρ 0)) 13 (ρ 8)) 14 x14) 15 x15) 16 x16) 17 (ρ 8)) 4 (ρ 8)) w) (BK Try.prog .add 3 (.tmp 8) (.const (Value.int .i64 1)) (ρ 8) (Value.int .i64 1) w fun x18 w => K .normal (up (up (up (up (up (up (up (up (up (up (up ρ 9 x9) 10 (ρ 8)) 5 (ρ 8)) 11 (ρ 1)) 12 (ρ 0)) 13 (ρ 8)) 14 x14) 15 x15) 16 x16) 18 x18) 8 x18) w)) (K (.exit 0) (up ρ 9 x9) w)
theorem slices_IndexFunc_queue_Message_queue_Message_L0_eq (z : At) (K : Exit → Sl → World → Prop) (ρ : Sl) (w : World) : sx z Try.prog 19 slices_IndexFunc_queue_Message_queue_Message_L0 K ρ w = slices_IndexFunc_queue_Message_queue_Message_L0_F z K ρ w := by kernel_rfl
theorem slices_IndexFunc_queue_Message_queue_Message_L0_ok : dstOk 19 slices_IndexFunc_queue_Message_queue_Message_L0 = true := by kernel_rfl
noncomputable def slices_IndexFunc_queue_Message_queue_Message_R1_F (z : At) (K : Exit → Sl → World → Prop) (ρ : Sl) (w : World) : Prop :=
  K .ret (up ρ 4 (Value.int .i64 (-1))) w
theorem slices_IndexFunc_queue_Message_queue_Message_R1_eq (z : At) (K : Exit → Sl → World → Prop) (ρ : Sl) (w : World) : sx z Try.prog 19 slices_IndexFunc_queue_Message_queue_Message_R1 K ρ w = slices_IndexFunc_queue_Message_queue_Message_R1_F z K ρ w := by kernel_rfl
noncomputable def slices_IndexFunc_queue_Message_queue_Message_F (a0 a1 : Value) (w : World) (R : Value → World → Prop) : Prop :=
  IK Try.prog .len #[31] 3 [false] [a0] w fun x7 w => W fn_ Try.prog 19 (Code.loop slices_IndexFunc_queue_Message_queue_Message_L0) (blkK 0 (seqK (sx fn_ Try.prog 19 slices_IndexFunc_queue_Message_queue_Message_R1 (retK Try.prog [ResultVar.tmp 4] R)) (retK Try.prog [ResultVar.tmp 4] R))) (up (up (up (up (rho0 [a0, a1]) 4 (Value.int .i64 0)) 6 a0) 7 x7) 8 (Value.int .i64 0)) w
theorem slices_IndexFunc_queue_Message_queue_Message_eq (a0 a1 : Value) (w : World) (R : Value → World → Prop) : sx fn_ Try.prog 19 slices_IndexFunc_queue_Message_queue_Message_b (retK Try.prog Try.f68.results.toList R) (rho0 [a0, a1]) w = slices_IndexFunc_queue_Message_queue_Message_F a0 a1 w R := by kernel_rfl
theorem slices_IndexFunc_queue_Message_queue_Message_calls {a0 a1 : Value} {w : World} {R : Value → World → Prop} (h : slices_IndexFunc_queue_Message_queue_Message_F a0 a1 w R) : Calls Try.prog 68 #[a0, a1] w fun e w' => ∃ v, e = .returned v ∧ R v w' :=
  Go.X.calls_of_sx (n := 19) (c := slices_IndexFunc_queue_Message_queue_Message_b) Try.func68 (by kernel_rfl) (by kernel_rfl) (Nat.le_of_ble_eq_true rfl) (by kernel_rfl) (Eq.mpr (slices_IndexFunc_queue_Message_queue_Message_eq a0 a1 w R) h)
noncomputable def queue_Queue_find_b : Code := (Try.f69.body).getD .skip
noncomputable def queue_Queue_find_R0 : Code := cAt [1, 1, 0] queue_Queue_find_b
noncomputable def queue_Queue_find_R1 : Code := cAt [1, 1, 1] queue_Queue_find_b
noncomputable def queue_Queue_find_R2 : Code := cAt [1, 1, 1, 1, 0] queue_Queue_find_b
noncomputable def queue_Queue_find_R3 : Code := cAt [1, 1, 1, 1, 1] queue_Queue_find_b
noncomputable def queue_Queue_find_R0_ops : Array Oper := opsOf queue_Queue_find_R0
def queue_Queue_find_R0_H (S : World → Prop) (K : Exit → Sl → World → Prop) (ρ : Sl) (w : World) : Prop :=
  HK Try.prog S (nilCk (ρ 0)) fun x15 => HK Try.prog S (do pure (Next.value (← Instr.fieldAt 89 x15 1))) fun x16 => HK Try.prog S (do pure (Next.value (← Instr.loadAt 87 x16))) fun x17 => HK Try.prog S (do pure (Next.value (← Instr.loadAt 3 (ρ 5)))) fun x19 => HK Try.prog S (do pure (Next.value (← Instr.build 94 [(0, (ρ 1)), (1, x19)].toArray))) fun x20 => HK Try.prog S (do pure (Next.value (← Instr.lookup 87 x17 x20 true))) fun x21 => HK Try.prog S (do pure (Next.value (← Instr.extract x21 0))) fun x22 => HK Try.prog S (do pure (Next.value (← Instr.extract x21 1))) fun x23 => VK Try.prog (Instr.alloc 91 true (.tuple #[])) w fun x8 w => S w ∧ (UK Try.prog (Instr.storeAt 91 x8 x22) w fun _ w => S w ∧ (K Exit.normal (up (up (up (up (up (up (up (up (up (up (up (up (up ρ 14 (ρ 0)) 15 x15) 16 x16) 17 x17) 18 (ρ 1)) 19 x19) 20 x20) 21 x21) 13 x21) 22 x22) 23 x23) 8 x8) 9 x23) w))
theorem queue_Queue_find_R0_held {D : List Deferred} (S : World → Prop) {K : Exit → Sl → World → Prop} {ρ : Sl} {w : World} (hS : S { w with drawn := w.drawn + 1 }) (h : queue_Queue_find_R0_H S K ρ { w with drawn := w.drawn + 1 }) : W ⟨none, D⟩ Try.prog 36 queue_Queue_find_R0 K ρ w := by
  have e : queue_Queue_find_R0 = .region (idOf queue_Queue_find_R0) queue_Queue_find_R0_ops true := by kernel_rfl
  have q : sxh Try.prog S queue_Queue_find_R0_ops (K .normal) [(0, true), (1, true), (2, true), (3, true), (4, true), (5, true), (6, true), (7, true), (8, true), (9, true), (10, true), (11, false), (12, false), (13, true)] ρ { w with drawn := w.drawn + 1 } = queue_Queue_find_R0_H S K ρ { w with drawn := w.drawn + 1 } := by kernel_rfl
  rw [e]
  exact W_held S [(0, true), (1, true), (2, true), (3, true), (4, true), (5, true), (6, true), (7, true), (8, true), (9, true), (10, true), (11, false), (12, false), (13, true)] (by kernel_rfl) (by kernel_rfl) (by kernel_rfl) (by kernel_rfl) hS (Eq.mpr q h)
noncomputable def queue_Queue_find_R1_F (z : At) (K : Exit → Sl → World → Prop) (ρ : Sl) (w : World) : Prop :=
  VK Try.prog (Op.unary UnOp.not (ρ 9)) w fun x25 w => CondK x25 (K .ret (up (up (up (up ρ 24 (ρ 9)) 25 x25) 6 (Value.slice none 0 0)) 7 (Value.int .i64 (-1))) w) (W z Try.prog 36 queue_Queue_find_R2 (seqK (sx z Try.prog 36 queue_Queue_find_R3 K) K) (up (up ρ 24 (ρ 9)) 25 x25) w)
theorem queue_Queue_find_R1_eq (z : At) (K : Exit → Sl → World → Prop) (ρ : Sl) (w : World) : sx z Try.prog 36 queue_Queue_find_R1 K ρ w = queue_Queue_find_R1_F z K ρ w := by kernel_rfl
noncomputable def queue_Queue_find_R2_ops : Array Oper := opsOf queue_Queue_find_R2
def queue_Queue_find_R2_Q (C : World → Prop) (K : Exit → Sl → World → Prop) (ρ : Sl) : Prop :=
  QK Try.prog C (nilCk (ρ 0)) fun x27 => QK Try.prog C (do pure (Next.value (← Instr.fieldAt 89 x27 0))) fun x28 => QK Try.prog C (do pure (Next.value (← Instr.loadAt 86 x28))) fun x29 => QK Try.prog C (do pure (Next.value (← Instr.loadAt 91 (ρ 8)))) fun x30 => QK Try.prog C (do pure (Next.value (← Instr.lookup 86 x29 x30 false))) fun x31 => ∀ w', C w' → K Exit.normal (up (up (up (up (up (up (up ρ 26 (ρ 0)) 27 x27) 28 x28) 29 x29) 30 x30) 31 x31) 10 x31) w'
theorem queue_Queue_find_R2_quiet {D : List Deferred} (C : World → Prop) {K : Exit → Sl → World → Prop} {ρ : Sl} {w : World} (hC : C { w with drawn := w.drawn + 1 }) (h : queue_Queue_find_R2_Q C K ρ) : W ⟨none, D⟩ Try.prog 36 queue_Queue_find_R2 K ρ w := by
  have e : queue_Queue_find_R2 = .region (idOf queue_Queue_find_R2) queue_Queue_find_R2_ops true := by kernel_rfl
  have q : sxq Try.prog C queue_Queue_find_R2_ops (fun ρ' => ∀ w', C w' → K .normal ρ' w') queue_Queue_find_R2_ops.toList ρ = queue_Queue_find_R2_Q C K ρ := by kernel_rfl
  rw [e]
  exact W_quiet C (by kernel_rfl) (by kernel_rfl) (by kernel_rfl) hC (Eq.mpr q h)
noncomputable def queue_Queue_find_R3_F (z : At) (K : Exit → Sl → World → Prop) (ρ : Sl) (w : World) : Prop :=
  VK Try.prog (Instr.makeFunc (Fn.func 80) [].toArray [(ρ 5)].toArray) w fun x34 w => CK Try.prog (Value.func (Fn.func 68) #[] #[]) [(ρ 10), x34] w fun x35 w => K .ret (up (up (up (up (up (up ρ 32 (ρ 10)) 33 (ρ 10)) 34 x34) 35 x35) 6 (ρ 10)) 7 x35) w
theorem queue_Queue_find_R3_eq (z : At) (K : Exit → Sl → World → Prop) (ρ : Sl) (w : World) : sx z Try.prog 36 queue_Queue_find_R3 K ρ w = queue_Queue_find_R3_F z K ρ w := by kernel_rfl
noncomputable def queue_Queue_find_F (a0 a1 a2 : Value) (w : World) (R : Value → World → Prop) : Prop :=
  VK Try.prog (Instr.box 3 a2) w fun x5 w => CK Try.prog (Value.func (Fn.func 49) #[] #[]) [a0] w fun x12 w => CondK x12 (R (Value.tuple #[(Value.slice none 0 0), (Value.int .i64 (-1))]) w) (W fn_ Try.prog 36 queue_Queue_find_R0 (seqK (sx fn_ Try.prog 36 queue_Queue_find_R1 (retK Try.prog [ResultVar.tmp 6, ResultVar.tmp 7] R)) (retK Try.prog [ResultVar.tmp 6, ResultVar.tmp 7] R)) (up (up (up (up (up (rho0 [a0, a1, a2]) 5 x5) 6 (Value.slice none 0 0)) 7 (Value.int .i64 0)) 11 a0) 12 x12) w)
theorem queue_Queue_find_eq (a0 a1 a2 : Value) (w : World) (R : Value → World → Prop) : sx fn_ Try.prog 36 queue_Queue_find_b (retK Try.prog Try.f69.results.toList R) (rho0 [a0, a1, a2]) w = queue_Queue_find_F a0 a1 a2 w R := by kernel_rfl
theorem queue_Queue_find_calls {a0 a1 a2 : Value} {w : World} {R : Value → World → Prop} (h : queue_Queue_find_F a0 a1 a2 w R) : Calls Try.prog 69 #[a0, a1, a2] w fun e w' => ∃ v, e = .returned v ∧ R v w' :=
  Go.X.calls_of_sx (n := 36) (c := queue_Queue_find_b) Try.func69 (by kernel_rfl) (by kernel_rfl) (Nat.le_of_ble_eq_true rfl) (by kernel_rfl) (Eq.mpr (queue_Queue_find_eq a0 a1 a2 w R) h)
noncomputable def dispatcherref13_Queue_place_b : Code := (Try.f70.body).getD .skip
noncomputable def dispatcherref13_Queue_place_L0 : Code := cAt [1, 0, 1, 0, 0] dispatcherref13_Queue_place_b
noncomputable def dispatcherref13_Queue_place_R1 : Code := cAt [1, 1] dispatcherref13_Queue_place_b
noncomputable def dispatcherref13_Queue_place_R2 : Code := cAt [1, 0, 1, 0, 0, 1, 0, 0, 1] dispatcherref13_Queue_place_b
noncomputable def dispatcherref13_Queue_place_R3 : Code := cAt [1, 0, 1, 0, 0, 1, 1] dispatcherref13_Queue_place_b
noncomputable def dispatcherref13_Queue_place_L0_F (z : At) (K : Exit → Sl → World → Prop) (ρ : Sl) (w : World) : Prop :=
  NK Try.prog (ρ 0) w fun x10 w => VK Try.prog (Instr.fieldAt 97 x10 0) w fun x11 w => VK Try.prog (Instr.loadAt 31 x11) w fun x12 w => IK Try.prog .len #[31] 3 [false] [x12] w fun x13 w => BK Try.prog .lss 3 (.tmp 8) (.tmp 13) (ρ 7) x13 w fun x14 w => CondK x14 (NK Try.prog (ρ 0) w fun x18 w => VK Try.prog (Instr.fieldAt 97 x18 0) w fun x19 w => VK Try.prog (Instr.loadAt 31 x19) w fun x20 w => VK Try.prog (Instr.indexAt 31 x20 (ρ 7)) w fun x22 w => VK Try.prog (Instr.fieldAt 39 x22 1) w fun x23 w => VK Try.prog (Instr.loadAt 3 x23) w fun x24 w => BK Try.prog .eql 3 (.tmp 24) (.tmp 25) x24 (ρ 1) w fun x26 w => MG Try.prog x26 true (ρ 0) w fun x28 w => NG Try.prog x26 true x28 w fun x29 w => VG Try.prog x26 true (Instr.fieldAt 97 x29 0) w fun x30 w => VG Try.prog x26 true (Instr.loadAt 31 x30) w fun x31 w => MG Try.prog x26 true (ρ 7) w fun x32 w => VG Try.prog x26 true (Instr.indexAt 31 x31 x32) w fun x33 w => VG Try.prog x26 true (Instr.fieldAt 39 x33 3) w fun x34 w => VG Try.prog x26 true (Instr.loadAt 3 x34) w fun x35 w => MG Try.prog x26 true (ρ 2) w fun x36 w => BG Try.prog x26 true .eql 3 (.tmp 35) (.tmp 36) x35 x36 w fun x37 w => PK Try.prog x26 x37 (Value.bool false) w fun x38 w => sx z Try.prog 40 dispatcherref13_Queue_place_R2 (blkK 1 (seqK (sx z Try.prog 40 dispatcherref13_Queue_place_R3 K) K)) (up (up (up (up (up (up (up (up (up (up (up (up (up (up (up (up (up (up (up (up (up (up (up (up (up (up (up (up (up ρ 8 (ρ 7)) 9 (ρ 0)) 10 x10) 11 x11) 12 x12) 13 x13) 14 x14) 17 (ρ 0)) 18 x18) 19 x19) 20 x20) 21 (ρ 7)) 22 x22) 23 x23) 24 x24) 25 (ρ 1)) 26 x26) 27 x26) 28 x28) 29 x29) 30 x30) 31 x31) 32 x32) 33 x33) 34 x34) 35 x35) 36 x36) 37 x37) 38 x38) w) (K (.exit 0) (up (up (up (up (up (up (up ρ 8 (ρ 7)) 9 (ρ 0)) 10 x10) 11 x11) 12 x12) 13 x13) 14 x14) w)
theorem dispatcherref13_Queue_place_L0_eq (z : At) (K : Exit → Sl → World → Prop) (ρ : Sl) (w : World) : sx z Try.prog 40 dispatcherref13_Queue_place_L0 K ρ w = dispatcherref13_Queue_place_L0_F z K ρ w := by kernel_rfl
theorem dispatcherref13_Queue_place_L0_ok : dstOk 40 dispatcherref13_Queue_place_L0 = true := by kernel_rfl
noncomputable def dispatcherref13_Queue_place_R1_F (z : At) (K : Exit → Sl → World → Prop) (ρ : Sl) (w : World) : Prop :=
  K .ret (up ρ 6 (Value.int .i64 (-1))) w
theorem dispatcherref13_Queue_place_R1_eq (z : At) (K : Exit → Sl → World → Prop) (ρ : Sl) (w : World) : sx z Try.prog 40 dispatcherref13_Queue_place_R1 K ρ w = dispatcherref13_Queue_place_R1_F z K ρ w := by kernel_rfl
noncomputable def dispatcherref13_Queue_place_R2_F (z : At) (K : Exit → Sl → World → Prop) (ρ : Sl) (w : World) : Prop :=
  CondK (ρ 38) (K .ret (up (up ρ 39 (ρ 7)) 6 (ρ 7)) w) (K .normal ρ w)
theorem dispatcherref13_Queue_place_R2_eq (z : At) (K : Exit → Sl → World → Prop) (ρ : Sl) (w : World) : sx z Try.prog 40 dispatcherref13_Queue_place_R2 K ρ w = dispatcherref13_Queue_place_R2_F z K ρ w := by kernel_rfl
noncomputable def dispatcherref13_Queue_place_R3_F (z : At) (K : Exit → Sl → World → Prop) (ρ : Sl) (w : World) : Prop :=
  BK Try.prog .add 3 (.tmp 15) (.const (Value.int .i64 1)) (ρ 7) (Value.int .i64 1) w fun x16 w => K .normal (up (up (up ρ 15 (ρ 7)) 16 x16) 7 x16) w
theorem dispatcherref13_Queue_place_R3_eq (z : At) (K : Exit → Sl → World → Prop) (ρ : Sl) (w : World) : sx z Try.prog 40 dispatcherref13_Queue_place_R3 K ρ w = dispatcherref13_Queue_place_R3_F z K ρ w := by kernel_rfl
noncomputable def dispatcherref13_Queue_place_F (a0 a1 a2 : Value) (w : World) (R : Value → World → Prop) : Prop :=
  W fn_ Try.prog 40 (Code.loop dispatcherref13_Queue_place_L0) (blkK 0 (seqK (sx fn_ Try.prog 40 dispatcherref13_Queue_place_R1 (retK Try.prog [ResultVar.tmp 6] R)) (retK Try.prog [ResultVar.tmp 6] R))) (up (up (rho0 [a0, a1, a2]) 6 (Value.int .i64 0)) 7 (Value.int .i64 0)) w
theorem dispatcherref13_Queue_place_eq (a0 a1 a2 : Value) (w : World) (R : Value → World → Prop) : sx fn_ Try.prog 40 dispatcherref13_Queue_place_b (retK Try.prog Try.f70.results.toList R) (rho0 [a0, a1, a2]) w = dispatcherref13_Queue_place_F a0 a1 a2 w R := by kernel_rfl
theorem dispatcherref13_Queue_place_calls {a0 a1 a2 : Value} {w : World} {R : Value → World → Prop} (h : dispatcherref13_Queue_place_F a0 a1 a2 w R) : Calls Try.prog 70 #[a0, a1, a2] w fun e w' => ∃ v, e = .returned v ∧ R v w' :=
  Go.X.calls_of_sx (n := 40) (c := dispatcherref13_Queue_place_b) Try.func70 (by kernel_rfl) (by kernel_rfl) (Nat.le_of_ble_eq_true rfl) (by kernel_rfl) (Eq.mpr (dispatcherref13_Queue_place_eq a0 a1 a2 w R) h)
noncomputable def dispatcherref13_Queue_Take_b : Code := (Try.f71.body).getD .skip
noncomputable def dispatcherref13_Queue_Take_R0 : Code := cAt [1, 1, 1, 1] dispatcherref13_Queue_Take_b
noncomputable def dispatcherref13_Queue_Take_R0_F (z : At) (K : Exit → Sl → World → Prop) (ρ : Sl) (w : World) : Prop :=
  K .ret (up ρ 6 (Value.int .i64 0)) w
theorem dispatcherref13_Queue_Take_R0_eq (z : At) (K : Exit → Sl → World → Prop) (ρ : Sl) (w : World) : sx z Try.prog 31 dispatcherref13_Queue_Take_R0 K ρ w = dispatcherref13_Queue_Take_R0_F z K ρ w := by kernel_rfl
noncomputable def dispatcherref13_Queue_Take_F (a0 a1 a2 : Value) (w : World) (R : Value → World → Prop) : Prop :=
  CK Try.prog (Value.func (Fn.func 70) #[] #[]) [a0, a1, a2] w fun x11 w => BK Try.prog .lss 3 (.tmp 12) (.const (Value.int .i64 0)) x11 (Value.int .i64 0) w fun x13 w => MG Try.prog x13 false a0 w fun x15 w => NG Try.prog x13 false x15 w fun x16 w => VG Try.prog x13 false (Instr.fieldAt 97 x16 0) w fun x17 w => VG Try.prog x13 false (Instr.loadAt 31 x17) w fun x18 w => MG Try.prog x13 false x11 w fun x19 w => VG Try.prog x13 false (Instr.indexAt 31 x18 x19) w fun x20 w => VG Try.prog x13 false (Instr.fieldAt 39 x20 7) w fun x21 w => VG Try.prog x13 false (Instr.loadAt 4 x21) w fun x22 w => PK Try.prog x13 (Value.bool true) x22 w fun x23 w => CondK x23 (R (Value.int .i64 2) w) (NK Try.prog a0 w fun x25 w => VK Try.prog (Instr.fieldAt 97 x25 0) w fun x26 w => VK Try.prog (Instr.loadAt 31 x26) w fun x27 w => VK Try.prog (Instr.indexAt 31 x27 x11) w fun x29 w => VK Try.prog (Instr.fieldAt 39 x29 7) w fun x30 w => UK Try.prog (Instr.storeAt 4 x30 (Value.bool true)) w fun _ w => sx fn_ Try.prog 31 dispatcherref13_Queue_Take_R0 (retK Try.prog [ResultVar.tmp 6] R) (up (up (up (up (up (up (up (up (up (up (up (up (up (up (up (up (up (up (up (up (up (up (up (up (up (rho0 [a0, a1, a2]) 6 (Value.int .i64 0)) 8 a0) 9 a1) 10 a2) 11 x11) 7 x11) 12 x11) 13 x13) 14 x13) 15 x15) 16 x16) 17 x17) 18 x18) 19 x19) 20 x20) 21 x21) 22 x22) 23 x23) 24 a0) 25 x25) 26 x26) 27 x27) 28 x11) 29 x29) 30 x30) w)
theorem dispatcherref13_Queue_Take_eq (a0 a1 a2 : Value) (w : World) (R : Value → World → Prop) : sx fn_ Try.prog 31 dispatcherref13_Queue_Take_b (retK Try.prog Try.f71.results.toList R) (rho0 [a0, a1, a2]) w = dispatcherref13_Queue_Take_F a0 a1 a2 w R := by kernel_rfl
theorem dispatcherref13_Queue_Take_calls {a0 a1 a2 : Value} {w : World} {R : Value → World → Prop} (h : dispatcherref13_Queue_Take_F a0 a1 a2 w R) : Calls Try.prog 71 #[a0, a1, a2] w fun e w' => ∃ v, e = .returned v ∧ R v w' :=
  Go.X.calls_of_sx (n := 31) (c := dispatcherref13_Queue_Take_b) Try.func71 (by kernel_rfl) (by kernel_rfl) (Nat.le_of_ble_eq_true rfl) (by kernel_rfl) (Eq.mpr (dispatcherref13_Queue_Take_eq a0 a1 a2 w R) h)
noncomputable def slices_Clone_queue_Message_queue_Message_b : Code := (Try.f72.body).getD .skip
noncomputable def slices_Clone_queue_Message_queue_Message_F (a0 : Value) (w : World) (R : Value → World → Prop) : Prop :=
  BK Try.prog .eql 31 (.tmp 3) (.const (Value.slice none 0 0)) a0 (Value.slice none 0 0) w fun x4 w => CondK x4 (R (Value.slice none 0 0) w) (VK Try.prog (Instr.buildSlice 31 0 [].toArray) w fun x5 w => IK Try.prog .append #[31, 31] 31 [false, false] [x5, a0] w fun x7 w => R x7 w)
theorem slices_Clone_queue_Message_queue_Message_eq (a0 : Value) (w : World) (R : Value → World → Prop) : sx fn_ Try.prog 8 slices_Clone_queue_Message_queue_Message_b (retK Try.prog Try.f72.results.toList R) (rho0 [a0]) w = slices_Clone_queue_Message_queue_Message_F a0 w R := by kernel_rfl
theorem slices_Clone_queue_Message_queue_Message_calls {a0 : Value} {w : World} {R : Value → World → Prop} (h : slices_Clone_queue_Message_queue_Message_F a0 w R) : Calls Try.prog 72 #[a0] w fun e w' => ∃ v, e = .returned v ∧ R v w' :=
  Go.X.calls_of_sx (n := 8) (c := slices_Clone_queue_Message_queue_Message_b) Try.func72 (by kernel_rfl) (by kernel_rfl) (Nat.le_of_ble_eq_true rfl) (by kernel_rfl) (Eq.mpr (slices_Clone_queue_Message_queue_Message_eq a0 w R) h)
noncomputable def slices_stableCmpFunc_queue_Message_b : Code := (Try.f74.body).getD .skip
noncomputable def slices_stableCmpFunc_queue_Message_L0 : Code := cAt [1, 1, 0, 0, 0] slices_stableCmpFunc_queue_Message_b
noncomputable def slices_stableCmpFunc_queue_Message_R1 : Code := cAt [1, 1, 1] slices_stableCmpFunc_queue_Message_b
noncomputable def slices_stableCmpFunc_queue_Message_L2 : Code := cAt [1, 1, 1, 1, 0, 0] slices_stableCmpFunc_queue_Message_b
noncomputable def slices_stableCmpFunc_queue_Message_L3 : Code := cAt [1, 1, 1, 1, 0, 0, 1, 0, 1, 0, 0, 0] slices_stableCmpFunc_queue_Message_b
noncomputable def slices_stableCmpFunc_queue_Message_R4 : Code := cAt [1, 1, 1, 1, 0, 0, 1, 0, 1, 1] slices_stableCmpFunc_queue_Message_b
noncomputable def slices_stableCmpFunc_queue_Message_R5 : Code := cAt [1, 1, 1, 1, 0, 0, 1, 0, 1, 1, 1] slices_stableCmpFunc_queue_Message_b
noncomputable def slices_stableCmpFunc_queue_Message_L0_F (z : At) (K : Exit → Sl → World → Prop) (ρ : Sl) (w : World) : Prop :=
  BK Try.prog .leq 3 (.tmp 11) (.tmp 12) (ρ 8) (ρ 1) w fun x13 w => CondK x13 (CK Try.prog (Value.func (Fn.func 82) #[] #[]) [(ρ 0), (ρ 7), (ρ 8), (ρ 2)] w fun x18 w => BK Try.prog .add 3 (.tmp 20) (.tmp 21) (ρ 8) (ρ 6) w fun x22 w => K .normal (up (up (up (up (up (up (up (up (up (up (up (up (up (up ρ 11 (ρ 8)) 12 (ρ 1)) 13 x13) 14 (ρ 0)) 15 (ρ 7)) 16 (ρ 8)) 17 (ρ 2)) 18 x18) 19 (ρ 8)) 7 (ρ 8)) 20 (ρ 8)) 21 (ρ 6)) 22 x22) 8 x22) w) (K (.exit 0) (up (up (up ρ 11 (ρ 8)) 12 (ρ 1)) 13 x13) w)
theorem slices_stableCmpFunc_queue_Message_L0_eq (z : At) (K : Exit → Sl → World → Prop) (ρ : Sl) (w : World) : sx z Try.prog 63 slices_stableCmpFunc_queue_Message_L0 K ρ w = slices_stableCmpFunc_queue_Message_L0_F z K ρ w := by kernel_rfl
theorem slices_stableCmpFunc_queue_Message_L0_ok : dstOk 63 slices_stableCmpFunc_queue_Message_L0 = true := by kernel_rfl
noncomputable def slices_stableCmpFunc_queue_Message_R1_F (z : At) (K : Exit → Sl → World → Prop) (ρ : Sl) (w : World) : Prop :=
  CK Try.prog (Value.func (Fn.func 82) #[] #[]) [(ρ 0), (ρ 7), (ρ 1), (ρ 2)] w fun x27 w => W z Try.prog 63 (Code.loop slices_stableCmpFunc_queue_Message_L2) (blkK 2 K) (up (up (up (up (up ρ 23 (ρ 0)) 24 (ρ 7)) 25 (ρ 1)) 26 (ρ 2)) 27 x27) w
theorem slices_stableCmpFunc_queue_Message_R1_eq (z : At) (K : Exit → Sl → World → Prop) (ρ : Sl) (w : World) : sx z Try.prog 63 slices_stableCmpFunc_queue_Message_R1 K ρ w = slices_stableCmpFunc_queue_Message_R1_F z K ρ w := by kernel_rfl
noncomputable def slices_stableCmpFunc_queue_Message_L2_F (z : At) (K : Exit → Sl → World → Prop) (ρ : Sl) (w : World) : Prop :=
  BK Try.prog .lss 3 (.tmp 28) (.tmp 29) (ρ 6) (ρ 1) w fun x30 w => CondK x30 (BK Try.prog .mul 3 (.const (Value.int .i64 2)) (.tmp 31) (Value.int .i64 2) (ρ 6) w fun x32 w => W z Try.prog 63 (Code.loop slices_stableCmpFunc_queue_Message_L3) (blkK 4 (seqK (sx z Try.prog 63 slices_stableCmpFunc_queue_Message_R4 (blkK 3 K)) (blkK 3 K))) (up (up (up (up (up (up (up ρ 28 (ρ 6)) 29 (ρ 1)) 30 x30) 31 (ρ 6)) 32 x32) 7 (Value.int .i64 0)) 8 x32) w) (K (.exit 2) (up (up (up ρ 28 (ρ 6)) 29 (ρ 1)) 30 x30) w)
theorem slices_stableCmpFunc_queue_Message_L2_eq (z : At) (K : Exit → Sl → World → Prop) (ρ : Sl) (w : World) : sx z Try.prog 63 slices_stableCmpFunc_queue_Message_L2 K ρ w = slices_stableCmpFunc_queue_Message_L2_F z K ρ w := by kernel_rfl
theorem slices_stableCmpFunc_queue_Message_L2_ok : dstOk 63 slices_stableCmpFunc_queue_Message_L2 = true := by kernel_rfl
noncomputable def slices_stableCmpFunc_queue_Message_L3_F (z : At) (K : Exit → Sl → World → Prop) (ρ : Sl) (w : World) : Prop :=
  BK Try.prog .leq 3 (.tmp 33) (.tmp 34) (ρ 8) (ρ 1) w fun x35 w => CondK x35 (BK Try.prog .add 3 (.tmp 38) (.tmp 39) (ρ 7) (ρ 6) w fun x40 w => CK Try.prog (Value.func (Fn.func 83) #[] #[]) [(ρ 0), (ρ 7), x40, (ρ 8), (ρ 2)] w fun x43 w => BK Try.prog .mul 3 (.const (Value.int .i64 2)) (.tmp 46) (Value.int .i64 2) (ρ 6) w fun x47 w => BK Try.prog .add 3 (.tmp 45) (.tmp 47) (ρ 8) x47 w fun x48 w => K .normal (up (up (up (up (up (up (up (up (up (up (up (up (up (up (up (up (up (up ρ 33 (ρ 8)) 34 (ρ 1)) 35 x35) 36 (ρ 0)) 37 (ρ 7)) 38 (ρ 7)) 39 (ρ 6)) 40 x40) 41 (ρ 8)) 42 (ρ 2)) 43 x43) 44 (ρ 8)) 7 (ρ 8)) 45 (ρ 8)) 46 (ρ 6)) 47 x47) 48 x48) 8 x48) w) (K (.exit 4) (up (up (up ρ 33 (ρ 8)) 34 (ρ 1)) 35 x35) w)
theorem slices_stableCmpFunc_queue_Message_L3_eq (z : At) (K : Exit → Sl → World → Prop) (ρ : Sl) (w : World) : sx z Try.prog 63 slices_stableCmpFunc_queue_Message_L3 K ρ w = slices_stableCmpFunc_queue_Message_L3_F z K ρ w := by kernel_rfl
theorem slices_stableCmpFunc_queue_Message_L3_ok : dstOk 63 slices_stableCmpFunc_queue_Message_L3 = true := by kernel_rfl
noncomputable def slices_stableCmpFunc_queue_Message_R4_F (z : At) (K : Exit → Sl → World → Prop) (ρ : Sl) (w : World) : Prop :=
  BK Try.prog .add 3 (.tmp 49) (.tmp 50) (ρ 7) (ρ 6) w fun x51 w => BK Try.prog .lss 3 (.tmp 52) (.tmp 53) x51 (ρ 1) w fun x54 w => CondK x54 (CK Try.prog (Value.func (Fn.func 83) #[] #[]) [(ρ 0), (ρ 7), x51, (ρ 1), (ρ 2)] w fun x60 w => sx z Try.prog 63 slices_stableCmpFunc_queue_Message_R5 K (up (up (up (up (up (up (up (up (up (up (up (up (up ρ 49 (ρ 7)) 50 (ρ 6)) 51 x51) 9 x51) 52 x51) 53 (ρ 1)) 54 x54) 55 (ρ 0)) 56 (ρ 7)) 57 x51) 58 (ρ 1)) 59 (ρ 2)) 60 x60) w) (sx z Try.prog 63 slices_stableCmpFunc_queue_Message_R5 K (up (up (up (up (up (up (up ρ 49 (ρ 7)) 50 (ρ 6)) 51 x51) 9 x51) 52 x51) 53 (ρ 1)) 54 x54) w)
theorem slices_stableCmpFunc_queue_Message_R4_eq (z : At) (K : Exit → Sl → World → Prop) (ρ : Sl) (w : World) : sx z Try.prog 63 slices_stableCmpFunc_queue_Message_R4 K ρ w = slices_stableCmpFunc_queue_Message_R4_F z K ρ w := by kernel_rfl
noncomputable def slices_stableCmpFunc_queue_Message_R5_F (z : At) (K : Exit → Sl → World → Prop) (ρ : Sl) (w : World) : Prop :=
  BK Try.prog .mul 3 (.tmp 61) (.const (Value.int .i64 2)) (ρ 6) (Value.int .i64 2) w fun x62 w => K .normal (up (up (up ρ 61 (ρ 6)) 62 x62) 6 x62) w
theorem slices_stableCmpFunc_queue_Message_R5_eq (z : At) (K : Exit → Sl → World → Prop) (ρ : Sl) (w : World) : sx z Try.prog 63 slices_stableCmpFunc_queue_Message_R5 K ρ w = slices_stableCmpFunc_queue_Message_R5_F z K ρ w := by kernel_rfl
noncomputable def slices_stableCmpFunc_queue_Message_F (a0 a1 a2 : Value) (w : World) (R : Value → World → Prop) : Prop :=
  W fn_ Try.prog 63 (Code.loop slices_stableCmpFunc_queue_Message_L0) (blkK 0 (seqK (sx fn_ Try.prog 63 slices_stableCmpFunc_queue_Message_R1 (retK Try.prog [] R)) (retK Try.prog [] R))) (up (up (up (up (rho0 [a0, a1, a2]) 6 (Value.int .i64 20)) 10 (Value.int .i64 20)) 7 (Value.int .i64 0)) 8 (Value.int .i64 20)) w
theorem slices_stableCmpFunc_queue_Message_eq (a0 a1 a2 : Value) (w : World) (R : Value → World → Prop) : sx fn_ Try.prog 63 slices_stableCmpFunc_queue_Message_b (retK Try.prog Try.f74.results.toList R) (rho0 [a0, a1, a2]) w = slices_stableCmpFunc_queue_Message_F a0 a1 a2 w R := by kernel_rfl
theorem slices_stableCmpFunc_queue_Message_calls {a0 a1 a2 : Value} {w : World} {R : Value → World → Prop} (h : slices_stableCmpFunc_queue_Message_F a0 a1 a2 w R) : Calls Try.prog 74 #[a0, a1, a2] w fun e w' => ∃ v, e = .returned v ∧ R v w' :=
  Go.X.calls_of_sx (n := 63) (c := slices_stableCmpFunc_queue_Message_b) Try.func74 (by kernel_rfl) (by kernel_rfl) (Nat.le_of_ble_eq_true rfl) (by kernel_rfl) (Eq.mpr (slices_stableCmpFunc_queue_Message_eq a0 a1 a2 w R) h)
noncomputable def cmp_Or_int_b : Code := (Try.f75.body).getD .skip
noncomputable def cmp_Or_int_L0 : Code := cAt [1, 1, 0, 1, 0, 0] cmp_Or_int_b
noncomputable def cmp_Or_int_R1 : Code := cAt [1, 1, 1] cmp_Or_int_b
noncomputable def cmp_Or_int_L0_F (z : At) (K : Exit → Sl → World → Prop) (ρ : Sl) (w : World) : Prop :=
  BK Try.prog .lss 3 (.tmp 8) (.tmp 7) (ρ 8) (ρ 7) w fun x9 w => CondK x9 (VK Try.prog (Instr.indexAt 107 (ρ 6) (ρ 8)) w fun x10 w => VK Try.prog (Instr.loadAt 3 x10) w fun x11 w => BK Try.prog .neq 3 (.tmp 12) (.tmp 13) x11 (ρ 3) w fun x14 w => CondK x14 (K .ret (up (up (up (up (up (up (up (up (up ρ 9 x9) 10 x10) 11 x11) 5 x11) 12 x11) 13 (ρ 3)) 14 x14) 15 x11) 2 x11) w) (BK Try.prog .add 3 (.tmp 8) (.const (Value.int .i64 1)) (ρ 8) (Value.int .i64 1) w fun x16 w => K .normal (up (up (up (up (up (up (up (up (up ρ 9 x9) 10 x10) 11 x11) 5 x11) 12 x11) 13 (ρ 3)) 14 x14) 16 x16) 8 x16) w)) (K (.exit 0) (up ρ 9 x9) w)
theorem cmp_Or_int_L0_eq (z : At) (K : Exit → Sl → World → Prop) (ρ : Sl) (w : World) : sx z Try.prog 18 cmp_Or_int_L0 K ρ w = cmp_Or_int_L0_F z K ρ w := by kernel_rfl
theorem cmp_Or_int_L0_ok : dstOk 18 cmp_Or_int_L0 = true := by kernel_rfl
noncomputable def cmp_Or_int_R1_F (z : At) (K : Exit → Sl → World → Prop) (ρ : Sl) (w : World) : Prop :=
  K .ret (up (up ρ 17 (ρ 3)) 2 (ρ 3)) w
theorem cmp_Or_int_R1_eq (z : At) (K : Exit → Sl → World → Prop) (ρ : Sl) (w : World) : sx z Try.prog 18 cmp_Or_int_R1 K ρ w = cmp_Or_int_R1_F z K ρ w := by kernel_rfl
noncomputable def cmp_Or_int_F (a0 : Value) (w : World) (R : Value → World → Prop) : Prop :=
  IK Try.prog .len #[107] 3 [false] [a0] w fun x7 w => W fn_ Try.prog 18 (Code.loop cmp_Or_int_L0) (blkK 0 (seqK (sx fn_ Try.prog 18 cmp_Or_int_R1 (retK Try.prog [ResultVar.tmp 2] R)) (retK Try.prog [ResultVar.tmp 2] R))) (up (up (up (up (up (rho0 [a0]) 2 (Value.int .i64 0)) 3 (Value.int .i64 0)) 6 a0) 7 x7) 8 (Value.int .i64 0)) w
theorem cmp_Or_int_eq (a0 : Value) (w : World) (R : Value → World → Prop) : sx fn_ Try.prog 18 cmp_Or_int_b (retK Try.prog Try.f75.results.toList R) (rho0 [a0]) w = cmp_Or_int_F a0 w R := by kernel_rfl
theorem cmp_Or_int_calls {a0 : Value} {w : World} {R : Value → World → Prop} (h : cmp_Or_int_F a0 w R) : Calls Try.prog 75 #[a0] w fun e w' => ∃ v, e = .returned v ∧ R v w' :=
  Go.X.calls_of_sx (n := 18) (c := cmp_Or_int_b) Try.func75 (by kernel_rfl) (by kernel_rfl) (Nat.le_of_ble_eq_true rfl) (by kernel_rfl) (Eq.mpr (cmp_Or_int_eq a0 w R) h)
noncomputable def cmp_Compare_string_b : Code := (Try.f76.body).getD .skip
noncomputable def cmp_Compare_string_F (a0 a1 : Value) (w : World) (R : Value → World → Prop) : Prop :=
  CK Try.prog (Value.func (Fn.func 84) #[] #[]) [a0] w fun x8 w => CK Try.prog (Value.func (Fn.func 84) #[] #[]) [a1] w fun x10 w => CondK x8 (CondK x10 (R (Value.int .i64 0) w) (R (Value.int .i64 (-1)) w)) (CondK x10 (R (Value.int .i64 1) w) (BK Try.prog .lss 9 (.tmp 14) (.tmp 15) a0 a1 w fun x16 w => CondK x16 (R (Value.int .i64 (-1)) w) (BK Try.prog .gtr 9 (.tmp 17) (.tmp 18) a0 a1 w fun x19 w => CondK x19 (R (Value.int .i64 1) w) (R (Value.int .i64 0) w))))
theorem cmp_Compare_string_eq (a0 a1 : Value) (w : World) (R : Value → World → Prop) : sx fn_ Try.prog 20 cmp_Compare_string_b (retK Try.prog Try.f76.results.toList R) (rho0 [a0, a1]) w = cmp_Compare_string_F a0 a1 w R := by kernel_rfl
theorem cmp_Compare_string_calls {a0 a1 : Value} {w : World} {R : Value → World → Prop} (h : cmp_Compare_string_F a0 a1 w R) : Calls Try.prog 76 #[a0, a1] w fun e w' => ∃ v, e = .returned v ∧ R v w' :=
  Go.X.calls_of_sx (n := 20) (c := cmp_Compare_string_b) Try.func76 (by kernel_rfl) (by kernel_rfl) (Nat.le_of_ble_eq_true rfl) (by kernel_rfl) (Eq.mpr (cmp_Compare_string_eq a0 a1 w R) h)
noncomputable def cmp_Compare_int_b : Code := (Try.f77.body).getD .skip
noncomputable def cmp_Compare_int_F (a0 a1 : Value) (w : World) (R : Value → World → Prop) : Prop :=
  CK Try.prog (Value.func (Fn.func 85) #[] #[]) [a0] w fun x8 w => CK Try.prog (Value.func (Fn.func 85) #[] #[]) [a1] w fun x10 w => CondK x8 (CondK x10 (R (Value.int .i64 0) w) (R (Value.int .i64 (-1)) w)) (CondK x10 (R (Value.int .i64 1) w) (BK Try.prog .lss 3 (.tmp 14) (.tmp 15) a0 a1 w fun x16 w => CondK x16 (R (Value.int .i64 (-1)) w) (BK Try.prog .gtr 3 (.tmp 17) (.tmp 18) a0 a1 w fun x19 w => CondK x19 (R (Value.int .i64 1) w) (R (Value.int .i64 0) w))))
theorem cmp_Compare_int_eq (a0 a1 : Value) (w : World) (R : Value → World → Prop) : sx fn_ Try.prog 20 cmp_Compare_int_b (retK Try.prog Try.f77.results.toList R) (rho0 [a0, a1]) w = cmp_Compare_int_F a0 a1 w R := by kernel_rfl
theorem cmp_Compare_int_calls {a0 a1 : Value} {w : World} {R : Value → World → Prop} (h : cmp_Compare_int_F a0 a1 w R) : Calls Try.prog 77 #[a0, a1] w fun e w' => ∃ v, e = .returned v ∧ R v w' :=
  Go.X.calls_of_sx (n := 20) (c := cmp_Compare_int_b) Try.func77 (by kernel_rfl) (by kernel_rfl) (Nat.le_of_ble_eq_true rfl) (by kernel_rfl) (Eq.mpr (cmp_Compare_int_eq a0 a1 w R) h)
noncomputable def queue_Queue_Senders_1_b : Code := (Try.f78.body).getD .skip
noncomputable def queue_Queue_Senders_1_F (a0 : Value) (w : World) (R : Value → World → Prop) : Prop :=
  VK Try.prog (Instr.box 39 a0) w fun x1 w => VK Try.prog (Instr.fieldAt 39 x1 7) w fun x3 w => VK Try.prog (Instr.loadAt 4 x3) w fun x4 w => VK Try.prog (Op.unary UnOp.not x4) w fun x5 w => R x5 w
theorem queue_Queue_Senders_1_eq (a0 : Value) (w : World) (R : Value → World → Prop) : sx fn_ Try.prog 6 queue_Queue_Senders_1_b (retK Try.prog Try.f78.results.toList R) (rho0 [a0]) w = queue_Queue_Senders_1_F a0 w R := by kernel_rfl
theorem queue_Queue_Senders_1_calls {a0 : Value} {w : World} {R : Value → World → Prop} (h : queue_Queue_Senders_1_F a0 w R) : Calls Try.prog 78 #[a0] w fun e w' => ∃ v, e = .returned v ∧ R v w' :=
  Go.X.calls_of_sx (n := 6) (c := queue_Queue_Senders_1_b) Try.func78 (by kernel_rfl) (by kernel_rfl) (Nat.le_of_ble_eq_true rfl) (by kernel_rfl) (Eq.mpr (queue_Queue_Senders_1_eq a0 w R) h)
noncomputable def queue_Queue_find_1_b : Code := (Try.f80.body).getD .skip
noncomputable def queue_Queue_find_1_F (a0 a1 : Value) (w : World) (R : Value → World → Prop) : Prop :=
  VK Try.prog (Instr.box 39 a0) w fun x2 w => VK Try.prog (Instr.fieldAt 39 x2 3) w fun x4 w => VK Try.prog (Instr.loadAt 3 x4) w fun x5 w => VK Try.prog (Instr.loadAt 3 a1) w fun x6 w => BK Try.prog .eql 3 (.tmp 5) (.tmp 6) x5 x6 w fun x7 w => R x7 w
theorem queue_Queue_find_1_eq (a0 a1 : Value) (w : World) (R : Value → World → Prop) : sx fn_ Try.prog 8 queue_Queue_find_1_b (retK Try.prog Try.f80.results.toList R) (rho0 [a0, a1]) w = queue_Queue_find_1_F a0 a1 w R := by kernel_rfl
theorem queue_Queue_find_1_calls {a0 a1 : Value} {w : World} {R : Value → World → Prop} (h : queue_Queue_find_1_F a0 a1 w R) : Calls Try.prog 80 #[a0, a1] w fun e w' => ∃ v, e = .returned v ∧ R v w' :=
  Go.X.calls_of_sx (n := 8) (c := queue_Queue_find_1_b) Try.func80 (by kernel_rfl) (by kernel_rfl) (Nat.le_of_ble_eq_true rfl) (by kernel_rfl) (Eq.mpr (queue_Queue_find_1_eq a0 a1 w R) h)
noncomputable def dispatcherref13_Queue_Ahead_b : Code := (Try.f81.body).getD .skip
noncomputable def dispatcherref13_Queue_Ahead_L0 : Code := cAt [1, 1, 1, 0, 1, 0, 0] dispatcherref13_Queue_Ahead_b
noncomputable def dispatcherref13_Queue_Ahead_R1 : Code := cAt [1, 1, 1, 1] dispatcherref13_Queue_Ahead_b
noncomputable def dispatcherref13_Queue_Ahead_R2 : Code := cAt [1, 1, 1, 0, 1, 0, 0, 1, 1] dispatcherref13_Queue_Ahead_b
noncomputable def dispatcherref13_Queue_Ahead_R3 : Code := cAt [1, 1, 1, 0, 1, 0, 0, 1, 0, 0, 0] dispatcherref13_Queue_Ahead_b
noncomputable def dispatcherref13_Queue_Ahead_R4 : Code := cAt [1, 1, 1, 0, 1, 0, 0, 1, 0, 0, 1] dispatcherref13_Queue_Ahead_b
noncomputable def dispatcherref13_Queue_Ahead_L0_F (z : At) (K : Exit → Sl → World → Prop) (ρ : Sl) (w : World) : Prop :=
  BK Try.prog .lss 3 (.tmp 14) (.tmp 15) (ρ 7) (ρ 6) w fun x16 w => CondK x16 (W z Try.prog 62 dispatcherref13_Queue_Ahead_R3 (seqK (sx z Try.prog 62 dispatcherref13_Queue_Ahead_R4 (blkK 1 (seqK (sx z Try.prog 62 dispatcherref13_Queue_Ahead_R2 K) K))) (blkK 1 (seqK (sx z Try.prog 62 dispatcherref13_Queue_Ahead_R2 K) K))) (up (up (up ρ 14 (ρ 7)) 15 (ρ 6)) 16 x16) w) (K (.exit 0) (up (up (up ρ 14 (ρ 7)) 15 (ρ 6)) 16 x16) w)
theorem dispatcherref13_Queue_Ahead_L0_eq (z : At) (K : Exit → Sl → World → Prop) (ρ : Sl) (w : World) : sx z Try.prog 62 dispatcherref13_Queue_Ahead_L0 K ρ w = dispatcherref13_Queue_Ahead_L0_F z K ρ w := by kernel_rfl
theorem dispatcherref13_Queue_Ahead_L0_ok : dstOk 62 dispatcherref13_Queue_Ahead_L0 = true := by kernel_rfl
noncomputable def dispatcherref13_Queue_Ahead_R1_F (z : At) (K : Exit → Sl → World → Prop) (ρ : Sl) (w : World) : Prop :=
  K .ret (up (up ρ 61 (ρ 5)) 4 (ρ 5)) w
theorem dispatcherref13_Queue_Ahead_R1_eq (z : At) (K : Exit → Sl → World → Prop) (ρ : Sl) (w : World) : sx z Try.prog 62 dispatcherref13_Queue_Ahead_R1 K ρ w = dispatcherref13_Queue_Ahead_R1_F z K ρ w := by kernel_rfl
noncomputable def dispatcherref13_Queue_Ahead_R2_F (z : At) (K : Exit → Sl → World → Prop) (ρ : Sl) (w : World) : Prop :=
  BK Try.prog .add 3 (.tmp 17) (.const (Value.int .i64 1)) (ρ 7) (Value.int .i64 1) w fun x18 w => K .normal (up (up (up ρ 17 (ρ 7)) 18 x18) 7 x18) w
theorem dispatcherref13_Queue_Ahead_R2_eq (z : At) (K : Exit → Sl → World → Prop) (ρ : Sl) (w : World) : sx z Try.prog 62 dispatcherref13_Queue_Ahead_R2 K ρ w = dispatcherref13_Queue_Ahead_R2_F z K ρ w := by kernel_rfl
noncomputable def dispatcherref13_Queue_Ahead_R3_ops : Array Oper := opsOf dispatcherref13_Queue_Ahead_R3
def dispatcherref13_Queue_Ahead_R3_T (K : Exit → Sl → World → Prop) (ρ : Sl) (w : World) : Prop :=
  let C : World → Prop := fun w' => w' = w; QK Try.prog C (nilCk (ρ 0)) fun x20_1 => QK Try.prog C (do pure (Next.value (← Instr.fieldAt 97 x20_1 0))) fun x21_1 => QK Try.prog C (do pure (Next.value (← Instr.loadAt 31 x21_1))) fun x22_1 => QK Try.prog C (do pure (Next.value (← Instr.indexAt 31 x22_1 (ρ 7)))) fun x24_1 => QK Try.prog C (do pure (Next.value (← Instr.loadAt 39 x24_1))) fun x25_1 => QK Try.prog C (nilCk (ρ 0)) fun x27_1 => QK Try.prog C (do pure (Next.value (← Instr.fieldAt 97 x27_1 0))) fun x28_1 => QK Try.prog C (do pure (Next.value (← Instr.loadAt 31 x28_1))) fun x29_1 => QK Try.prog C (do pure (Next.value (← Instr.indexAt 31 x29_1 (ρ 6)))) fun x31_1 => QK Try.prog C (do pure (Next.value (← Instr.fieldAt 39 x31_1 0))) fun x32_1 => QK Try.prog C (do pure (Next.value (← Instr.loadAt 9 x32_1))) fun x33_1 => QK Try.prog C (nilCk (ρ 0)) fun x35_1 => QK Try.prog C (do pure (Next.value (← Instr.fieldAt 97 x35_1 0))) fun x36_1 => QK Try.prog C (do pure (Next.value (← Instr.loadAt 31 x36_1))) fun x37_1 => QK Try.prog C (do pure (Next.value (← Instr.indexAt 31 x37_1 (ρ 6)))) fun x39_1 => QK Try.prog C (do pure (Next.value (← Instr.fieldAt 39 x39_1 1))) fun x40_1 => QK Try.prog C (do pure (Next.value (← Instr.loadAt 3 x40_1))) fun x41_1 => QK Try.prog C (nilCk (ρ 0)) fun x43_1 => QK Try.prog C (do pure (Next.value (← Instr.fieldAt 97 x43_1 0))) fun x44_1 => QK Try.prog C (do pure (Next.value (← Instr.loadAt 31 x44_1))) fun x45_1 => QK Try.prog C (do pure (Next.value (← Instr.indexAt 31 x45_1 (ρ 6)))) fun x47_1 => QK Try.prog C (do pure (Next.value (← Instr.fieldAt 39 x47_1 2))) fun x48_1 => QK Try.prog C (do pure (Next.value (← Instr.loadAt 3 x48_1))) fun x49_1 => CK Try.prog (Value.func (Fn.func 88) #[] #[]) [x25_1, x33_1, x41_1, x49_1] w fun x50_1 w => K Exit.normal (up (up (up (up (up (up (up (up (up (up (up (up (up (up (up (up (up (up (up (up (up (up (up (up (up (up (up (up (up (up (up (up ρ 19 (ρ 0)) 20 x20_1) 21 x21_1) 22 x22_1) 23 (ρ 7)) 24 x24_1) 25 x25_1) 26 (ρ 0)) 27 x27_1) 28 x28_1) 29 x29_1) 30 (ρ 6)) 31 x31_1) 32 x32_1) 33 x33_1) 34 (ρ 0)) 35 x35_1) 36 x36_1) 37 x37_1) 38 (ρ 6)) 39 x39_1) 40 x40_1) 41 x41_1) 42 (ρ 0)) 43 x43_1) 44 x44_1) 45 x45_1) 46 (ρ 6)) 47 x47_1) 48 x48_1) 49 x49_1) 50 x50_1) w
theorem dispatcherref13_Queue_Ahead_R3_tail {D : List Deferred} {K : Exit → Sl → World → Prop} {ρ : Sl} {w : World} (h : dispatcherref13_Queue_Ahead_R3_T K ρ { w with drawn := w.drawn + 1 }) : W ⟨none, D⟩ Try.prog 62 dispatcherref13_Queue_Ahead_R3 K ρ w := by
  have e : dispatcherref13_Queue_Ahead_R3 = .region (idOf dispatcherref13_Queue_Ahead_R3) dispatcherref13_Queue_Ahead_R3_ops true := by kernel_rfl
  have q : sxq Try.prog (fun w' => w' = { w with drawn := w.drawn + 1 }) dispatcherref13_Queue_Ahead_R3_ops (fun ρ' => sxL Try.prog dispatcherref13_Queue_Ahead_R3_ops (K .normal) (dispatcherref13_Queue_Ahead_R3_ops.toList.drop 31) ρ' { w with drawn := w.drawn + 1 }) (dispatcherref13_Queue_Ahead_R3_ops.toList.take 31) ρ = dispatcherref13_Queue_Ahead_R3_T K ρ { w with drawn := w.drawn + 1 } := by kernel_rfl
  rw [e]
  exact W_tail 31 (by kernel_rfl) (by kernel_rfl) (by kernel_rfl) (by kernel_rfl) (Eq.mpr q h)
noncomputable def dispatcherref13_Queue_Ahead_R4_F (z : At) (K : Exit → Sl → World → Prop) (ρ : Sl) (w : World) : Prop :=
  CondK (ρ 50) (NK Try.prog (ρ 0) w fun x53 w => VK Try.prog (Instr.fieldAt 97 x53 0) w fun x54 w => VK Try.prog (Instr.loadAt 31 x54) w fun x55 w => VK Try.prog (Instr.indexAt 31 x55 (ρ 7)) w fun x57 w => VK Try.prog (Instr.loadAt 39 x57) w fun x58 w => VK Try.prog (Instr.buildSlice 31 1 [(0, x58)].toArray) w fun x59 w => IK Try.prog .append #[31, 31] 31 [false, false] [(ρ 5), x59] w fun x60 w => K .normal (up (up (up (up (up (up (up (up (up (up (up ρ 51 (ρ 5)) 52 (ρ 0)) 53 x53) 54 x54) 55 x55) 56 (ρ 7)) 57 x57) 58 x58) 59 x59) 60 x60) 5 x60) w) (K .normal ρ w)
theorem dispatcherref13_Queue_Ahead_R4_eq (z : At) (K : Exit → Sl → World → Prop) (ρ : Sl) (w : World) : sx z Try.prog 62 dispatcherref13_Queue_Ahead_R4 K ρ w = dispatcherref13_Queue_Ahead_R4_F z K ρ w := by kernel_rfl
noncomputable def dispatcherref13_Queue_Ahead_F (a0 a1 : Value) (w : World) (R : Value → World → Prop) : Prop :=
  VK Try.prog (Instr.box 39 a1) w fun x3 w => VK Try.prog (Instr.fieldAt 39 x3 1) w fun x9 w => VK Try.prog (Instr.loadAt 3 x9) w fun x10 w => VK Try.prog (Instr.fieldAt 39 x3 3) w fun x11 w => VK Try.prog (Instr.loadAt 3 x11) w fun x12 w => CK Try.prog (Value.func (Fn.func 70) #[] #[]) [a0, x10, x12] w fun x13 w => W fn_ Try.prog 62 (Code.loop dispatcherref13_Queue_Ahead_L0) (blkK 0 (seqK (sx fn_ Try.prog 62 dispatcherref13_Queue_Ahead_R1 (retK Try.prog [ResultVar.tmp 4] R)) (retK Try.prog [ResultVar.tmp 4] R))) (up (up (up (up (up (up (up (up (up (up (up (rho0 [a0, a1]) 3 x3) 4 (Value.slice none 0 0)) 5 (Value.slice none 0 0)) 8 a0) 9 x9) 10 x10) 11 x11) 12 x12) 13 x13) 6 x13) 7 (Value.int .i64 0)) w
theorem dispatcherref13_Queue_Ahead_eq (a0 a1 : Value) (w : World) (R : Value → World → Prop) : sx fn_ Try.prog 62 dispatcherref13_Queue_Ahead_b (retK Try.prog Try.f81.results.toList R) (rho0 [a0, a1]) w = dispatcherref13_Queue_Ahead_F a0 a1 w R := by kernel_rfl
theorem dispatcherref13_Queue_Ahead_calls {a0 a1 : Value} {w : World} {R : Value → World → Prop} (h : dispatcherref13_Queue_Ahead_F a0 a1 w R) : Calls Try.prog 81 #[a0, a1] w fun e w' => ∃ v, e = .returned v ∧ R v w' :=
  Go.X.calls_of_sx (n := 62) (c := dispatcherref13_Queue_Ahead_b) Try.func81 (by kernel_rfl) (by kernel_rfl) (Nat.le_of_ble_eq_true rfl) (by kernel_rfl) (Eq.mpr (dispatcherref13_Queue_Ahead_eq a0 a1 w R) h)
noncomputable def slices_insertionSortCmpFunc_queue_Message_b : Code := (Try.f82.body).getD .skip
noncomputable def slices_insertionSortCmpFunc_queue_Message_L0 : Code := cAt [1, 0, 0] slices_insertionSortCmpFunc_queue_Message_b
noncomputable def slices_insertionSortCmpFunc_queue_Message_L1 : Code := cAt [1, 0, 0, 1, 0, 0, 1, 0, 0] slices_insertionSortCmpFunc_queue_Message_b
noncomputable def slices_insertionSortCmpFunc_queue_Message_R2 : Code := cAt [1, 0, 0, 1, 1] slices_insertionSortCmpFunc_queue_Message_b
noncomputable def slices_insertionSortCmpFunc_queue_Message_R3 : Code := cAt [1, 0, 0, 1, 0, 0, 1, 0, 0, 0, 0] slices_insertionSortCmpFunc_queue_Message_b
noncomputable def slices_insertionSortCmpFunc_queue_Message_R4 : Code := cAt [1, 0, 0, 1, 0, 0, 1, 0, 0, 0, 1] slices_insertionSortCmpFunc_queue_Message_b
noncomputable def slices_insertionSortCmpFunc_queue_Message_R5 : Code := cAt [1, 0, 0, 1, 0, 0, 1, 0, 0, 1] slices_insertionSortCmpFunc_queue_Message_b
noncomputable def slices_insertionSortCmpFunc_queue_Message_R6 : Code := cAt [1, 0, 0, 1, 0, 0, 1, 0, 0, 1, 0, 0] slices_insertionSortCmpFunc_queue_Message_b
noncomputable def slices_insertionSortCmpFunc_queue_Message_R7 : Code := cAt [1, 0, 0, 1, 0, 0, 1, 0, 0, 1, 1] slices_insertionSortCmpFunc_queue_Message_b
noncomputable def slices_insertionSortCmpFunc_queue_Message_L0_F (z : At) (K : Exit → Sl → World → Prop) (ρ : Sl) (w : World) : Prop :=
  BK Try.prog .lss 3 (.tmp 12) (.tmp 13) (ρ 8) (ρ 2) w fun x14 w => CondK x14 (W z Try.prog 53 (Code.loop slices_insertionSortCmpFunc_queue_Message_L1) (blkK 2 (blkK 1 (seqK (sx z Try.prog 53 slices_insertionSortCmpFunc_queue_Message_R2 K) K))) (up (up (up (up (up ρ 12 (ρ 8)) 13 (ρ 2)) 14 x14) 17 (ρ 8)) 9 (ρ 8)) w) (K (.exit 0) (up (up (up ρ 12 (ρ 8)) 13 (ρ 2)) 14 x14) w)
theorem slices_insertionSortCmpFunc_queue_Message_L0_eq (z : At) (K : Exit → Sl → World → Prop) (ρ : Sl) (w : World) : sx z Try.prog 53 slices_insertionSortCmpFunc_queue_Message_L0 K ρ w = slices_insertionSortCmpFunc_queue_Message_L0_F z K ρ w := by kernel_rfl
theorem slices_insertionSortCmpFunc_queue_Message_L0_ok : dstOk 53 slices_insertionSortCmpFunc_queue_Message_L0 = true := by kernel_rfl
noncomputable def slices_insertionSortCmpFunc_queue_Message_L1_F (z : At) (K : Exit → Sl → World → Prop) (ρ : Sl) (w : World) : Prop :=
  W z Try.prog 53 slices_insertionSortCmpFunc_queue_Message_R3 (seqK (sx z Try.prog 53 slices_insertionSortCmpFunc_queue_Message_R4 (seqK (sx z Try.prog 53 slices_insertionSortCmpFunc_queue_Message_R5 K) K)) (seqK (sx z Try.prog 53 slices_insertionSortCmpFunc_queue_Message_R5 K) K)) ρ w
theorem slices_insertionSortCmpFunc_queue_Message_L1_eq (z : At) (K : Exit → Sl → World → Prop) (ρ : Sl) (w : World) : sx z Try.prog 53 slices_insertionSortCmpFunc_queue_Message_L1 K ρ w = slices_insertionSortCmpFunc_queue_Message_L1_F z K ρ w := by kernel_rfl
theorem slices_insertionSortCmpFunc_queue_Message_L1_ok : dstOk 53 slices_insertionSortCmpFunc_queue_Message_L1 = true := by kernel_rfl
noncomputable def slices_insertionSortCmpFunc_queue_Message_R2_F (z : At) (K : Exit → Sl → World → Prop) (ρ : Sl) (w : World) : Prop :=
  BK Try.prog .add 3 (.tmp 15) (.const (Value.int .i64 1)) (ρ 8) (Value.int .i64 1) w fun x16 w => K .normal (up (up (up ρ 15 (ρ 8)) 16 x16) 8 x16) w
theorem slices_insertionSortCmpFunc_queue_Message_R2_eq (z : At) (K : Exit → Sl → World → Prop) (ρ : Sl) (w : World) : sx z Try.prog 53 slices_insertionSortCmpFunc_queue_Message_R2 K ρ w = slices_insertionSortCmpFunc_queue_Message_R2_F z K ρ w := by kernel_rfl
noncomputable def slices_insertionSortCmpFunc_queue_Message_R3_ops : Array Oper := opsOf slices_insertionSortCmpFunc_queue_Message_R3
def slices_insertionSortCmpFunc_queue_Message_R3_Q (C : World → Prop) (K : Exit → Sl → World → Prop) (ρ : Sl) : Prop :=
  QK Try.prog C (do pure (Next.value (← (do eqGuard BinOp.gtr 3 (Operand.tmp 18) (Operand.tmp 19) (ρ 9) (ρ 1); binOp BinOp.gtr 3 (ρ 9) (ρ 1))))) fun x20 => QG Try.prog C x20 true  (pure (Next.value (ρ 3))) fun x22 => QG Try.prog C x20 true  (pure (Next.value (ρ 0))) fun x23 => QG Try.prog C x20 true  (pure (Next.value (ρ 9))) fun x24 => QG Try.prog C x20 true  (do pure (Next.value (← Instr.indexAt 31 x23 x24))) fun x25 => QG Try.prog C x20 true  (do pure (Next.value (← Instr.loadAt 39 x25))) fun x26 => QG Try.prog C x20 true  (pure (Next.value (ρ 0))) fun x27 => QG Try.prog C x20 true  (pure (Next.value (ρ 9))) fun x28 => QG Try.prog C x20 true  (do pure (Next.value (← (do eqGuard BinOp.sub 3 (Operand.tmp 28) (Operand.const (Value.int IntKind.i64 1)) x28 (Value.int IntKind.i64 1); binOp BinOp.sub 3 x28 (Value.int IntKind.i64 1))))) fun x29 => QG Try.prog C x20 true  (do pure (Next.value (← Instr.indexAt 31 x27 x29))) fun x30 => QG Try.prog C x20 true  (do pure (Next.value (← Instr.loadAt 39 x30))) fun x31 => QG Try.prog C x20 true  (do let d ← Deferred.ofValue x22 [x26, x31].toArray; invoke d.target d.args) fun x32 => QG Try.prog C x20 true  (do pure (Next.value (← (do eqGuard BinOp.lss 3 (Operand.tmp 32) (Operand.const (Value.int IntKind.i64 0)) x32 (Value.int IntKind.i64 0); binOp BinOp.lss 3 x32 (Value.int IntKind.i64 0))))) fun x33 => QK Try.prog C (do pure (Next.value (if ← asBool x20 then x33 else (Value.bool false)))) fun x34 => ∀ w', C w' → K Exit.normal (up (up (up (up (up (up (up (up (up (up (up (up (up (up (up (up (up ρ 18 (ρ 9)) 19 (ρ 1)) 20 x20) 21 x20) 22 x22) 23 x23) 24 x24) 25 x25) 26 x26) 27 x27) 28 x28) 29 x29) 30 x30) 31 x31) 32 x32) 33 x33) 34 x34) w'
theorem slices_insertionSortCmpFunc_queue_Message_R3_quiet {D : List Deferred} (C : World → Prop) {K : Exit → Sl → World → Prop} {ρ : Sl} {w : World} (hC : C { w with drawn := w.drawn + 1 }) (h : slices_insertionSortCmpFunc_queue_Message_R3_Q C K ρ) : W ⟨none, D⟩ Try.prog 53 slices_insertionSortCmpFunc_queue_Message_R3 K ρ w := by
  have e : slices_insertionSortCmpFunc_queue_Message_R3 = .region (idOf slices_insertionSortCmpFunc_queue_Message_R3) slices_insertionSortCmpFunc_queue_Message_R3_ops true := by kernel_rfl
  have q : sxq Try.prog C slices_insertionSortCmpFunc_queue_Message_R3_ops (fun ρ' => ∀ w', C w' → K .normal ρ' w') slices_insertionSortCmpFunc_queue_Message_R3_ops.toList ρ = slices_insertionSortCmpFunc_queue_Message_R3_Q C K ρ := by kernel_rfl
  rw [e]
  exact W_quiet C (by kernel_rfl) (by kernel_rfl) (by kernel_rfl) hC (Eq.mpr q h)
noncomputable def slices_insertionSortCmpFunc_queue_Message_R4_F (z : At) (K : Exit → Sl → World → Prop) (ρ : Sl) (w : World) : Prop :=
  CondK (ρ 34) (K .normal ρ w) (K (.exit 2) ρ w)
theorem slices_insertionSortCmpFunc_queue_Message_R4_eq (z : At) (K : Exit → Sl → World → Prop) (ρ : Sl) (w : World) : sx z Try.prog 53 slices_insertionSortCmpFunc_queue_Message_R4 K ρ w = slices_insertionSortCmpFunc_queue_Message_R4_F z K ρ w := by kernel_rfl
noncomputable def slices_insertionSortCmpFunc_queue_Message_R5_F (z : At) (K : Exit → Sl → World → Prop) (ρ : Sl) (w : World) : Prop :=
  W z Try.prog 53 slices_insertionSortCmpFunc_queue_Message_R6 (blkK 3 (seqK (sx z Try.prog 53 slices_insertionSortCmpFunc_queue_Message_R7 K) K)) ρ w
theorem slices_insertionSortCmpFunc_queue_Message_R5_eq (z : At) (K : Exit → Sl → World → Prop) (ρ : Sl) (w : World) : sx z Try.prog 53 slices_insertionSortCmpFunc_queue_Message_R5 K ρ w = slices_insertionSortCmpFunc_queue_Message_R5_F z K ρ w := by kernel_rfl
noncomputable def slices_insertionSortCmpFunc_queue_Message_R6_ops : Array Oper := opsOf slices_insertionSortCmpFunc_queue_Message_R6
def slices_insertionSortCmpFunc_queue_Message_R6_H (S : World → Prop) (K : Exit → Sl → World → Prop) (ρ : Sl) (w : World) : Prop :=
  HK Try.prog S (do pure (Next.value (← (do eqGuard BinOp.sub 3 (Operand.tmp 40) (Operand.const (Value.int IntKind.i64 1)) (ρ 9) (Value.int IntKind.i64 1); binOp BinOp.sub 3 (ρ 9) (Value.int IntKind.i64 1))))) fun x41 => HK Try.prog S (do pure (Next.value (← (do eqGuard BinOp.sub 3 (Operand.tmp 43) (Operand.const (Value.int IntKind.i64 1)) (ρ 9) (Value.int IntKind.i64 1); binOp BinOp.sub 3 (ρ 9) (Value.int IntKind.i64 1))))) fun x44 => HK Try.prog S (do pure (Next.value (← Instr.indexAt 31 (ρ 0) x44))) fun x45 => HK Try.prog S (do pure (Next.value (← Instr.indexAt 31 (ρ 0) (ρ 9)))) fun x49 => (VK Try.prog (Instr.loadAt 39 x45) w fun x46 w => S w ∧ (VK Try.prog (Instr.loadAt 39 x49) w fun x50 w => S w ∧ (HK Try.prog S (do pure (Next.value (← Instr.indexAt 31 (ρ 0) (ρ 9)))) fun x51 => UK Try.prog (Instr.storeAt 39 x51 x46) w fun _ w => S w ∧ (HK Try.prog S (do pure (Next.value (← Instr.indexAt 31 (ρ 0) x41))) fun x52 => UK Try.prog (Instr.storeAt 39 x52 x50) w fun _ w => S w ∧ (K Exit.normal (up (up (up (up (up (up (up (up (up (up (up (up (up (up (up (up ρ 37 (ρ 0)) 38 (ρ 9)) 39 (ρ 0)) 40 (ρ 9)) 41 x41) 42 (ρ 0)) 43 (ρ 9)) 44 x44) 45 x45) 47 (ρ 0)) 48 (ρ 9)) 49 x49) 46 x46) 50 x50) 51 x51) 52 x52) w))))) ∧ (VK Try.prog (Instr.loadAt 39 x49) w fun x50_1 w => S w ∧ (VK Try.prog (Instr.loadAt 39 x45) w fun x46_1 w => S w ∧ (HK Try.prog S (do pure (Next.value (← Instr.indexAt 31 (ρ 0) (ρ 9)))) fun x51_1 => UK Try.prog (Instr.storeAt 39 x51_1 x46_1) w fun _ w => S w ∧ (HK Try.prog S (do pure (Next.value (← Instr.indexAt 31 (ρ 0) x41))) fun x52_1 => UK Try.prog (Instr.storeAt 39 x52_1 x50_1) w fun _ w => S w ∧ (K Exit.normal (up (up (up (up (up (up (up (up (up (up (up (up (up (up (up (up ρ 37 (ρ 0)) 38 (ρ 9)) 39 (ρ 0)) 40 (ρ 9)) 41 x41) 42 (ρ 0)) 43 (ρ 9)) 44 x44) 45 x45) 47 (ρ 0)) 48 (ρ 9)) 49 x49) 50 x50_1) 46 x46_1) 51 x51_1) 52 x52_1) w)))))
theorem slices_insertionSortCmpFunc_queue_Message_R6_held {D : List Deferred} (S : World → Prop) {K : Exit → Sl → World → Prop} {ρ : Sl} {w : World} (hS : S { w with drawn := w.drawn + 1 }) (h : slices_insertionSortCmpFunc_queue_Message_R6_H S K ρ { w with drawn := w.drawn + 1 }) : W ⟨none, D⟩ Try.prog 53 slices_insertionSortCmpFunc_queue_Message_R6 K ρ w := by
  have e : slices_insertionSortCmpFunc_queue_Message_R6 = .region (idOf slices_insertionSortCmpFunc_queue_Message_R6) slices_insertionSortCmpFunc_queue_Message_R6_ops true := by kernel_rfl
  have q : sxd Try.prog S slices_insertionSortCmpFunc_queue_Message_R6_ops (K .normal) (Pd.take 0 (Pd.take 1 (Pd.take 2 (Pd.take 3 (Pd.take 4 (Pd.take 5 (Pd.take 6 (Pd.take 7 (Pd.take 8 (Pd.take 10 (Pd.take 11 (Pd.take 12 (Pd.two false false 9 13 (Pd.only false 13 (Pd.take 14 (Pd.only false 15 (Pd.take 16 (Pd.only false 17 Pd.done))))) (Pd.only false 9 (Pd.take 14 (Pd.only false 15 (Pd.take 16 (Pd.only false 17 Pd.done)))))))))))))))))) ρ { w with drawn := w.drawn + 1 } = slices_insertionSortCmpFunc_queue_Message_R6_H S K ρ { w with drawn := w.drawn + 1 } := by kernel_rfl
  rw [e]
  exact W_pland S (Pd.take 0 (Pd.take 1 (Pd.take 2 (Pd.take 3 (Pd.take 4 (Pd.take 5 (Pd.take 6 (Pd.take 7 (Pd.take 8 (Pd.take 10 (Pd.take 11 (Pd.take 12 (Pd.two false false 9 13 (Pd.only false 13 (Pd.take 14 (Pd.only false 15 (Pd.take 16 (Pd.only false 17 Pd.done))))) (Pd.only false 9 (Pd.take 14 (Pd.only false 15 (Pd.take 16 (Pd.only false 17 Pd.done)))))))))))))))))) (by kernel_rfl) (by kernel_rfl) (by kernel_rfl) (by kernel_rfl) hS (Eq.mpr q h)
noncomputable def slices_insertionSortCmpFunc_queue_Message_R7_F (z : At) (K : Exit → Sl → World → Prop) (ρ : Sl) (w : World) : Prop :=
  BK Try.prog .sub 3 (.tmp 35) (.const (Value.int .i64 1)) (ρ 9) (Value.int .i64 1) w fun x36 w => K .normal (up (up (up ρ 35 (ρ 9)) 36 x36) 9 x36) w
theorem slices_insertionSortCmpFunc_queue_Message_R7_eq (z : At) (K : Exit → Sl → World → Prop) (ρ : Sl) (w : World) : sx z Try.prog 53 slices_insertionSortCmpFunc_queue_Message_R7 K ρ w = slices_insertionSortCmpFunc_queue_Message_R7_F z K ρ w := by kernel_rfl
noncomputable def slices_insertionSortCmpFunc_queue_Message_F (a0 a1 a2 a3 : Value) (w : World) (R : Value → World → Prop) : Prop :=
  BK Try.prog .add 3 (.tmp 10) (.const (Value.int .i64 1)) a1 (Value.int .i64 1) w fun x11 w => W fn_ Try.prog 53 (Code.loop slices_insertionSortCmpFunc_queue_Message_L0) (blkK 0 (retK Try.prog [] R)) (up (up (up (rho0 [a0, a1, a2, a3]) 10 a1) 11 x11) 8 x11) w
theorem slices_insertionSortCmpFunc_queue_Message_eq (a0 a1 a2 a3 : Value) (w : World) (R : Value → World → Prop) : sx fn_ Try.prog 53 slices_insertionSortCmpFunc_queue_Message_b (retK Try.prog Try.f82.results.toList R) (rho0 [a0, a1, a2, a3]) w = slices_insertionSortCmpFunc_queue_Message_F a0 a1 a2 a3 w R := by kernel_rfl
theorem slices_insertionSortCmpFunc_queue_Message_calls {a0 a1 a2 a3 : Value} {w : World} {R : Value → World → Prop} (h : slices_insertionSortCmpFunc_queue_Message_F a0 a1 a2 a3 w R) : Calls Try.prog 82 #[a0, a1, a2, a3] w fun e w' => ∃ v, e = .returned v ∧ R v w' :=
  Go.X.calls_of_sx (n := 53) (c := slices_insertionSortCmpFunc_queue_Message_b) Try.func82 (by kernel_rfl) (by kernel_rfl) (Nat.le_of_ble_eq_true rfl) (by kernel_rfl) (Eq.mpr (slices_insertionSortCmpFunc_queue_Message_eq a0 a1 a2 a3 w R) h)
noncomputable def slices_symMergeCmpFunc_queue_Message_b : Code := (Try.f83.body).getD .skip
noncomputable def slices_symMergeCmpFunc_queue_Message_L0 : Code := cAt [0, 1, 0, 1, 1, 0, 0, 0] slices_symMergeCmpFunc_queue_Message_b
noncomputable def slices_symMergeCmpFunc_queue_Message_R1 : Code := cAt [0, 1, 0, 1, 1, 1] slices_symMergeCmpFunc_queue_Message_b
noncomputable def slices_symMergeCmpFunc_queue_Message_R2 : Code := cAt [1] slices_symMergeCmpFunc_queue_Message_b
noncomputable def slices_symMergeCmpFunc_queue_Message_L3 : Code := cAt [1, 0, 1, 0, 1, 1, 0, 0, 0] slices_symMergeCmpFunc_queue_Message_b
noncomputable def slices_symMergeCmpFunc_queue_Message_R4 : Code := cAt [1, 0, 1, 0, 1, 1, 1] slices_symMergeCmpFunc_queue_Message_b
noncomputable def slices_symMergeCmpFunc_queue_Message_R5 : Code := cAt [1, 1] slices_symMergeCmpFunc_queue_Message_b
noncomputable def slices_symMergeCmpFunc_queue_Message_R6 : Code := cAt [1, 1, 1, 1, 1, 0, 1] slices_symMergeCmpFunc_queue_Message_b
noncomputable def slices_symMergeCmpFunc_queue_Message_R7 : Code := cAt [1, 1, 1, 1, 1, 1] slices_symMergeCmpFunc_queue_Message_b
noncomputable def slices_symMergeCmpFunc_queue_Message_R8 : Code := cAt [0, 1, 0, 1, 1, 0, 0, 0, 1, 0, 1, 0] slices_symMergeCmpFunc_queue_Message_b
noncomputable def slices_symMergeCmpFunc_queue_Message_R9 : Code := cAt [0, 1, 0, 1, 1, 0, 0, 0, 1, 0, 1, 1] slices_symMergeCmpFunc_queue_Message_b
noncomputable def slices_symMergeCmpFunc_queue_Message_L10 : Code := cAt [0, 1, 0, 1, 1, 1, 0, 1, 0, 0] slices_symMergeCmpFunc_queue_Message_b
noncomputable def slices_symMergeCmpFunc_queue_Message_R11 : Code := cAt [0, 1, 0, 1, 1, 1, 1] slices_symMergeCmpFunc_queue_Message_b
noncomputable def slices_symMergeCmpFunc_queue_Message_R13 : Code := cAt [1, 0, 1, 0, 1, 1, 0, 0, 0, 1, 0, 1, 0] slices_symMergeCmpFunc_queue_Message_b
noncomputable def slices_symMergeCmpFunc_queue_Message_R14 : Code := cAt [1, 0, 1, 0, 1, 1, 0, 0, 0, 1, 0, 1, 1] slices_symMergeCmpFunc_queue_Message_b
noncomputable def slices_symMergeCmpFunc_queue_Message_L15 : Code := cAt [1, 0, 1, 0, 1, 1, 1, 0, 1, 0, 0] slices_symMergeCmpFunc_queue_Message_b
noncomputable def slices_symMergeCmpFunc_queue_Message_R16 : Code := cAt [1, 0, 1, 0, 1, 1, 1, 1] slices_symMergeCmpFunc_queue_Message_b
noncomputable def slices_symMergeCmpFunc_queue_Message_L17 : Code := cAt [1, 1, 1, 1, 1, 1, 1, 0, 0, 0] slices_symMergeCmpFunc_queue_Message_b
noncomputable def slices_symMergeCmpFunc_queue_Message_R18 : Code := cAt [1, 1, 1, 1, 1, 1, 1, 1] slices_symMergeCmpFunc_queue_Message_b
noncomputable def slices_symMergeCmpFunc_queue_Message_R19 : Code := cAt [0, 1, 0, 1, 1, 1, 0, 1, 0, 0, 1, 0, 0] slices_symMergeCmpFunc_queue_Message_b
noncomputable def slices_symMergeCmpFunc_queue_Message_R20 : Code := cAt [0, 1, 0, 1, 1, 1, 0, 1, 0, 0, 1, 1] slices_symMergeCmpFunc_queue_Message_b
noncomputable def slices_symMergeCmpFunc_queue_Message_R21 : Code := cAt [1, 0, 1, 0, 1, 1, 1, 0, 1, 0, 0, 1, 0, 0] slices_symMergeCmpFunc_queue_Message_b
noncomputable def slices_symMergeCmpFunc_queue_Message_R22 : Code := cAt [1, 0, 1, 0, 1, 1, 1, 0, 1, 0, 0, 1, 1] slices_symMergeCmpFunc_queue_Message_b
noncomputable def slices_symMergeCmpFunc_queue_Message_R23 : Code := cAt [1, 1, 1, 1, 1, 1, 1, 0, 0, 0, 1, 0, 1, 0] slices_symMergeCmpFunc_queue_Message_b
noncomputable def slices_symMergeCmpFunc_queue_Message_R24 : Code := cAt [1, 1, 1, 1, 1, 1, 1, 0, 0, 0, 1, 0, 1, 1] slices_symMergeCmpFunc_queue_Message_b
noncomputable def slices_symMergeCmpFunc_queue_Message_R25 : Code := cAt [1, 1, 1, 1, 1, 1, 1, 1, 1, 1] slices_symMergeCmpFunc_queue_Message_b
noncomputable def slices_symMergeCmpFunc_queue_Message_R26 : Code := cAt [1, 1, 1, 1, 1, 1, 1, 1, 1, 1, 1] slices_symMergeCmpFunc_queue_Message_b
noncomputable def slices_symMergeCmpFunc_queue_Message_L0_F (z : At) (K : Exit → Sl → World → Prop) (ρ : Sl) (w : World) : Prop :=
  BK Try.prog .lss 3 (.tmp 31) (.tmp 32) (ρ 10) (ρ 11) w fun x33 w => CondK x33 (BK Try.prog .add 3 (.tmp 34) (.tmp 35) (ρ 10) (ρ 11) w fun x36 w => VK Try.prog (convert 3 129 x36) w fun x37 w => BK Try.prog .shr 129 (.tmp 37) (.const (Value.int .u64 1)) x37 (Value.int .u64 1) w fun x38 w => VK Try.prog (convert 129 3 x38) w fun x39 w => W z Try.prog 220 slices_symMergeCmpFunc_queue_Message_R8 (seqK (sx z Try.prog 220 slices_symMergeCmpFunc_queue_Message_R9 (blkK 1 K)) (blkK 1 K)) (up (up (up (up (up (up (up (up (up (up ρ 31 (ρ 10)) 32 (ρ 11)) 33 x33) 34 (ρ 10)) 35 (ρ 11)) 36 x36) 37 x37) 38 x38) 39 x39) 12 x39) w) (K (.exit 0) (up (up (up ρ 31 (ρ 10)) 32 (ρ 11)) 33 x33) w)
theorem slices_symMergeCmpFunc_queue_Message_L0_eq (z : At) (K : Exit → Sl → World → Prop) (ρ : Sl) (w : World) : sx z Try.prog 220 slices_symMergeCmpFunc_queue_Message_L0 K ρ w = slices_symMergeCmpFunc_queue_Message_L0_F z K ρ w := by kernel_rfl
theorem slices_symMergeCmpFunc_queue_Message_L0_ok : dstOk 220 slices_symMergeCmpFunc_queue_Message_L0 = true := by kernel_rfl
noncomputable def slices_symMergeCmpFunc_queue_Message_R1_F (z : At) (K : Exit → Sl → World → Prop) (ρ : Sl) (w : World) : Prop :=
  W z Try.prog 220 (Code.loop slices_symMergeCmpFunc_queue_Message_L10) (blkK 2 (seqK (sx z Try.prog 220 slices_symMergeCmpFunc_queue_Message_R11 K) K)) (up (up ρ 54 (ρ 1)) 13 (ρ 1)) w
theorem slices_symMergeCmpFunc_queue_Message_R1_eq (z : At) (K : Exit → Sl → World → Prop) (ρ : Sl) (w : World) : sx z Try.prog 220 slices_symMergeCmpFunc_queue_Message_R1 K ρ w = slices_symMergeCmpFunc_queue_Message_R1_F z K ρ w := by kernel_rfl
noncomputable def slices_symMergeCmpFunc_queue_Message_L3_F (z : At) (K : Exit → Sl → World → Prop) (ρ : Sl) (w : World) : Prop :=
  BK Try.prog .lss 3 (.tmp 83) (.tmp 84) (ρ 14) (ρ 15) w fun x85 w => CondK x85 (BK Try.prog .add 3 (.tmp 86) (.tmp 87) (ρ 14) (ρ 15) w fun x88 w => VK Try.prog (convert 3 129 x88) w fun x89 w => BK Try.prog .shr 129 (.tmp 89) (.const (Value.int .u64 1)) x89 (Value.int .u64 1) w fun x90 w => VK Try.prog (convert 129 3 x90) w fun x91 w => W z Try.prog 220 slices_symMergeCmpFunc_queue_Message_R13 (seqK (sx z Try.prog 220 slices_symMergeCmpFunc_queue_Message_R14 (blkK 5 K)) (blkK 5 K)) (up (up (up (up (up (up (up (up (up (up ρ 83 (ρ 14)) 84 (ρ 15)) 85 x85) 86 (ρ 14)) 87 (ρ 15)) 88 x88) 89 x89) 90 x90) 91 x91) 16 x91) w) (K (.exit 4) (up (up (up ρ 83 (ρ 14)) 84 (ρ 15)) 85 x85) w)
theorem slices_symMergeCmpFunc_queue_Message_L3_eq (z : At) (K : Exit → Sl → World → Prop) (ρ : Sl) (w : World) : sx z Try.prog 220 slices_symMergeCmpFunc_queue_Message_L3 K ρ w = slices_symMergeCmpFunc_queue_Message_L3_F z K ρ w := by kernel_rfl
theorem slices_symMergeCmpFunc_queue_Message_L3_ok : dstOk 220 slices_symMergeCmpFunc_queue_Message_L3 = true := by kernel_rfl
noncomputable def slices_symMergeCmpFunc_queue_Message_R4_F (z : At) (K : Exit → Sl → World → Prop) (ρ : Sl) (w : World) : Prop :=
  W z Try.prog 220 (Code.loop slices_symMergeCmpFunc_queue_Message_L15) (blkK 6 (seqK (sx z Try.prog 220 slices_symMergeCmpFunc_queue_Message_R16 K) K)) (up (up ρ 107 (ρ 2)) 17 (ρ 2)) w
theorem slices_symMergeCmpFunc_queue_Message_R4_eq (z : At) (K : Exit → Sl → World → Prop) (ρ : Sl) (w : World) : sx z Try.prog 220 slices_symMergeCmpFunc_queue_Message_R4 K ρ w = slices_symMergeCmpFunc_queue_Message_R4_F z K ρ w := by kernel_rfl
noncomputable def slices_symMergeCmpFunc_queue_Message_R6_F (z : At) (K : Exit → Sl → World → Prop) (ρ : Sl) (w : World) : Prop :=
  CondK (ρ 140) (BK Try.prog .sub 3 (.tmp 141) (.tmp 142) (ρ 19) (ρ 3) w fun x143_2 w => K .normal (up (up (up (up (up (up ρ 141 (ρ 19)) 142 (ρ 3)) 143 x143_2) 20 x143_2) 144 (ρ 18)) 21 (ρ 18)) w) (K .normal (up (up (up (up ρ 145 (ρ 1)) 20 (ρ 1)) 146 (ρ 2)) 21 (ρ 2)) w)
theorem slices_symMergeCmpFunc_queue_Message_R6_eq (z : At) (K : Exit → Sl → World → Prop) (ρ : Sl) (w : World) : sx z Try.prog 220 slices_symMergeCmpFunc_queue_Message_R6 K ρ w = slices_symMergeCmpFunc_queue_Message_R6_F z K ρ w := by kernel_rfl
noncomputable def slices_symMergeCmpFunc_queue_Message_R7_F (z : At) (K : Exit → Sl → World → Prop) (ρ : Sl) (w : World) : Prop :=
  BK Try.prog .sub 3 (.tmp 147) (.const (Value.int .i64 1)) (ρ 19) (Value.int .i64 1) w fun x148 w => W z Try.prog 220 (Code.loop slices_symMergeCmpFunc_queue_Message_L17) (blkK 8 (seqK (sx z Try.prog 220 slices_symMergeCmpFunc_queue_Message_R18 K) K)) (up (up (up ρ 147 (ρ 19)) 148 x148) 22 x148) w
theorem slices_symMergeCmpFunc_queue_Message_R7_eq (z : At) (K : Exit → Sl → World → Prop) (ρ : Sl) (w : World) : sx z Try.prog 220 slices_symMergeCmpFunc_queue_Message_R7 K ρ w = slices_symMergeCmpFunc_queue_Message_R7_F z K ρ w := by kernel_rfl
noncomputable def slices_symMergeCmpFunc_queue_Message_R8_ops : Array Oper := opsOf slices_symMergeCmpFunc_queue_Message_R8
def slices_symMergeCmpFunc_queue_Message_R8_Q (C : World → Prop) (K : Exit → Sl → World → Prop) (ρ : Sl) : Prop :=
  QK Try.prog C (do pure (Next.value (← Instr.indexAt 31 (ρ 0) (ρ 12)))) fun x43 => QK Try.prog C (do pure (Next.value (← Instr.loadAt 39 x43))) fun x44 => QK Try.prog C (do pure (Next.value (← Instr.indexAt 31 (ρ 0) (ρ 1)))) fun x47 => QK Try.prog C (do pure (Next.value (← Instr.loadAt 39 x47))) fun x48 => QK Try.prog C (do let d ← Deferred.ofValue (ρ 4) [x44, x48].toArray; invoke d.target d.args) fun x49 => QK Try.prog C (do pure (Next.value (← (do eqGuard BinOp.lss 3 (Operand.tmp 49) (Operand.const (Value.int IntKind.i64 0)) x49 (Value.int IntKind.i64 0); binOp BinOp.lss 3 x49 (Value.int IntKind.i64 0))))) fun x50 => ∀ w', C w' → K Exit.normal (up (up (up (up (up (up (up (up (up (up (up ρ 40 (ρ 4)) 41 (ρ 0)) 42 (ρ 12)) 43 x43) 44 x44) 45 (ρ 0)) 46 (ρ 1)) 47 x47) 48 x48) 49 x49) 50 x50) w'
theorem slices_symMergeCmpFunc_queue_Message_R8_quiet {D : List Deferred} (C : World → Prop) {K : Exit → Sl → World → Prop} {ρ : Sl} {w : World} (hC : C { w with drawn := w.drawn + 1 }) (h : slices_symMergeCmpFunc_queue_Message_R8_Q C K ρ) : W ⟨none, D⟩ Try.prog 220 slices_symMergeCmpFunc_queue_Message_R8 K ρ w := by
  have e : slices_symMergeCmpFunc_queue_Message_R8 = .region (idOf slices_symMergeCmpFunc_queue_Message_R8) slices_symMergeCmpFunc_queue_Message_R8_ops true := by kernel_rfl
  have q : sxq Try.prog C slices_symMergeCmpFunc_queue_Message_R8_ops (fun ρ' => ∀ w', C w' → K .normal ρ' w') slices_symMergeCmpFunc_queue_Message_R8_ops.toList ρ = slices_symMergeCmpFunc_queue_Message_R8_Q C K ρ := by kernel_rfl
  rw [e]
  exact W_quiet C (by kernel_rfl) (by kernel_rfl) (by kernel_rfl) hC (Eq.mpr q h)
noncomputable def slices_symMergeCmpFunc_queue_Message_R9_F (z : At) (K : Exit → Sl → World → Prop) (ρ : Sl) (w : World) : Prop :=
  CondK (ρ 50) (BK Try.prog .add 3 (.tmp 51) (.const (Value.int .i64 1)) (ρ 12) (Value.int .i64 1) w fun x52 w => K .normal (up (up (up ρ 51 (ρ 12)) 52 x52) 10 x52) w) (K .normal (up (up ρ 53 (ρ 12)) 11 (ρ 12)) w)
theorem slices_symMergeCmpFunc_queue_Message_R9_eq (z : At) (K : Exit → Sl → World → Prop) (ρ : Sl) (w : World) : sx z Try.prog 220 slices_symMergeCmpFunc_queue_Message_R9 K ρ w = slices_symMergeCmpFunc_queue_Message_R9_F z K ρ w := by kernel_rfl
noncomputable def slices_symMergeCmpFunc_queue_Message_L10_F (z : At) (K : Exit → Sl → World → Prop) (ρ : Sl) (w : World) : Prop :=
  BK Try.prog .sub 3 (.tmp 56) (.const (Value.int .i64 1)) (ρ 10) (Value.int .i64 1) w fun x57 w => BK Try.prog .lss 3 (.tmp 55) (.tmp 57) (ρ 13) x57 w fun x58 w => CondK x58 (W z Try.prog 220 slices_symMergeCmpFunc_queue_Message_R19 (blkK 3 (seqK (sx z Try.prog 220 slices_symMergeCmpFunc_queue_Message_R20 K) K)) (up (up (up (up ρ 55 (ρ 13)) 56 (ρ 10)) 57 x57) 58 x58) w) (K (.exit 2) (up (up (up (up ρ 55 (ρ 13)) 56 (ρ 10)) 57 x57) 58 x58) w)
theorem slices_symMergeCmpFunc_queue_Message_L10_eq (z : At) (K : Exit → Sl → World → Prop) (ρ : Sl) (w : World) : sx z Try.prog 220 slices_symMergeCmpFunc_queue_Message_L10 K ρ w = slices_symMergeCmpFunc_queue_Message_L10_F z K ρ w := by kernel_rfl
theorem slices_symMergeCmpFunc_queue_Message_L10_ok : dstOk 220 slices_symMergeCmpFunc_queue_Message_L10 = true := by kernel_rfl
noncomputable def slices_symMergeCmpFunc_queue_Message_R11_F (z : At) (K : Exit → Sl → World → Prop) (ρ : Sl) (w : World) : Prop :=
  K .ret ρ w
theorem slices_symMergeCmpFunc_queue_Message_R11_eq (z : At) (K : Exit → Sl → World → Prop) (ρ : Sl) (w : World) : sx z Try.prog 220 slices_symMergeCmpFunc_queue_Message_R11 K ρ w = slices_symMergeCmpFunc_queue_Message_R11_F z K ρ w := by kernel_rfl
noncomputable def slices_symMergeCmpFunc_queue_Message_R13_ops : Array Oper := opsOf slices_symMergeCmpFunc_queue_Message_R13
def slices_symMergeCmpFunc_queue_Message_R13_Q (C : World → Prop) (K : Exit → Sl → World → Prop) (ρ : Sl) : Prop :=
  QK Try.prog C (do pure (Next.value (← Instr.indexAt 31 (ρ 0) (ρ 2)))) fun x95 => QK Try.prog C (do pure (Next.value (← Instr.loadAt 39 x95))) fun x96 => QK Try.prog C (do pure (Next.value (← Instr.indexAt 31 (ρ 0) (ρ 16)))) fun x99 => QK Try.prog C (do pure (Next.value (← Instr.loadAt 39 x99))) fun x100 => QK Try.prog C (do let d ← Deferred.ofValue (ρ 4) [x96, x100].toArray; invoke d.target d.args) fun x101 => QK Try.prog C (do pure (Next.value (← (do eqGuard BinOp.lss 3 (Operand.tmp 101) (Operand.const (Value.int IntKind.i64 0)) x101 (Value.int IntKind.i64 0); binOp BinOp.lss 3 x101 (Value.int IntKind.i64 0))))) fun x102 => QK Try.prog C (do pure (Next.value (← Op.unary UnOp.not x102))) fun x103 => ∀ w', C w' → K Exit.normal (up (up (up (up (up (up (up (up (up (up (up (up ρ 92 (ρ 4)) 93 (ρ 0)) 94 (ρ 2)) 95 x95) 96 x96) 97 (ρ 0)) 98 (ρ 16)) 99 x99) 100 x100) 101 x101) 102 x102) 103 x103) w'
theorem slices_symMergeCmpFunc_queue_Message_R13_quiet {D : List Deferred} (C : World → Prop) {K : Exit → Sl → World → Prop} {ρ : Sl} {w : World} (hC : C { w with drawn := w.drawn + 1 }) (h : slices_symMergeCmpFunc_queue_Message_R13_Q C K ρ) : W ⟨none, D⟩ Try.prog 220 slices_symMergeCmpFunc_queue_Message_R13 K ρ w := by
  have e : slices_symMergeCmpFunc_queue_Message_R13 = .region (idOf slices_symMergeCmpFunc_queue_Message_R13) slices_symMergeCmpFunc_queue_Message_R13_ops true := by kernel_rfl
  have q : sxq Try.prog C slices_symMergeCmpFunc_queue_Message_R13_ops (fun ρ' => ∀ w', C w' → K .normal ρ' w') slices_symMergeCmpFunc_queue_Message_R13_ops.toList ρ = slices_symMergeCmpFunc_queue_Message_R13_Q C K ρ := by kernel_rfl
  rw [e]
  exact W_quiet C (by kernel_rfl) (by kernel_rfl) (by kernel_rfl) hC (Eq.mpr q h)
noncomputable def slices_symMergeCmpFunc_queue_Message_R14_F (z : At) (K : Exit → Sl → World → Prop) (ρ : Sl) (w : World) : Prop :=
  CondK (ρ 103) (BK Try.prog .add 3 (.tmp 104) (.const (Value.int .i64 1)) (ρ 16) (Value.int .i64 1) w fun x105 w => K .normal (up (up (up ρ 104 (ρ 16)) 105 x105) 14 x105) w) (K .normal (up (up ρ 106 (ρ 16)) 15 (ρ 16)) w)
theorem slices_symMergeCmpFunc_queue_Message_R14_eq (z : At) (K : Exit → Sl → World → Prop) (ρ : Sl) (w : World) : sx z Try.prog 220 slices_symMergeCmpFunc_queue_Message_R14 K ρ w = slices_symMergeCmpFunc_queue_Message_R14_F z K ρ w := by kernel_rfl
noncomputable def slices_symMergeCmpFunc_queue_Message_L15_F (z : At) (K : Exit → Sl → World → Prop) (ρ : Sl) (w : World) : Prop :=
  BK Try.prog .gtr 3 (.tmp 108) (.tmp 109) (ρ 17) (ρ 14) w fun x110 w => CondK x110 (W z Try.prog 220 slices_symMergeCmpFunc_queue_Message_R21 (blkK 7 (seqK (sx z Try.prog 220 slices_symMergeCmpFunc_queue_Message_R22 K) K)) (up (up (up ρ 108 (ρ 17)) 109 (ρ 14)) 110 x110) w) (K (.exit 6) (up (up (up ρ 108 (ρ 17)) 109 (ρ 14)) 110 x110) w)
theorem slices_symMergeCmpFunc_queue_Message_L15_eq (z : At) (K : Exit → Sl → World → Prop) (ρ : Sl) (w : World) : sx z Try.prog 220 slices_symMergeCmpFunc_queue_Message_L15 K ρ w = slices_symMergeCmpFunc_queue_Message_L15_F z K ρ w := by kernel_rfl
theorem slices_symMergeCmpFunc_queue_Message_L15_ok : dstOk 220 slices_symMergeCmpFunc_queue_Message_L15 = true := by kernel_rfl
noncomputable def slices_symMergeCmpFunc_queue_Message_R16_F (z : At) (K : Exit → Sl → World → Prop) (ρ : Sl) (w : World) : Prop :=
  K .ret ρ w
theorem slices_symMergeCmpFunc_queue_Message_R16_eq (z : At) (K : Exit → Sl → World → Prop) (ρ : Sl) (w : World) : sx z Try.prog 220 slices_symMergeCmpFunc_queue_Message_R16 K ρ w = slices_symMergeCmpFunc_queue_Message_R16_F z K ρ w := by kernel_rfl
noncomputable def slices_symMergeCmpFunc_queue_Message_L17_F (z : At) (K : Exit → Sl → World → Prop) (ρ : Sl) (w : World) : Prop :=
  BK Try.prog .lss 3 (.tmp 149) (.tmp 150) (ρ 20) (ρ 21) w fun x151 w => CondK x151 (BK Try.prog .add 3 (.tmp 152) (.tmp 153) (ρ 20) (ρ 21) w fun x154 w => VK Try.prog (convert 3 129 x154) w fun x155 w => BK Try.prog .shr 129 (.tmp 155) (.const (Value.int .u64 1)) x155 (Value.int .u64 1) w fun x156 w => VK Try.prog (convert 129 3 x156) w fun x157 w => W z Try.prog 220 slices_symMergeCmpFunc_queue_Message_R23 (seqK (sx z Try.prog 220 slices_symMergeCmpFunc_queue_Message_R24 (blkK 9 K)) (blkK 9 K)) (up (up (up (up (up (up (up (up (up (up ρ 149 (ρ 20)) 150 (ρ 21)) 151 x151) 152 (ρ 20)) 153 (ρ 21)) 154 x154) 155 x155) 156 x156) 157 x157) 23 x157) w) (K (.exit 8) (up (up (up ρ 149 (ρ 20)) 150 (ρ 21)) 151 x151) w)
theorem slices_symMergeCmpFunc_queue_Message_L17_eq (z : At) (K : Exit → Sl → World → Prop) (ρ : Sl) (w : World) : sx z Try.prog 220 slices_symMergeCmpFunc_queue_Message_L17 K ρ w = slices_symMergeCmpFunc_queue_Message_L17_F z K ρ w := by kernel_rfl
theorem slices_symMergeCmpFunc_queue_Message_L17_ok : dstOk 220 slices_symMergeCmpFunc_queue_Message_L17 = true := by kernel_rfl
noncomputable def slices_symMergeCmpFunc_queue_Message_R18_F (z : At) (K : Exit → Sl → World → Prop) (ρ : Sl) (w : World) : Prop :=
  BK Try.prog .sub 3 (.tmp 175) (.tmp 176) (ρ 19) (ρ 20) w fun x177 w => BK Try.prog .lss 3 (.tmp 178) (.tmp 179) (ρ 20) (ρ 2) w fun x180 w => MG Try.prog x180 true (ρ 2) w fun x182 w => MG Try.prog x180 true x177 w fun x183 w => BG Try.prog x180 true .lss 3 (.tmp 182) (.tmp 183) x182 x183 w fun x184 w => PK Try.prog x180 x184 (Value.bool false) w fun x185 w => CondK x185 (CK Try.prog (Value.func (Fn.func 89) #[] #[]) [(ρ 0), (ρ 20), (ρ 2), x177, (ρ 4)] w fun x191 w => sx z Try.prog 220 slices_symMergeCmpFunc_queue_Message_R25 K (up (up (up (up (up (up (up (up (up (up (up (up (up (up (up (up (up (up ρ 175 (ρ 19)) 176 (ρ 20)) 177 x177) 24 x177) 178 (ρ 20)) 179 (ρ 2)) 180 x180) 181 x180) 182 x182) 183 x183) 184 x184) 185 x185) 186 (ρ 0)) 187 (ρ 20)) 188 (ρ 2)) 189 x177) 190 (ρ 4)) 191 x191) w) (sx z Try.prog 220 slices_symMergeCmpFunc_queue_Message_R25 K (up (up (up (up (up (up (up (up (up (up (up (up ρ 175 (ρ 19)) 176 (ρ 20)) 177 x177) 24 x177) 178 (ρ 20)) 179 (ρ 2)) 180 x180) 181 x180) 182 x182) 183 x183) 184 x184) 185 x185) w)
theorem slices_symMergeCmpFunc_queue_Message_R18_eq (z : At) (K : Exit → Sl → World → Prop) (ρ : Sl) (w : World) : sx z Try.prog 220 slices_symMergeCmpFunc_queue_Message_R18 K ρ w = slices_symMergeCmpFunc_queue_Message_R18_F z K ρ w := by kernel_rfl
noncomputable def slices_symMergeCmpFunc_queue_Message_R19_ops : Array Oper := opsOf slices_symMergeCmpFunc_queue_Message_R19
def slices_symMergeCmpFunc_queue_Message_R19_H (S : World → Prop) (K : Exit → Sl → World → Prop) (ρ : Sl) (w : World) : Prop :=
  HK Try.prog S (do pure (Next.value (← (do eqGuard BinOp.add 3 (Operand.tmp 64) (Operand.const (Value.int IntKind.i64 1)) (ρ 13) (Value.int IntKind.i64 1); binOp BinOp.add 3 (ρ 13) (Value.int IntKind.i64 1))))) fun x65 => HK Try.prog S (do pure (Next.value (← (do eqGuard BinOp.add 3 (Operand.tmp 67) (Operand.const (Value.int IntKind.i64 1)) (ρ 13) (Value.int IntKind.i64 1); binOp BinOp.add 3 (ρ 13) (Value.int IntKind.i64 1))))) fun x68 => HK Try.prog S (do pure (Next.value (← Instr.indexAt 31 (ρ 0) x68))) fun x69 => HK Try.prog S (do pure (Next.value (← Instr.indexAt 31 (ρ 0) (ρ 13)))) fun x73 => (VK Try.prog (Instr.loadAt 39 x69) w fun x70 w => S w ∧ (VK Try.prog (Instr.loadAt 39 x73) w fun x74 w => S w ∧ (HK Try.prog S (do pure (Next.value (← Instr.indexAt 31 (ρ 0) (ρ 13)))) fun x75 => UK Try.prog (Instr.storeAt 39 x75 x70) w fun _ w => S w ∧ (HK Try.prog S (do pure (Next.value (← Instr.indexAt 31 (ρ 0) x65))) fun x76 => UK Try.prog (Instr.storeAt 39 x76 x74) w fun _ w => S w ∧ (K Exit.normal (up (up (up (up (up (up (up (up (up (up (up (up (up (up (up (up ρ 61 (ρ 0)) 62 (ρ 13)) 63 (ρ 0)) 64 (ρ 13)) 65 x65) 66 (ρ 0)) 67 (ρ 13)) 68 x68) 69 x69) 71 (ρ 0)) 72 (ρ 13)) 73 x73) 70 x70) 74 x74) 75 x75) 76 x76) w))))) ∧ (VK Try.prog (Instr.loadAt 39 x73) w fun x74_1 w => S w ∧ (VK Try.prog (Instr.loadAt 39 x69) w fun x70_1 w => S w ∧ (HK Try.prog S (do pure (Next.value (← Instr.indexAt 31 (ρ 0) (ρ 13)))) fun x75_1 => UK Try.prog (Instr.storeAt 39 x75_1 x70_1) w fun _ w => S w ∧ (HK Try.prog S (do pure (Next.value (← Instr.indexAt 31 (ρ 0) x65))) fun x76_1 => UK Try.prog (Instr.storeAt 39 x76_1 x74_1) w fun _ w => S w ∧ (K Exit.normal (up (up (up (up (up (up (up (up (up (up (up (up (up (up (up (up ρ 61 (ρ 0)) 62 (ρ 13)) 63 (ρ 0)) 64 (ρ 13)) 65 x65) 66 (ρ 0)) 67 (ρ 13)) 68 x68) 69 x69) 71 (ρ 0)) 72 (ρ 13)) 73 x73) 74 x74_1) 70 x70_1) 75 x75_1) 76 x76_1) w)))))
theorem slices_symMergeCmpFunc_queue_Message_R19_held {D : List Deferred} (S : World → Prop) {K : Exit → Sl → World → Prop} {ρ : Sl} {w : World} (hS : S { w with drawn := w.drawn + 1 }) (h : slices_symMergeCmpFunc_queue_Message_R19_H S K ρ { w with drawn := w.drawn + 1 }) : W ⟨none, D⟩ Try.prog 220 slices_symMergeCmpFunc_queue_Message_R19 K ρ w := by
  have e : slices_symMergeCmpFunc_queue_Message_R19 = .region (idOf slices_symMergeCmpFunc_queue_Message_R19) slices_symMergeCmpFunc_queue_Message_R19_ops true := by kernel_rfl
  have q : sxd Try.prog S slices_symMergeCmpFunc_queue_Message_R19_ops (K .normal) (Pd.take 0 (Pd.take 1 (Pd.take 2 (Pd.take 3 (Pd.take 4 (Pd.take 5 (Pd.take 6 (Pd.take 7 (Pd.take 8 (Pd.take 10 (Pd.take 11 (Pd.take 12 (Pd.two false false 9 13 (Pd.only false 13 (Pd.take 14 (Pd.only false 15 (Pd.take 16 (Pd.only false 17 Pd.done))))) (Pd.only false 9 (Pd.take 14 (Pd.only false 15 (Pd.take 16 (Pd.only false 17 Pd.done)))))))))))))))))) ρ { w with drawn := w.drawn + 1 } = slices_symMergeCmpFunc_queue_Message_R19_H S K ρ { w with drawn := w.drawn + 1 } := by kernel_rfl
  rw [e]
  exact W_pland S (Pd.take 0 (Pd.take 1 (Pd.take 2 (Pd.take 3 (Pd.take 4 (Pd.take 5 (Pd.take 6 (Pd.take 7 (Pd.take 8 (Pd.take 10 (Pd.take 11 (Pd.take 12 (Pd.two false false 9 13 (Pd.only false 13 (Pd.take 14 (Pd.only false 15 (Pd.take 16 (Pd.only false 17 Pd.done))))) (Pd.only false 9 (Pd.take 14 (Pd.only false 15 (Pd.take 16 (Pd.only false 17 Pd.done)))))))))))))))))) (by kernel_rfl) (by kernel_rfl) (by kernel_rfl) (by kernel_rfl) hS (Eq.mpr q h)
noncomputable def slices_symMergeCmpFunc_queue_Message_R20_F (z : At) (K : Exit → Sl → World → Prop) (ρ : Sl) (w : World) : Prop :=
  BK Try.prog .add 3 (.tmp 59) (.const (Value.int .i64 1)) (ρ 13) (Value.int .i64 1) w fun x60 w => K .normal (up (up (up ρ 59 (ρ 13)) 60 x60) 13 x60) w
theorem slices_symMergeCmpFunc_queue_Message_R20_eq (z : At) (K : Exit → Sl → World → Prop) (ρ : Sl) (w : World) : sx z Try.prog 220 slices_symMergeCmpFunc_queue_Message_R20 K ρ w = slices_symMergeCmpFunc_queue_Message_R20_F z K ρ w := by kernel_rfl
noncomputable def slices_symMergeCmpFunc_queue_Message_R21_ops : Array Oper := opsOf slices_symMergeCmpFunc_queue_Message_R21
def slices_symMergeCmpFunc_queue_Message_R21_H (S : World → Prop) (K : Exit → Sl → World → Prop) (ρ : Sl) (w : World) : Prop :=
  HK Try.prog S (do pure (Next.value (← (do eqGuard BinOp.sub 3 (Operand.tmp 116) (Operand.const (Value.int IntKind.i64 1)) (ρ 17) (Value.int IntKind.i64 1); binOp BinOp.sub 3 (ρ 17) (Value.int IntKind.i64 1))))) fun x117 => HK Try.prog S (do pure (Next.value (← (do eqGuard BinOp.sub 3 (Operand.tmp 119) (Operand.const (Value.int IntKind.i64 1)) (ρ 17) (Value.int IntKind.i64 1); binOp BinOp.sub 3 (ρ 17) (Value.int IntKind.i64 1))))) fun x120 => HK Try.prog S (do pure (Next.value (← Instr.indexAt 31 (ρ 0) x120))) fun x121 => HK Try.prog S (do pure (Next.value (← Instr.indexAt 31 (ρ 0) (ρ 17)))) fun x125 => (VK Try.prog (Instr.loadAt 39 x121) w fun x122 w => S w ∧ (VK Try.prog (Instr.loadAt 39 x125) w fun x126 w => S w ∧ (HK Try.prog S (do pure (Next.value (← Instr.indexAt 31 (ρ 0) (ρ 17)))) fun x127 => UK Try.prog (Instr.storeAt 39 x127 x122) w fun _ w => S w ∧ (HK Try.prog S (do pure (Next.value (← Instr.indexAt 31 (ρ 0) x117))) fun x128 => UK Try.prog (Instr.storeAt 39 x128 x126) w fun _ w => S w ∧ (K Exit.normal (up (up (up (up (up (up (up (up (up (up (up (up (up (up (up (up ρ 113 (ρ 0)) 114 (ρ 17)) 115 (ρ 0)) 116 (ρ 17)) 117 x117) 118 (ρ 0)) 119 (ρ 17)) 120 x120) 121 x121) 123 (ρ 0)) 124 (ρ 17)) 125 x125) 122 x122) 126 x126) 127 x127) 128 x128) w))))) ∧ (VK Try.prog (Instr.loadAt 39 x125) w fun x126_1 w => S w ∧ (VK Try.prog (Instr.loadAt 39 x121) w fun x122_1 w => S w ∧ (HK Try.prog S (do pure (Next.value (← Instr.indexAt 31 (ρ 0) (ρ 17)))) fun x127_1 => UK Try.prog (Instr.storeAt 39 x127_1 x122_1) w fun _ w => S w ∧ (HK Try.prog S (do pure (Next.value (← Instr.indexAt 31 (ρ 0) x117))) fun x128_1 => UK Try.prog (Instr.storeAt 39 x128_1 x126_1) w fun _ w => S w ∧ (K Exit.normal (up (up (up (up (up (up (up (up (up (up (up (up (up (up (up (up ρ 113 (ρ 0)) 114 (ρ 17)) 115 (ρ 0)) 116 (ρ 17)) 117 x117) 118 (ρ 0)) 119 (ρ 17)) 120 x120) 121 x121) 123 (ρ 0)) 124 (ρ 17)) 125 x125) 126 x126_1) 122 x122_1) 127 x127_1) 128 x128_1) w)))))
theorem slices_symMergeCmpFunc_queue_Message_R21_held {D : List Deferred} (S : World → Prop) {K : Exit → Sl → World → Prop} {ρ : Sl} {w : World} (hS : S { w with drawn := w.drawn + 1 }) (h : slices_symMergeCmpFunc_queue_Message_R21_H S K ρ { w with drawn := w.drawn + 1 }) : W ⟨none, D⟩ Try.prog 220 slices_symMergeCmpFunc_queue_Message_R21 K ρ w := by
  have e : slices_symMergeCmpFunc_queue_Message_R21 = .region (idOf slices_symMergeCmpFunc_queue_Message_R21) slices_symMergeCmpFunc_queue_Message_R21_ops true := by kernel_rfl
  have q : sxd Try.prog S slices_symMergeCmpFunc_queue_Message_R21_ops (K .normal) (Pd.take 0 (Pd.take 1 (Pd.take 2 (Pd.take 3 (Pd.take 4 (Pd.take 5 (Pd.take 6 (Pd.take 7 (Pd.take 8 (Pd.take 10 (Pd.take 11 (Pd.take 12 (Pd.two false false 9 13 (Pd.only false 13 (Pd.take 14 (Pd.only false 15 (Pd.take 16 (Pd.only false 17 Pd.done))))) (Pd.only false 9 (Pd.take 14 (Pd.only false 15 (Pd.take 16 (Pd.only false 17 Pd.done)))))))))))))))))) ρ { w with drawn := w.drawn + 1 } = slices_symMergeCmpFunc_queue_Message_R21_H S K ρ { w with drawn := w.drawn + 1 } := by kernel_rfl
  rw [e]
  exact W_pland S (Pd.take 0 (Pd.take 1 (Pd.take 2 (Pd.take 3 (Pd.take 4 (Pd.take 5 (Pd.take 6 (Pd.take 7 (Pd.take 8 (Pd.take 10 (Pd.take 11 (Pd.take 12 (Pd.two false false 9 13 (Pd.only false 13 (Pd.take 14 (Pd.only false 15 (Pd.take 16 (Pd.only false 17 Pd.done))))) (Pd.only false 9 (Pd.take 14 (Pd.only false 15 (Pd.take 16 (Pd.only false 17 Pd.done)))))))))))))))))) (by kernel_rfl) (by kernel_rfl) (by kernel_rfl) (by kernel_rfl) hS (Eq.mpr q h)
noncomputable def slices_symMergeCmpFunc_queue_Message_R22_F (z : At) (K : Exit → Sl → World → Prop) (ρ : Sl) (w : World) : Prop :=
  BK Try.prog .sub 3 (.tmp 111) (.const (Value.int .i64 1)) (ρ 17) (Value.int .i64 1) w fun x112 w => K .normal (up (up (up ρ 111 (ρ 17)) 112 x112) 17 x112) w
theorem slices_symMergeCmpFunc_queue_Message_R22_eq (z : At) (K : Exit → Sl → World → Prop) (ρ : Sl) (w : World) : sx z Try.prog 220 slices_symMergeCmpFunc_queue_Message_R22 K ρ w = slices_symMergeCmpFunc_queue_Message_R22_F z K ρ w := by kernel_rfl
noncomputable def slices_symMergeCmpFunc_queue_Message_R23_ops : Array Oper := opsOf slices_symMergeCmpFunc_queue_Message_R23
def slices_symMergeCmpFunc_queue_Message_R23_Q (C : World → Prop) (K : Exit → Sl → World → Prop) (ρ : Sl) : Prop :=
  QK Try.prog C (do pure (Next.value (← (do eqGuard BinOp.sub 3 (Operand.tmp 160) (Operand.tmp 161) (ρ 22) (ρ 23); binOp BinOp.sub 3 (ρ 22) (ρ 23))))) fun x162 => QK Try.prog C (do pure (Next.value (← Instr.indexAt 31 (ρ 0) x162))) fun x163 => QK Try.prog C (do pure (Next.value (← Instr.loadAt 39 x163))) fun x164 => QK Try.prog C (do pure (Next.value (← Instr.indexAt 31 (ρ 0) (ρ 23)))) fun x167 => QK Try.prog C (do pure (Next.value (← Instr.loadAt 39 x167))) fun x168 => QK Try.prog C (do let d ← Deferred.ofValue (ρ 4) [x164, x168].toArray; invoke d.target d.args) fun x169 => QK Try.prog C (do pure (Next.value (← (do eqGuard BinOp.lss 3 (Operand.tmp 169) (Operand.const (Value.int IntKind.i64 0)) x169 (Value.int IntKind.i64 0); binOp BinOp.lss 3 x169 (Value.int IntKind.i64 0))))) fun x170 => QK Try.prog C (do pure (Next.value (← Op.unary UnOp.not x170))) fun x171 => ∀ w', C w' → K Exit.normal (up (up (up (up (up (up (up (up (up (up (up (up (up (up ρ 158 (ρ 4)) 159 (ρ 0)) 160 (ρ 22)) 161 (ρ 23)) 162 x162) 163 x163) 164 x164) 165 (ρ 0)) 166 (ρ 23)) 167 x167) 168 x168) 169 x169) 170 x170) 171 x171) w'
theorem slices_symMergeCmpFunc_queue_Message_R23_quiet {D : List Deferred} (C : World → Prop) {K : Exit → Sl → World → Prop} {ρ : Sl} {w : World} (hC : C { w with drawn := w.drawn + 1 }) (h : slices_symMergeCmpFunc_queue_Message_R23_Q C K ρ) : W ⟨none, D⟩ Try.prog 220 slices_symMergeCmpFunc_queue_Message_R23 K ρ w := by
  have e : slices_symMergeCmpFunc_queue_Message_R23 = .region (idOf slices_symMergeCmpFunc_queue_Message_R23) slices_symMergeCmpFunc_queue_Message_R23_ops true := by kernel_rfl
  have q : sxq Try.prog C slices_symMergeCmpFunc_queue_Message_R23_ops (fun ρ' => ∀ w', C w' → K .normal ρ' w') slices_symMergeCmpFunc_queue_Message_R23_ops.toList ρ = slices_symMergeCmpFunc_queue_Message_R23_Q C K ρ := by kernel_rfl
  rw [e]
  exact W_quiet C (by kernel_rfl) (by kernel_rfl) (by kernel_rfl) hC (Eq.mpr q h)
noncomputable def slices_symMergeCmpFunc_queue_Message_R24_F (z : At) (K : Exit → Sl → World → Prop) (ρ : Sl) (w : World) : Prop :=
  CondK (ρ 171) (BK Try.prog .add 3 (.tmp 172) (.const (Value.int .i64 1)) (ρ 23) (Value.int .i64 1) w fun x173 w => K .normal (up (up (up ρ 172 (ρ 23)) 173 x173) 20 x173) w) (K .normal (up (up ρ 174 (ρ 23)) 21 (ρ 23)) w)
theorem slices_symMergeCmpFunc_queue_Message_R24_eq (z : At) (K : Exit → Sl → World → Prop) (ρ : Sl) (w : World) : sx z Try.prog 220 slices_symMergeCmpFunc_queue_Message_R24 K ρ w = slices_symMergeCmpFunc_queue_Message_R24_F z K ρ w := by kernel_rfl
noncomputable def slices_symMergeCmpFunc_queue_Message_R25_F (z : At) (K : Exit → Sl → World → Prop) (ρ : Sl) (w : World) : Prop :=
  BK Try.prog .lss 3 (.tmp 192) (.tmp 193) (ρ 1) (ρ 20) w fun x194 w => MG Try.prog x194 true (ρ 20) w fun x196 w => MG Try.prog x194 true (ρ 18) w fun x197 w => BG Try.prog x194 true .lss 3 (.tmp 196) (.tmp 197) x196 x197 w fun x198 w => PK Try.prog x194 x198 (Value.bool false) w fun x199 w => CondK x199 (CK Try.prog (Value.func (Fn.func 83) #[] #[]) [(ρ 0), (ρ 1), (ρ 20), (ρ 18), (ρ 4)] w fun x205 w => sx z Try.prog 220 slices_symMergeCmpFunc_queue_Message_R26 K (up (up (up (up (up (up (up (up (up (up (up (up (up (up ρ 192 (ρ 1)) 193 (ρ 20)) 194 x194) 195 x194) 196 x196) 197 x197) 198 x198) 199 x199) 200 (ρ 0)) 201 (ρ 1)) 202 (ρ 20)) 203 (ρ 18)) 204 (ρ 4)) 205 x205) w) (sx z Try.prog 220 slices_symMergeCmpFunc_queue_Message_R26 K (up (up (up (up (up (up (up (up ρ 192 (ρ 1)) 193 (ρ 20)) 194 x194) 195 x194) 196 x196) 197 x197) 198 x198) 199 x199) w)
theorem slices_symMergeCmpFunc_queue_Message_R25_eq (z : At) (K : Exit → Sl → World → Prop) (ρ : Sl) (w : World) : sx z Try.prog 220 slices_symMergeCmpFunc_queue_Message_R25 K ρ w = slices_symMergeCmpFunc_queue_Message_R25_F z K ρ w := by kernel_rfl
noncomputable def slices_symMergeCmpFunc_queue_Message_R26_F (z : At) (K : Exit → Sl → World → Prop) (ρ : Sl) (w : World) : Prop :=
  BK Try.prog .lss 3 (.tmp 206) (.tmp 207) (ρ 18) (ρ 24) w fun x208 w => MG Try.prog x208 true (ρ 24) w fun x210 w => MG Try.prog x208 true (ρ 3) w fun x211 w => BG Try.prog x208 true .lss 3 (.tmp 210) (.tmp 211) x210 x211 w fun x212 w => PK Try.prog x208 x212 (Value.bool false) w fun x213 w => CondK x213 (CK Try.prog (Value.func (Fn.func 83) #[] #[]) [(ρ 0), (ρ 18), (ρ 24), (ρ 3), (ρ 4)] w fun x219 w => K .normal (up (up (up (up (up (up (up (up (up (up (up (up (up (up ρ 206 (ρ 18)) 207 (ρ 24)) 208 x208) 209 x208) 210 x210) 211 x211) 212 x212) 213 x213) 214 (ρ 0)) 215 (ρ 18)) 216 (ρ 24)) 217 (ρ 3)) 218 (ρ 4)) 219 x219) w) (K .normal (up (up (up (up (up (up (up (up ρ 206 (ρ 18)) 207 (ρ 24)) 208 x208) 209 x208) 210 x210) 211 x211) 212 x212) 213 x213) w)
theorem slices_symMergeCmpFunc_queue_Message_R26_eq (z : At) (K : Exit → Sl → World → Prop) (ρ : Sl) (w : World) : sx z Try.prog 220 slices_symMergeCmpFunc_queue_Message_R26 K ρ w = slices_symMergeCmpFunc_queue_Message_R26_F z K ρ w := by kernel_rfl
noncomputable def slices_symMergeCmpFunc_queue_Message_F (a0 a1 a2 a3 a4 : Value) (w : World) (R : Value → World → Prop) : Prop :=
  BK Try.prog .sub 3 (.tmp 25) (.tmp 26) a2 a1 w fun x27 w => BK Try.prog .eql 3 (.tmp 27) (.const (Value.int .i64 1)) x27 (Value.int .i64 1) w fun x28 w => CondK x28 (W fn_ Try.prog 220 (Code.loop slices_symMergeCmpFunc_queue_Message_L0) (blkK 0 (seqK (sx fn_ Try.prog 220 slices_symMergeCmpFunc_queue_Message_R1 (seqK (sx fn_ Try.prog 220 slices_symMergeCmpFunc_queue_Message_R2 (retK Try.prog [] R)) (retK Try.prog [] R))) (seqK (sx fn_ Try.prog 220 slices_symMergeCmpFunc_queue_Message_R2 (retK Try.prog [] R)) (retK Try.prog [] R)))) (up (up (up (up (up (up (up (up (rho0 [a0, a1, a2, a3, a4]) 25 a2) 26 a1) 27 x27) 28 x28) 29 a2) 10 a2) 30 a3) 11 a3) w) (BK Try.prog .sub 3 (.tmp 77) (.tmp 78) a3 a2 w fun x79 w => BK Try.prog .eql 3 (.tmp 79) (.const (Value.int .i64 1)) x79 (Value.int .i64 1) w fun x80 w => CondK x80 (W fn_ Try.prog 220 (Code.loop slices_symMergeCmpFunc_queue_Message_L3) (blkK 4 (seqK (sx fn_ Try.prog 220 slices_symMergeCmpFunc_queue_Message_R4 (seqK (sx fn_ Try.prog 220 slices_symMergeCmpFunc_queue_Message_R5 (retK Try.prog [] R)) (retK Try.prog [] R))) (seqK (sx fn_ Try.prog 220 slices_symMergeCmpFunc_queue_Message_R5 (retK Try.prog [] R)) (retK Try.prog [] R)))) (up (up (up (up (up (up (up (up (up (up (up (up (rho0 [a0, a1, a2, a3, a4]) 25 a2) 26 a1) 27 x27) 28 x28) 77 a3) 78 a2) 79 x79) 80 x80) 81 a1) 14 a1) 82 a2) 15 a2) w) (BK Try.prog .add 3 (.tmp 129) (.tmp 130) a1 a3 w fun x131 w => VK Try.prog (convert 3 129 x131) w fun x132 w => BK Try.prog .shr 129 (.tmp 132) (.const (Value.int .u64 1)) x132 (Value.int .u64 1) w fun x133 w => VK Try.prog (convert 129 3 x133) w fun x134 w => BK Try.prog .add 3 (.tmp 135) (.tmp 136) x134 a2 w fun x137 w => BK Try.prog .gtr 3 (.tmp 138) (.tmp 139) a2 x134 w fun x140 w => sx fn_ Try.prog 220 slices_symMergeCmpFunc_queue_Message_R6 (seqK (sx fn_ Try.prog 220 slices_symMergeCmpFunc_queue_Message_R7 (retK Try.prog [] R)) (retK Try.prog [] R)) (up (up (up (up (up (up (up (up (up (up (up (up (up (up (up (up (up (up (up (up (up (up (up (up (rho0 [a0, a1, a2, a3, a4]) 25 a2) 26 a1) 27 x27) 28 x28) 77 a3) 78 a2) 79 x79) 80 x80) 129 a1) 130 a3) 131 x131) 132 x132) 133 x133) 134 x134) 18 x134) 135 x134) 136 a2) 137 x137) 19 x137) 20 (Value.int .i64 0)) 21 (Value.int .i64 0)) 138 a2) 139 x134) 140 x140) w))
theorem slices_symMergeCmpFunc_queue_Message_eq (a0 a1 a2 a3 a4 : Value) (w : World) (R : Value → World → Prop) : sx fn_ Try.prog 220 slices_symMergeCmpFunc_queue_Message_b (retK Try.prog Try.f83.results.toList R) (rho0 [a0, a1, a2, a3, a4]) w = slices_symMergeCmpFunc_queue_Message_F a0 a1 a2 a3 a4 w R := by kernel_rfl
theorem slices_symMergeCmpFunc_queue_Message_calls {a0 a1 a2 a3 a4 : Value} {w : World} {R : Value → World → Prop} (h : slices_symMergeCmpFunc_queue_Message_F a0 a1 a2 a3 a4 w R) : Calls Try.prog 83 #[a0, a1, a2, a3, a4] w fun e w' => ∃ v, e = .returned v ∧ R v w' :=
  Go.X.calls_of_sx (n := 220) (c := slices_symMergeCmpFunc_queue_Message_b) Try.func83 (by kernel_rfl) (by kernel_rfl) (Nat.le_of_ble_eq_true rfl) (by kernel_rfl) (Eq.mpr (slices_symMergeCmpFunc_queue_Message_eq a0 a1 a2 a3 a4 w R) h)
noncomputable def cmp_isNaN_string_b : Code := (Try.f84.body).getD .skip
noncomputable def cmp_isNaN_string_F (a0 : Value) (w : World) (R : Value → World → Prop) : Prop :=
  BK Try.prog .neq 9 (.tmp 3) (.tmp 4) a0 a0 w fun x5 w => R x5 w
theorem cmp_isNaN_string_eq (a0 : Value) (w : World) (R : Value → World → Prop) : sx fn_ Try.prog 6 cmp_isNaN_string_b (retK Try.prog Try.f84.results.toList R) (rho0 [a0]) w = cmp_isNaN_string_F a0 w R := by kernel_rfl
theorem cmp_isNaN_string_calls {a0 : Value} {w : World} {R : Value → World → Prop} (h : cmp_isNaN_string_F a0 w R) : Calls Try.prog 84 #[a0] w fun e w' => ∃ v, e = .returned v ∧ R v w' :=
  Go.X.calls_of_sx (n := 6) (c := cmp_isNaN_string_b) Try.func84 (by kernel_rfl) (by kernel_rfl) (Nat.le_of_ble_eq_true rfl) (by kernel_rfl) (Eq.mpr (cmp_isNaN_string_eq a0 w R) h)
noncomputable def cmp_isNaN_int_b : Code := (Try.f85.body).getD .skip
noncomputable def cmp_isNaN_int_F (a0 : Value) (w : World) (R : Value → World → Prop) : Prop :=
  BK Try.prog .neq 3 (.tmp 3) (.tmp 4) a0 a0 w fun x5 w => R x5 w
theorem cmp_isNaN_int_eq (a0 : Value) (w : World) (R : Value → World → Prop) : sx fn_ Try.prog 6 cmp_isNaN_int_b (retK Try.prog Try.f85.results.toList R) (rho0 [a0]) w = cmp_isNaN_int_F a0 w R := by kernel_rfl
theorem cmp_isNaN_int_calls {a0 : Value} {w : World} {R : Value → World → Prop} (h : cmp_isNaN_int_F a0 w R) : Calls Try.prog 85 #[a0] w fun e w' => ∃ v, e = .returned v ∧ R v w' :=
  Go.X.calls_of_sx (n := 6) (c := cmp_isNaN_int_b) Try.func85 (by kernel_rfl) (by kernel_rfl) (Nat.le_of_ble_eq_true rfl) (by kernel_rfl) (Eq.mpr (cmp_isNaN_int_eq a0 w R) h)
noncomputable def dispatcherref13_is_b : Code := (Try.f88.body).getD .skip
noncomputable def dispatcherref13_is_F (a0 a1 a2 a3 : Value) (w : World) (R : Value → World → Prop) : Prop :=
  VK Try.prog (Instr.box 39 a0) w fun x4 w => VK Try.prog (Instr.fieldAt 39 x4 7) w fun x9 w => VK Try.prog (Instr.loadAt 4 x9) w fun x10 w => VK Try.prog (Op.unary UnOp.not x10) w fun x11 w => VG Try.prog x11 true (Instr.fieldAt 39 x4 0) w fun x13 w => VG Try.prog x11 true (Instr.loadAt 9 x13) w fun x14 w => MG Try.prog x11 true a1 w fun x15 w => BG Try.prog x11 true .eql 9 (.tmp 14) (.tmp 15) x14 x15 w fun x16 w => PK Try.prog x11 x16 (Value.bool false) w fun x17 w => VG Try.prog x17 true (Instr.fieldAt 39 x4 1) w fun x19 w => VG Try.prog x17 true (Instr.loadAt 3 x19) w fun x20 w => MG Try.prog x17 true a2 w fun x21 w => BG Try.prog x17 true .eql 3 (.tmp 20) (.tmp 21) x20 x21 w fun x22 w => PK Try.prog x17 x22 (Value.bool false) w fun x23 w => VG Try.prog x23 true (Instr.fieldAt 39 x4 2) w fun x25 w => VG Try.prog x23 true (Instr.loadAt 3 x25) w fun x26 w => MG Try.prog x23 true a3 w fun x27 w => BG Try.prog x23 true .eql 3 (.tmp 26) (.tmp 27) x26 x27 w fun x28 w => PK Try.prog x23 x28 (Value.bool false) w fun x29 w => R x29 w
theorem dispatcherref13_is_eq (a0 a1 a2 a3 : Value) (w : World) (R : Value → World → Prop) : sx fn_ Try.prog 30 dispatcherref13_is_b (retK Try.prog Try.f88.results.toList R) (rho0 [a0, a1, a2, a3]) w = dispatcherref13_is_F a0 a1 a2 a3 w R := by kernel_rfl
theorem dispatcherref13_is_calls {a0 a1 a2 a3 : Value} {w : World} {R : Value → World → Prop} (h : dispatcherref13_is_F a0 a1 a2 a3 w R) : Calls Try.prog 88 #[a0, a1, a2, a3] w fun e w' => ∃ v, e = .returned v ∧ R v w' :=
  Go.X.calls_of_sx (n := 30) (c := dispatcherref13_is_b) Try.func88 (by kernel_rfl) (by kernel_rfl) (Nat.le_of_ble_eq_true rfl) (by kernel_rfl) (Eq.mpr (dispatcherref13_is_eq a0 a1 a2 a3 w R) h)
noncomputable def slices_rotateCmpFunc_queue_Message_b : Code := (Try.f89.body).getD .skip
noncomputable def slices_rotateCmpFunc_queue_Message_L0 : Code := cAt [1, 1, 0, 0, 0] slices_rotateCmpFunc_queue_Message_b
noncomputable def slices_rotateCmpFunc_queue_Message_R1 : Code := cAt [1, 1, 1] slices_rotateCmpFunc_queue_Message_b
noncomputable def slices_rotateCmpFunc_queue_Message_L0_F (z : At) (K : Exit → Sl → World → Prop) (ρ : Sl) (w : World) : Prop :=
  BK Try.prog .neq 3 (.tmp 18) (.tmp 19) (ρ 10) (ρ 11) w fun x20 w => CondK x20 (BK Try.prog .gtr 3 (.tmp 21) (.tmp 22) (ρ 10) (ρ 11) w fun x23 w => CondK x23 (BK Try.prog .sub 3 (.tmp 25) (.tmp 26) (ρ 2) (ρ 10) w fun x27 w => CK Try.prog (Value.func (Fn.func 101) #[] #[]) [(ρ 0), x27, (ρ 2), (ρ 11), (ρ 4)] w fun x31 w => BK Try.prog .sub 3 (.tmp 32) (.tmp 33) (ρ 10) (ρ 11) w fun x34 w => K .normal (up (up (up (up (up (up (up (up (up (up (up (up (up (up (up (up (up (up ρ 18 (ρ 10)) 19 (ρ 11)) 20 x20) 21 (ρ 10)) 22 (ρ 11)) 23 x23) 24 (ρ 0)) 25 (ρ 2)) 26 (ρ 10)) 27 x27) 28 (ρ 2)) 29 (ρ 11)) 30 (ρ 4)) 31 x31) 32 (ρ 10)) 33 (ρ 11)) 34 x34) 10 x34) w) (BK Try.prog .sub 3 (.tmp 36) (.tmp 37) (ρ 2) (ρ 10) w fun x38 w => BK Try.prog .add 3 (.tmp 39) (.tmp 40) (ρ 2) (ρ 11) w fun x41 w => BK Try.prog .sub 3 (.tmp 41) (.tmp 42) x41 (ρ 10) w fun x43 w => CK Try.prog (Value.func (Fn.func 101) #[] #[]) [(ρ 0), x38, x43, (ρ 10), (ρ 4)] w fun x46 w => BK Try.prog .sub 3 (.tmp 47) (.tmp 48) (ρ 11) (ρ 10) w fun x49 w => K .normal (up (up (up (up (up (up (up (up (up (up (up (up (up (up (up (up (up (up (up (up (up (up ρ 18 (ρ 10)) 19 (ρ 11)) 20 x20) 21 (ρ 10)) 22 (ρ 11)) 23 x23) 35 (ρ 0)) 36 (ρ 2)) 37 (ρ 10)) 38 x38) 39 (ρ 2)) 40 (ρ 11)) 41 x41) 42 (ρ 10)) 43 x43) 44 (ρ 10)) 45 (ρ 4)) 46 x46) 47 (ρ 11)) 48 (ρ 10)) 49 x49) 11 x49) w)) (K (.exit 0) (up (up (up ρ 18 (ρ 10)) 19 (ρ 11)) 20 x20) w)
theorem slices_rotateCmpFunc_queue_Message_L0_eq (z : At) (K : Exit → Sl → World → Prop) (ρ : Sl) (w : World) : sx z Try.prog 58 slices_rotateCmpFunc_queue_Message_L0 K ρ w = slices_rotateCmpFunc_queue_Message_L0_F z K ρ w := by kernel_rfl
theorem slices_rotateCmpFunc_queue_Message_L0_ok : dstOk 58 slices_rotateCmpFunc_queue_Message_L0 = true := by kernel_rfl
noncomputable def slices_rotateCmpFunc_queue_Message_R1_F (z : At) (K : Exit → Sl → World → Prop) (ρ : Sl) (w : World) : Prop :=
  BK Try.prog .sub 3 (.tmp 51) (.tmp 52) (ρ 2) (ρ 10) w fun x53 w => CK Try.prog (Value.func (Fn.func 101) #[] #[]) [(ρ 0), x53, (ρ 2), (ρ 10), (ρ 4)] w fun x57 w => K .normal (up (up (up (up (up (up (up (up ρ 50 (ρ 0)) 51 (ρ 2)) 52 (ρ 10)) 53 x53) 54 (ρ 2)) 55 (ρ 10)) 56 (ρ 4)) 57 x57) w
theorem slices_rotateCmpFunc_queue_Message_R1_eq (z : At) (K : Exit → Sl → World → Prop) (ρ : Sl) (w : World) : sx z Try.prog 58 slices_rotateCmpFunc_queue_Message_R1 K ρ w = slices_rotateCmpFunc_queue_Message_R1_F z K ρ w := by kernel_rfl
noncomputable def slices_rotateCmpFunc_queue_Message_F (a0 a1 a2 a3 a4 : Value) (w : World) (R : Value → World → Prop) : Prop :=
  BK Try.prog .sub 3 (.tmp 12) (.tmp 13) a2 a1 w fun x14 w => BK Try.prog .sub 3 (.tmp 15) (.tmp 16) a3 a2 w fun x17 w => W fn_ Try.prog 58 (Code.loop slices_rotateCmpFunc_queue_Message_L0) (blkK 0 (seqK (sx fn_ Try.prog 58 slices_rotateCmpFunc_queue_Message_R1 (retK Try.prog [] R)) (retK Try.prog [] R))) (up (up (up (up (up (up (up (up (rho0 [a0, a1, a2, a3, a4]) 12 a2) 13 a1) 14 x14) 10 x14) 15 a3) 16 a2) 17 x17) 11 x17) w
theorem slices_rotateCmpFunc_queue_Message_eq (a0 a1 a2 a3 a4 : Value) (w : World) (R : Value → World → Prop) : sx fn_ Try.prog 58 slices_rotateCmpFunc_queue_Message_b (retK Try.prog Try.f89.results.toList R) (rho0 [a0, a1, a2, a3, a4]) w = slices_rotateCmpFunc_queue_Message_F a0 a1 a2 a3 a4 w R := by kernel_rfl
theorem slices_rotateCmpFunc_queue_Message_calls {a0 a1 a2 a3 a4 : Value} {w : World} {R : Value → World → Prop} (h : slices_rotateCmpFunc_queue_Message_F a0 a1 a2 a3 a4 w R) : Calls Try.prog 89 #[a0, a1, a2, a3, a4] w fun e w' => ∃ v, e = .returned v ∧ R v w' :=
  Go.X.calls_of_sx (n := 58) (c := slices_rotateCmpFunc_queue_Message_b) Try.func89 (by kernel_rfl) (by kernel_rfl) (Nat.le_of_ble_eq_true rfl) (by kernel_rfl) (Eq.mpr (slices_rotateCmpFunc_queue_Message_eq a0 a1 a2 a3 a4 w R) h)
noncomputable def slices_swapRangeCmpFunc_queue_Message_b : Code := (Try.f101.body).getD .skip
noncomputable def slices_swapRangeCmpFunc_queue_Message_L0 : Code := cAt [1, 0, 0] slices_swapRangeCmpFunc_queue_Message_b
noncomputable def slices_swapRangeCmpFunc_queue_Message_R1 : Code := cAt [1, 0, 0, 1, 0, 0] slices_swapRangeCmpFunc_queue_Message_b
noncomputable def slices_swapRangeCmpFunc_queue_Message_R2 : Code := cAt [1, 0, 0, 1, 1] slices_swapRangeCmpFunc_queue_Message_b
noncomputable def slices_swapRangeCmpFunc_queue_Message_L0_F (z : At) (K : Exit → Sl → World → Prop) (ρ : Sl) (w : World) : Prop :=
  BK Try.prog .lss 3 (.tmp 11) (.tmp 12) (ρ 10) (ρ 3) w fun x13 w => CondK x13 (W z Try.prog 38 slices_swapRangeCmpFunc_queue_Message_R1 (blkK 1 (seqK (sx z Try.prog 38 slices_swapRangeCmpFunc_queue_Message_R2 K) K)) (up (up (up ρ 11 (ρ 10)) 12 (ρ 3)) 13 x13) w) (K (.exit 0) (up (up (up ρ 11 (ρ 10)) 12 (ρ 3)) 13 x13) w)
theorem slices_swapRangeCmpFunc_queue_Message_L0_eq (z : At) (K : Exit → Sl → World → Prop) (ρ : Sl) (w : World) : sx z Try.prog 38 slices_swapRangeCmpFunc_queue_Message_L0 K ρ w = slices_swapRangeCmpFunc_queue_Message_L0_F z K ρ w := by kernel_rfl
theorem slices_swapRangeCmpFunc_queue_Message_L0_ok : dstOk 38 slices_swapRangeCmpFunc_queue_Message_L0 = true := by kernel_rfl
noncomputable def slices_swapRangeCmpFunc_queue_Message_R1_ops : Array Oper := opsOf slices_swapRangeCmpFunc_queue_Message_R1
def slices_swapRangeCmpFunc_queue_Message_R1_H (S : World → Prop) (K : Exit → Sl → World → Prop) (ρ : Sl) (w : World) : Prop :=
  HK Try.prog S (do pure (Next.value (← (do eqGuard BinOp.add 3 (Operand.tmp 17) (Operand.tmp 18) (ρ 1) (ρ 10); binOp BinOp.add 3 (ρ 1) (ρ 10))))) fun x19 => HK Try.prog S (do pure (Next.value (← (do eqGuard BinOp.add 3 (Operand.tmp 21) (Operand.tmp 22) (ρ 2) (ρ 10); binOp BinOp.add 3 (ρ 2) (ρ 10))))) fun x23 => HK Try.prog S (do pure (Next.value (← (do eqGuard BinOp.add 3 (Operand.tmp 25) (Operand.tmp 26) (ρ 2) (ρ 10); binOp BinOp.add 3 (ρ 2) (ρ 10))))) fun x27 => HK Try.prog S (do pure (Next.value (← Instr.indexAt 31 (ρ 0) x27))) fun x28 => HK Try.prog S (do pure (Next.value (← (do eqGuard BinOp.add 3 (Operand.tmp 31) (Operand.tmp 32) (ρ 1) (ρ 10); binOp BinOp.add 3 (ρ 1) (ρ 10))))) fun x33 => HK Try.prog S (do pure (Next.value (← Instr.indexAt 31 (ρ 0) x33))) fun x34 => (VK Try.prog (Instr.loadAt 39 x28) w fun x29 w => S w ∧ (VK Try.prog (Instr.loadAt 39 x34) w fun x35 w => S w ∧ (HK Try.prog S (do pure (Next.value (← Instr.indexAt 31 (ρ 0) x19))) fun x36 => UK Try.prog (Instr.storeAt 39 x36 x29) w fun _ w => S w ∧ (HK Try.prog S (do pure (Next.value (← Instr.indexAt 31 (ρ 0) x23))) fun x37 => UK Try.prog (Instr.storeAt 39 x37 x35) w fun _ w => S w ∧ (K Exit.normal (up (up (up (up (up (up (up (up (up (up (up (up (up (up (up (up (up (up (up (up (up (up ρ 16 (ρ 0)) 17 (ρ 1)) 18 (ρ 10)) 19 x19) 20 (ρ 0)) 21 (ρ 2)) 22 (ρ 10)) 23 x23) 24 (ρ 0)) 25 (ρ 2)) 26 (ρ 10)) 27 x27) 28 x28) 30 (ρ 0)) 31 (ρ 1)) 32 (ρ 10)) 33 x33) 34 x34) 29 x29) 35 x35) 36 x36) 37 x37) w))))) ∧ (VK Try.prog (Instr.loadAt 39 x34) w fun x35_1 w => S w ∧ (VK Try.prog (Instr.loadAt 39 x28) w fun x29_1 w => S w ∧ (HK Try.prog S (do pure (Next.value (← Instr.indexAt 31 (ρ 0) x19))) fun x36_1 => UK Try.prog (Instr.storeAt 39 x36_1 x29_1) w fun _ w => S w ∧ (HK Try.prog S (do pure (Next.value (← Instr.indexAt 31 (ρ 0) x23))) fun x37_1 => UK Try.prog (Instr.storeAt 39 x37_1 x35_1) w fun _ w => S w ∧ (K Exit.normal (up (up (up (up (up (up (up (up (up (up (up (up (up (up (up (up (up (up (up (up (up (up ρ 16 (ρ 0)) 17 (ρ 1)) 18 (ρ 10)) 19 x19) 20 (ρ 0)) 21 (ρ 2)) 22 (ρ 10)) 23 x23) 24 (ρ 0)) 25 (ρ 2)) 26 (ρ 10)) 27 x27) 28 x28) 30 (ρ 0)) 31 (ρ 1)) 32 (ρ 10)) 33 x33) 34 x34) 35 x35_1) 29 x29_1) 36 x36_1) 37 x37_1) w)))))
theorem slices_swapRangeCmpFunc_queue_Message_R1_held {D : List Deferred} (S : World → Prop) {K : Exit → Sl → World → Prop} {ρ : Sl} {w : World} (hS : S { w with drawn := w.drawn + 1 }) (h : slices_swapRangeCmpFunc_queue_Message_R1_H S K ρ { w with drawn := w.drawn + 1 }) : W ⟨none, D⟩ Try.prog 38 slices_swapRangeCmpFunc_queue_Message_R1 K ρ w := by
  have e : slices_swapRangeCmpFunc_queue_Message_R1 = .region (idOf slices_swapRangeCmpFunc_queue_Message_R1) slices_swapRangeCmpFunc_queue_Message_R1_ops true := by kernel_rfl
  have q : sxd Try.prog S slices_swapRangeCmpFunc_queue_Message_R1_ops (K .normal) (Pd.take 0 (Pd.take 1 (Pd.take 2 (Pd.take 3 (Pd.take 4 (Pd.take 5 (Pd.take 6 (Pd.take 7 (Pd.take 8 (Pd.take 9 (Pd.take 10 (Pd.take 11 (Pd.take 12 (Pd.take 14 (Pd.take 15 (Pd.take 16 (Pd.take 17 (Pd.take 18 (Pd.two false false 13 19 (Pd.only false 19 (Pd.take 20 (Pd.only false 21 (Pd.take 22 (Pd.only false 23 Pd.done))))) (Pd.only false 13 (Pd.take 20 (Pd.only false 21 (Pd.take 22 (Pd.only false 23 Pd.done)))))))))))))))))))))))) ρ { w with drawn := w.drawn + 1 } = slices_swapRangeCmpFunc_queue_Message_R1_H S K ρ { w with drawn := w.drawn + 1 } := by kernel_rfl
  rw [e]
  exact W_pland S (Pd.take 0 (Pd.take 1 (Pd.take 2 (Pd.take 3 (Pd.take 4 (Pd.take 5 (Pd.take 6 (Pd.take 7 (Pd.take 8 (Pd.take 9 (Pd.take 10 (Pd.take 11 (Pd.take 12 (Pd.take 14 (Pd.take 15 (Pd.take 16 (Pd.take 17 (Pd.take 18 (Pd.two false false 13 19 (Pd.only false 19 (Pd.take 20 (Pd.only false 21 (Pd.take 22 (Pd.only false 23 Pd.done))))) (Pd.only false 13 (Pd.take 20 (Pd.only false 21 (Pd.take 22 (Pd.only false 23 Pd.done)))))))))))))))))))))))) (by kernel_rfl) (by kernel_rfl) (by kernel_rfl) (by kernel_rfl) hS (Eq.mpr q h)
noncomputable def slices_swapRangeCmpFunc_queue_Message_R2_F (z : At) (K : Exit → Sl → World → Prop) (ρ : Sl) (w : World) : Prop :=
  BK Try.prog .add 3 (.tmp 14) (.const (Value.int .i64 1)) (ρ 10) (Value.int .i64 1) w fun x15 w => K .normal (up (up (up ρ 14 (ρ 10)) 15 x15) 10 x15) w
theorem slices_swapRangeCmpFunc_queue_Message_R2_eq (z : At) (K : Exit → Sl → World → Prop) (ρ : Sl) (w : World) : sx z Try.prog 38 slices_swapRangeCmpFunc_queue_Message_R2 K ρ w = slices_swapRangeCmpFunc_queue_Message_R2_F z K ρ w := by kernel_rfl
noncomputable def slices_swapRangeCmpFunc_queue_Message_F (a0 a1 a2 a3 a4 : Value) (w : World) (R : Value → World → Prop) : Prop :=
  W fn_ Try.prog 38 (Code.loop slices_swapRangeCmpFunc_queue_Message_L0) (blkK 0 (retK Try.prog [] R)) (up (rho0 [a0, a1, a2, a3, a4]) 10 (Value.int .i64 0)) w
theorem slices_swapRangeCmpFunc_queue_Message_eq (a0 a1 a2 a3 a4 : Value) (w : World) (R : Value → World → Prop) : sx fn_ Try.prog 38 slices_swapRangeCmpFunc_queue_Message_b (retK Try.prog Try.f101.results.toList R) (rho0 [a0, a1, a2, a3, a4]) w = slices_swapRangeCmpFunc_queue_Message_F a0 a1 a2 a3 a4 w R := by kernel_rfl
theorem slices_swapRangeCmpFunc_queue_Message_calls {a0 a1 a2 a3 a4 : Value} {w : World} {R : Value → World → Prop} (h : slices_swapRangeCmpFunc_queue_Message_F a0 a1 a2 a3 a4 w R) : Calls Try.prog 101 #[a0, a1, a2, a3, a4] w fun e w' => ∃ v, e = .returned v ∧ R v w' :=
  Go.X.calls_of_sx (n := 38) (c := slices_swapRangeCmpFunc_queue_Message_b) Try.func101 (by kernel_rfl) (by kernel_rfl) (Nat.le_of_ble_eq_true rfl) (by kernel_rfl) (Eq.mpr (slices_swapRangeCmpFunc_queue_Message_eq a0 a1 a2 a3 a4 w R) h)
end Go.Proofs.Ytmnkedgmpbcicaa.XF
set_option linter.unusedVariables false
namespace Go.Proofs.Ytmnkedgmpbcicaa.XK
open Go Go.X
end Go.Proofs.Ytmnkedgmpbcicaa.XK
set_option linter.unusedVariables false
set_option linter.unusedSimpArgs false
namespace Go.X
open Go
structure Ms where
  key : List UInt8
  frm : Int
  to : Int
  call : Int
  tag : Int
  val : Int
  size : Int
  taken : Bool
  deriving DecidableEq
def strV (k : List UInt8) : Value := .string ⟨k.toArray⟩
def Ms.enc (m : Ms) : List Value := [strV m.key, .int .i64 m.frm, .int .i64 m.to, .int .i64 m.call, .int .i64 m.tag, .int .i64 m.val, .int .i64 m.size, .bool m.taken]
def zMs : Ms := ⟨[], 0, 0, 0, 0, 0, 0, false⟩
theorem Ms.enc_len (m : Ms) : m.enc.length = 8 := rfl
theorem Ms.enc_one (m : Ms) : m.enc.toArray.all (·.oneCell') = true := by simp [Ms.enc, Value.oneCell', strV]
theorem Ms.enc_mem (l : List Ms) : ∀ u ∈ l.flatMap Ms.enc, u.oneCell' = true := by
  intro u hu
  obtain ⟨m, _, hm⟩ := List.mem_flatMap.1 hu
  have := Ms.enc_one m
  rw [List.all_toArray, List.all_eq_true] at this
  exact this u hm
abbrev Ch := List UInt8 × Int × Int
def Ms.ch (m : Ms) : Ch := (m.key, m.frm, m.to)
def encSt (k : Int × Int) : Value := .agg #[.int .i64 k.1, .int .i64 k.2]
def encC (k : Ch) : Value := .agg #[strV k.1, .int .i64 k.2.1, .int .i64 k.2.2]
def rowOf (l : List Ms) (c : Ch) : List Ms := l.filter fun m => decide (m.ch = c)
def Ms.isAt (f c : Int) (m : Ms) : Bool := decide (m.frm = f) && decide (m.call = c)
def sb (v : Value) (b : Nat) : Prop := v.ownBlock = some b
end Go.X
namespace Go.Proofs.Ytmnkedgmpbcicaa.Que
open Go Go.X Go.RowKit
abbrev tMs : TypeId := 39
abbrev tMsS : TypeId := 31
theorem vMsS : Try.prog.underlying tMsS = some (.slice tMs) := by kernel_rfl
theorem vI : Try.prog.underlying 3 = some (.int .i64) := by kernel_rfl
theorem vB : Try.prog.underlying 4 = some .bool := by kernel_rfl
theorem vS : Try.prog.underlying 9 = some .string := by kernel_rfl
theorem cMs : Try.prog.cellsOf tMs = 7 + 1 := by kernel_rfl
theorem iMs : (Try.prog.info? tMs).map (·.size) = some 8 := by kernel_rfl
theorem eMsS : elemOk Try.prog tMsS tMs 8 72 = true := by kernel_rfl
theorem zMs_z : (Try.prog.info? tMs).bind (·.zero) = some (.agg zMs.enc.toArray) := by kernel_rfl
theorem zMs_b : Try.prog.built tMs [] = some zMs.enc.toArray := by kernel_rfl
theorem is3 (w : World) : (isAgg 3).run Try.prog w = .ok false w := by unfold isAgg; rw [Sem.run_bind, run_underlying Try.underlying3 w]; rfl
theorem is9 (w : World) : (isAgg 9).run Try.prog w = .ok false w := by unfold isAgg; rw [Sem.run_bind, run_underlying Try.underlying9 w]; rfl
theorem fS : (Try.prog.fieldsOf 94) = #[{ name := "from", type := 3, offset := 0, embedded := false, tag := "", pkgPath := "dispatcher/queue", byteOffset := 0 }, { name := "call", type := 3, offset := 1, embedded := false, tag := "", pkgPath := "dispatcher/queue", byteOffset := 8 }] := by simp [Program.fieldsOf, Try.underlying94]
theorem fC : (Try.prog.fieldsOf 91) = #[{ name := "key", type := 9, offset := 0, embedded := false, tag := "", pkgPath := "dispatcher/queue", byteOffset := 0 }, { name := "from", type := 3, offset := 1, embedded := false, tag := "", pkgPath := "dispatcher/queue", byteOffset := 16 }, { name := "to", type := 3, offset := 2, embedded := false, tag := "", pkgPath := "dispatcher/queue", byteOffset := 24 }] := by simp [Program.fieldsOf, Try.underlying91]
theorem eqS (a b c d : Int) (w : World) : (Op.equal 94 (.agg #[.int .i64 a, .int .i64 b]) (.agg #[.int .i64 c, .int .i64 d])).run Try.prog w = .ok (a == c && b == d) w := by
  show (Op.equalIn (9999 + 1) 94 _ _).run Try.prog w = _
  rw [run_equalIn_struct w 9999 94 _ _ (by rw [fS]; exact Try.underlying94) (by kernel_rfl), fS]
  simp [Op.eqFields, part, is3, Sem.run_bind, run_equalIn_int w 9998 3 .i64 .i64 _ _ Try.underlying3]
  by_cases h : a = c <;> by_cases h2 : b = d <;> simp [h, h2]
theorem eqC (a a' : ByteArray) (b c b' c' : Int) (w : World) : (Op.equal 91 (.agg #[.string a, .int .i64 b, .int .i64 c]) (.agg #[.string a', .int .i64 b', .int .i64 c'])).run Try.prog w = .ok (a.toList == a'.toList && (b == b' && c == c')) w := by
  show (Op.equalIn (9999 + 1) 91 _ _).run Try.prog w = _
  rw [run_equalIn_struct w 9999 91 _ _ (by rw [fC]; exact Try.underlying91) (by kernel_rfl), fC]
  simp [Op.eqFields, part, is3, is9, Sem.run_bind, run_equalIn_int w 9998 3 .i64 .i64 _ _ Try.underlying3, run_equalIn_string w 9998 9 _ _ Try.underlying9]
  by_cases h : a.toList = a'.toList <;> by_cases h2 : b = b' <;> by_cases h3 : c = c' <;> simp [h, h2, h3]
theorem chkS (e : Bool) (n : Nat) (a b : Int) (w : World) : (Instr.checkKey e (n + 1 + 1) 94 (.agg #[.int .i64 a, .int .i64 b])).run Try.prog w = .ok () w := by
  simp [Instr.checkKey, Sem.run_bind, run_underlying Try.underlying94, run_underlying Try.underlying3, part, is3]
theorem chkC (e : Bool) (n : Nat) (s : ByteArray) (a b : Int) (w : World) : (Instr.checkKey e (n + 1 + 1) 91 (.agg #[.string s, .int .i64 a, .int .i64 b])).run Try.prog w = .ok () w := by
  simp [Instr.checkKey, Sem.run_bind, run_underlying Try.underlying91, run_underlying Try.underlying3, run_underlying Try.underlying9, part, is3, is9]
theorem KS : KeyT Try.prog 94 encSt where
  find := find_asking (fun k e d hd => by rw [Try.underlying94] at hd; cases hd; rfl) ⟨_, Try.underlying94⟩ (fun a b w => by
    unfold encSt
    rw [eqS]
    congr 1
    obtain ⟨a1, a2⟩ := a; obtain ⟨b1, b2⟩ := b
    by_cases h : a1 = b1 <;> by_cases h2 : a2 = b2 <;> simp [h, h2])
  check := fun e k w => chkS e 9998 _ _ w
  bits := fun k => by
    show Instr.sameBits (9998 + 1 + 1) _ _ = true
    simp [encSt, Instr.sameBits]
  inj := fun a b h => by
    obtain ⟨a1, a2⟩ := a; obtain ⟨b1, b2⟩ := b
    simp [encSt] at h
    simp [h.1, h.2]
theorem KC : KeyT Try.prog 91 encC where
  find := find_asking (fun k e d hd => by rw [Try.underlying91] at hd; cases hd; rfl) ⟨_, Try.underlying91⟩ (fun a b w => by
    unfold encC strV
    rw [eqC]
    congr 1
    obtain ⟨a1, a2, a3⟩ := a; obtain ⟨b1, b2, b3⟩ := b
    have e1 : ∀ l : List UInt8, (⟨l.toArray⟩ : ByteArray).toList = l := fun l => by simp
    by_cases h : a1 = b1 <;> by_cases h2 : a2 = b2 <;> by_cases h3 : a3 = b3 <;> simp [h, h2, h3, e1])
  check := fun e k w => chkC e 9998 _ _ _ w
  bits := fun k => by
    show Instr.sameBits (9998 + 1 + 1) _ _ = true
    simp [encC, strV, Instr.sameBits]
    show ((k.1.toArray : Array UInt8) == k.1.toArray) = true
    simp
  inj := fun a b h => by
    obtain ⟨a1, a2, a3⟩ := a; obtain ⟨b1, b2, b3⟩ := b
    simp [encC, strV] at h
    simp [h]
theorem uR : Try.prog.underlying 86 = some (.map 91 tMsS) := by kernel_rfl
theorem uA : Try.prog.underlying 87 = some (.map 94 91) := by kernel_rfl
theorem uQ : Try.prog.underlying 27 = some (.pointer 89) := by kernel_rfl
theorem zR_z : (Try.prog.info? tMsS).bind (·.zero) = some (.slice none 0 0) := by kernel_rfl
theorem zC_z : (Try.prog.info? 91).bind (·.zero) = some (encC ([], 0, 0)) := by kernel_rfl
end Go.Proofs.Ytmnkedgmpbcicaa.Que
namespace Go.X
open Go Go.RowKit
structure QV where
  rb : Nat
  ab : Nat
  er : List (Ent Ch)
  ea : List (Ent (Int × Int))
  c1 : Nat
  c2 : Nat
def QV.F (V : QV) (p b : Nat) : Prop := b = p ∨ b = V.rb ∨ b = V.ab ∨ ∃ e ∈ V.er, sb e.v b
structure QInv (l : List Ms) (V : QV) : Prop where
  rk : ∀ (i j : Nat) (a b : Ent Ch), V.er[i]? = some a → V.er[j]? = some b → a.k = b.k → i = j
  rb : ∀ (i j : Nat) (a b : Ent Ch), V.er[i]? = some a → V.er[j]? = some b → a.b = b.b → i = j
  rc : ∀ e ∈ V.er, e.b < V.c1
  cov : ∀ m ∈ l, ∃ e ∈ V.er, e.k = m.ch
  dist : ∀ (i j : Nat) (a b : Ent Ch), V.er[i]? = some a → V.er[j]? = some b → i ≠ j → ∀ g, sb a.v g → ¬ sb b.v g
  at_ : ∀ k : Int × Int, (findE k V.ea 0).map (·.2) = (l.find? (Ms.isAt k.1 k.2)).map fun m => encC m.ch
  uniq : l.Pairwise fun a b => ¬ (a.frm = b.frm ∧ a.call = b.call)
  ak : ∀ (i j : Nat) (a b : Ent (Int × Int)), V.ea[i]? = some a → V.ea[j]? = some b → a.k = b.k → i = j
  abn : ∀ (i j : Nat) (a b : Ent (Int × Int)), V.ea[i]? = some a → V.ea[j]? = some b → a.b = b.b → i = j
  ac : ∀ e ∈ V.ea, e.b < V.c2
structure QAt (w : World) (p : Nat) (l : List Ms) (V : QV) : Prop where
  blk : w.heap[p]? = some (.cells #[.map (some V.rb), .map (some V.ab)] 89 (0, 0))
  rm : IsMap encC w V.rb V.er V.c1
  am : IsMap encSt w V.ab V.ea V.c2
  rows : ∀ e ∈ V.er, w.ownsRow 0 39 8 e.v (rowOf l e.k).length ((rowOf l e.k).flatMap Ms.enc)
  ne : V.rb ≠ V.ab
  inv : QInv l V
structure QFr (p : Nat) (w : World) (V : QV) (w' : World) (V' : QV) : Prop where
  mod : Mod (V.F p) w w'
  f : ∀ b, V'.F p b → V.F p b ∨ w.heap.size ≤ b
theorem QFr.refl (p : Nat) (w : World) (V : QV) : QFr p w V w V := ⟨Mod.refl _ _, fun _ h => .inl h⟩
theorem QFr.trans {p : Nat} {w w1 w2 : World} {V V1 V2 : QV} (h : QFr p w V w1 V1) (k : QFr p w1 V1 w2 V2) : QFr p w V w2 V2 := by
  have hs := h.mod.size
  refine ⟨h.mod.then k.mod fun i hi q => ?_, fun b q => ?_⟩
  · rcases h.f i q with z | z
    · exact z
    · omega
  · rcases k.f b q with z | z
    · exact h.f b z
    · exact .inr (by omega)
theorem QFr.calm {p : Nat} {w w' : World} {V : QV} (h : Mod none_ w w') : QFr p w V w' V := ⟨h.mono fun _ _ q => q.elim, fun _ q => .inl q⟩
theorem QAt.mod {w w' : World} {p : Nat} {l : List Ms} {V : QV} {S : Nat → Prop} (h : QAt w p l V) (hm : Mod S w w') (hS : ∀ b, V.F p b → ¬ S b) : QAt w' p l V :=
  ⟨hm.blk h.blk (hS _ (.inl rfl)), h.rm.mod hm (hS _ (.inr (.inl rfl))), h.am.mod hm (hS _ (.inr (.inr (.inl rfl)))), fun e he => owns_mod (h.rows e he) hm fun k q => hS k (.inr (.inr (.inr ⟨e, he, q⟩))), h.ne, h.inv⟩
theorem QAt.calm {w w' : World} {p : Nat} {l : List Ms} {V : QV} (h : QAt w p l V) (hm : Mod none_ w w') : QAt w' p l V := h.mod hm fun _ _ q => q
theorem QAt.old {w : World} {p : Nat} {l : List Ms} {V : QV} (h : QAt w p l V) : ∀ b, V.F p b → b < w.heap.size := by
  intro b hb
  rcases hb with rfl | rfl | rfl | ⟨e, he, hb⟩
  · exact X.blk_lt h.blk
  · exact X.blk_lt h.rm
  · exact X.blk_lt h.am
  · obtain ⟨c, hc⟩ := owns_blk (h.rows e he) hb
    exact X.blk_lt hc
theorem QAt.row_ne {w : World} {p : Nat} {l : List Ms} {V : QV} (h : QAt w p l V) {e : Ent Ch} (he : e ∈ V.er) {b : Nat} (hb : sb e.v b) : b ≠ p ∧ b ≠ V.rb ∧ b ≠ V.ab := by
  obtain ⟨c, hc⟩ := owns_blk (h.rows e he) hb
  refine ⟨fun q => ?_, fun q => ?_, fun q => ?_⟩
  · subst q; have := h.blk; rw [hc] at this; cases this
  · subst q; have := h.rm; unfold IsMap at this; rw [hc] at this; cases this
  · subst q; have := h.am; unfold IsMap at this; rw [hc] at this; cases this
theorem QAt.p_ne {w : World} {p : Nat} {l : List Ms} {V : QV} (h : QAt w p l V) : p ≠ V.rb ∧ p ≠ V.ab := by
  refine ⟨fun q => ?_, fun q => ?_⟩
  · have := h.rm; unfold IsMap at this; rw [← q, h.blk] at this; cases this
  · have := h.am; unfold IsMap at this; rw [← q, h.blk] at this; cases this
end Go.X
set_option linter.unusedVariables false
set_option linter.unusedSimpArgs false
set_option maxRecDepth 4000
namespace Go.X
open Go Go.RowKit
theorem findE_none {κ : Type} [DecidableEq κ] {k : κ} : ∀ {l : List (Ent κ)} {n : Nat}, findE k l n = none ↔ ∀ e ∈ l, e.k ≠ k
  | [], n => by simp [findE]
  | e :: r, n => by
    unfold findE
    by_cases h : k = e.k
    · simp [h]
    · simp only [h, if_false, findE_none (l := r) (n := n + 1), List.mem_cons]
      refine ⟨fun q x hx => ?_, fun q x hx => q x (.inr hx)⟩
      rcases hx with rfl | hx
      · exact fun z => h z.symm
      · exact q x hx
theorem findE_ex {κ : Type} [DecidableEq κ] {k : κ} {l : List (Ent κ)} (h : ∃ e ∈ l, e.k = k) : ∃ i e, findE k l 0 = some (i, e.v) ∧ l[i]? = some e ∧ e.k = k ∧ e ∈ l := by
  cases hf : findE k l 0 with
  | none =>
    obtain ⟨e, he, hk⟩ := h
    exact absurd hk (findE_none.1 hf e he)
  | some p =>
    obtain ⟨i, u⟩ := p
    obtain ⟨e, he, hk, hv⟩ := findE_at hf
    exact ⟨i, e, by rw [hv], he, hk, List.mem_of_getElem? he⟩
theorem uniq_mem {l : List Ms} (h : l.Pairwise fun a b => ¬ (a.frm = b.frm ∧ a.call = b.call)) {a b : Ms} (ha : a ∈ l) (hb : b ∈ l) (hf : a.frm = b.frm) (hc : a.call = b.call) : a = b := by
  obtain ⟨i, hi, rfl⟩ := List.mem_iff_getElem.1 ha
  obtain ⟨j, hj, rfl⟩ := List.mem_iff_getElem.1 hb
  rcases Nat.lt_trichotomy i j with q | q | q
  · exact absurd ⟨hf, hc⟩ (List.pairwise_iff_getElem.1 h i j hi hj q)
  · subst q; rfl
  · exact absurd ⟨hf.symm, hc.symm⟩ (List.pairwise_iff_getElem.1 h j i hj hi q)
theorem isAt_iff {f c : Int} {m : Ms} : m.isAt f c = true ↔ m.frm = f ∧ m.call = c := by simp [Ms.isAt]
theorem mem_row {l : List Ms} {c : Ch} {m : Ms} : m ∈ rowOf l c ↔ m ∈ l ∧ m.ch = c := by simp [rowOf]
theorem row_len (l : List Ms) (c : Ch) : (rowOf l c).length ≤ l.length := List.length_filter_le _ _
theorem row_at {l : List Ms} (hu : l.Pairwise fun a b => ¬ (a.frm = b.frm ∧ a.call = b.call)) {m : Ms} {f c : Int} (hm : l.find? (Ms.isAt f c) = some m) : ∃ j, (rowOf l m.ch)[j]? = some m ∧ (rowOf l m.ch).findIdx? (fun x => decide (x.call = c)) = some j := by
  have hp := List.find?_some hm
  have hmem := List.mem_of_find?_eq_some hm
  obtain ⟨hf, hc⟩ := isAt_iff.1 hp
  have hr : m ∈ rowOf l m.ch := mem_row.2 ⟨hmem, rfl⟩
  cases hfi : (rowOf l m.ch).findIdx? (fun x => decide (x.call = c)) with
  | none =>
    rw [List.findIdx?_eq_none_iff] at hfi
    have := hfi m hr
    simp [hc] at this
  | some j =>
    refine ⟨j, ?_, rfl⟩
    rw [List.findIdx?_eq_some_iff_getElem] at hfi
    obtain ⟨hj, hpj, _⟩ := hfi
    rw [List.getElem?_eq_getElem hj]
    congr 1
    have hx := mem_row.1 (List.getElem_mem hj)
    have e1 : ((rowOf l m.ch)[j]).frm = m.frm := by have := hx.2; unfold Ms.ch at this; simp only [Prod.mk.injEq] at this; exact this.2.1
    exact uniq_mem hu hx.1 hmem e1 (by simpa [hc] using hpj)
end Go.X
namespace Go.Proofs.Ytmnkedgmpbcicaa.Que
open Go Go.X Go.RowKit Go.Proofs.Ytmnkedgmpbcicaa.XF Go.Proofs.Ytmnkedgmpbcicaa.XK
def MsRow (w : World) (s : Value) (l : List Ms) : Prop := reads w (7 + 1) s l.length (l.flatMap Ms.enc)
theorem MsRow.mod {S : Nat → Prop} {w w' : World} {s : Value} {l : List Ms} (h : MsRow w s l) (hm : Mod S w w') (hS : ∀ k, sb s k → ¬ S k) : MsRow w' s l := reads_mod h hm fun k _ q => hS k q
theorem MsRow.calm {w w' : World} {s : Value} {l : List Ms} (h : MsRow w s l) (hm : Mod none_ w w') : MsRow w' s l := h.mod hm fun _ _ => id
theorem ixMs {w : World} {s : Value} {l : List Ms} {i : Nat} {n : Int} {e : Ms} {K : Value → Value → World → Prop} (h : MsRow w s l) (hi : l[i]? = some e) (hn : n = (i : Int)) (hk : ∀ x, K x (.agg e.enc.toArray) w) :
    VK Try.prog (Instr.indexAt tMsS s (.int .i64 n)) w fun x w => VK Try.prog (Instr.loadAt tMs x) w (K x) := by
  subst hn
  have hlt : i < l.length := (List.getElem?_eq_some_iff.1 hi).1
  refine ixldA vMsS cMs Try.underlying39 rfl h (by omega) (by omega) fun x => ?_
  rw [show ((i : Int).toNat) = i by omega, fl_drop (k := 7 + 1) Ms.enc_len hi]
  exact hk x
theorem ixMsA {w : World} {s : Value} {l : List Ms} {i : Nat} {n : Int} {e : Ms} {K : Value → World → Prop} (h : MsRow w s l) (hi : l[i]? = some e) (hn : n = (i : Int)) (hk : ∀ a, (∀ j u, e.enc[j]? = some u → w.cell? (a.add j) = some u) → K (.pointer (some a)) w) :
    VK Try.prog (Instr.indexAt tMsS s (.int .i64 n)) w K := by
  subst hn
  have hlt : i < l.length := (List.getElem?_eq_some_iff.1 hi).1
  refine ixat vMsS cMs h (by omega) (by omega) fun a ha _ => hk a fun j u hu => ?_
  have hj : j < 7 + 1 := (List.getElem?_eq_some_iff.1 hu).1
  refine ha j u hj ?_
  rw [show ((i : Int).toNat) = i by omega, fl_get (k := 7 + 1) Ms.enc_len hi hj]
  exact hu
def idxV (p : Ms → Bool) (l : List Ms) : Int := match l.findIdx? p with | some j => j | none => -1
theorem IndexFuncMs_ok {w : World} {s : Value} {l : List Ms} {p : Ms → Bool} {fv : Value} (h : MsRow w s l) (hlen : l.length ≤ 1099511627776)
    (hf : ∀ a ∈ l, ∀ w', Mod none_ w w' → ∀ K : Value → World → Prop, (∀ w'', Mod none_ w' w'' → K (.bool (p a)) w'') → CK Try.prog fv [.agg a.enc.toArray] w' K) :
    Rt Try.prog 68 #[s, fv] w fun v w' => v = .int .i64 (idxV p l) ∧ Mod none_ w w' := by
  obtain ⟨A, c, hs, _⟩ := reads_cap h
  refine slices_IndexFunc_queue_Message_queue_Message_calls ?_
  unfold slices_IndexFunc_queue_Message_queue_Message_F
  rw [hs, len_sl vMsS]
  refine W_loop slices_IndexFunc_queue_Message_queue_Message_L0_ok (fun ρ w' => ∃ n : Nat, n ≤ l.length ∧ ρ 8 = .int .i64 n ∧ ρ 7 = .int .i64 l.length ∧ ρ 0 = .slice A l.length c ∧ ρ 1 = fv ∧ (∀ a ∈ l.take n, p a = false) ∧ Mod none_ w w') (fun ρ _ => l.length - (intOf (ρ 8)).toNat)
    ⟨0, Nat.zero_le _, rfl, rfl, rfl, rfl, by simp, Mod.refl _ _⟩ ?_
  rintro ρ w1 ⟨n, hn, h8, h7, h0, h1, hno, hm⟩
  rw [slices_IndexFunc_queue_Message_queue_Message_L0_eq]
  unfold slices_IndexFunc_queue_Message_queue_Message_L0_F
  rw [h8, h7, h0, h1, BK_lss]
  by_cases hlt : n < l.length
  · rw [decide_eq_true (by omega)]
    refine condT ?_
    have hx : l[n]? = some l[n] := List.getElem?_eq_getElem hlt
    have hmem : l[n] ∈ l := List.getElem_mem hlt
    have h2 := h.calm hm
    rw [hs] at h2
    refine ixMs h2 hx rfl fun y => ?_
    refine hf _ hmem w1 hm _ fun w2 hm2 => ?_
    refine caseC (fun hp => ?_) (fun hp => ?_)
    · refine ⟨?_, hm.trans hm2⟩
      unfold idxV
      rw [show l.findIdx? p = some n from List.findIdx?_eq_some_iff_getElem.2 ⟨hlt, hp, fun j hj => by
        have := hno l[j] (List.mem_take_iff_getElem.2 ⟨j, by omega, rfl⟩)
        simp [this]⟩]
      rfl
    · rw [BK_add, wrap_i (by omega) (by omega)]
      refine ⟨⟨n + 1, hlt, rfl, h7, h0, h1, ?_, hm.trans hm2⟩, ?_⟩
      · rw [List.take_add_one, hx, Option.toList_some]
        intro a q
        rcases List.mem_append.1 q with q | q
        · exact hno a q
        · rw [List.mem_singleton.1 q]; exact hp
      · simp only [sq_n, sq_x, sq_r, bk_n, bk_r, bk_x, rt_r, rt_n, rs_0, rs_t, pk_1, pk_2, up_at, reduceIte, Nat.reduceEqDiff, intOf]; omega
  · obtain rfl : n = l.length := by omega
    rw [decide_eq_false (by omega)]
    refine condF ?_
    rw [sq_x, bk_x, sq_n, slices_IndexFunc_queue_Message_queue_Message_R1_eq]
    unfold slices_IndexFunc_queue_Message_queue_Message_R1_F
    refine ⟨?_, hm⟩
    rw [List.take_length] at hno
    unfold idxV
    rw [List.findIdx?_eq_none_iff.2 hno]
    rfl
theorem ContainsFuncMs_ok {w : World} {s : Value} {l : List Ms} {p : Ms → Bool} {fv : Value} (h : MsRow w s l) (hlen : l.length ≤ 1099511627776)
    (hf : ∀ a ∈ l, ∀ w', Mod none_ w w' → ∀ K : Value → World → Prop, (∀ w'', Mod none_ w' w'' → K (.bool (p a)) w'') → CK Try.prog fv [.agg a.enc.toArray] w' K) :
    Rt Try.prog 44 #[s, fv] w fun v w' => v = .bool (l.any p) ∧ Mod none_ w w' := by
  refine slices_ContainsFunc_queue_Message_queue_Message_calls ?_
  unfold slices_ContainsFunc_queue_Message_queue_Message_F
  refine CK_st Try.func68 rfl rfl (IndexFuncMs_ok h hlen hf) ?_
  rintro _ w1 ⟨rfl, hm⟩
  rw [BK_geq]
  refine ⟨?_, hm⟩
  congr 1
  unfold idxV
  cases hq : l.findIdx? p with
  | none =>
    rw [List.findIdx?_eq_none_iff] at hq
    rw [show l.any p = false by simpa using hq]
    rfl
  | some j =>
    rw [List.findIdx?_eq_some_iff_getElem] at hq
    obtain ⟨hj, hp, _⟩ := hq
    rw [show l.any p = true from List.any_eq_true.2 ⟨l[j], List.getElem_mem hj, hp⟩]
    simp
section
variable {w : World} {p : Nat} {l : List Ms} {V : QV}
theorem map_ne (x y : Operand) {w : World} {K : Value → World → Prop} (b : Nat) : BK Try.prog .eql 86 x y (.map (some b)) (.map none) w K = K (.bool false) w := BK_of (by kernel_rfl) (by kernel_rfl)
theorem f_rows (h : QAt w p l V) : FO Try.prog w 89 0 0 ⟨p, 0, none⟩ 86 (.map (some V.rb)) := FO.blk h.blk (by kernel_rfl) uR rfl rfl
theorem f_at (h : QAt w p l V) : FO Try.prog w 89 1 1 ⟨p, 0, none⟩ 87 (.map (some V.ab)) := FO.blk h.blk (by kernel_rfl) uA rfl rfl
theorem none_ok (h : QAt w p l V) : Rt Try.prog 49 #[.pointer (some ⟨p, 0, none⟩)] w fun v w' => v = .bool false ∧ w' = w := by
  refine queue_Queue_none_calls ?_
  unfold queue_Queue_none_F
  rw [BK_eqlP uQ]
  simp only [Option.isNone_some, ↓VG_u, ↓UG_u, ↓MG_u, ↓NG_u, ↓PG_u, ↓BG_u, ↓CG_u, ↓IG_u, ↓VGtt, ↓VGtf, ↓VGft, ↓VGff, ↓UGtt, ↓UGtf, ↓UGft, ↓UGff, ↓MGtt, ↓MGtf, ↓MGft, ↓MGff, ↓NGtt, ↓NGtf, ↓NGft, ↓NGff, ↓PGtt, ↓PGtf, ↓PGft, ↓PGff, ↓BGtt, ↓BGtf, ↓BGft, ↓BGff, ↓CGtt, ↓CGtf, ↓CGft, ↓CGff, ↓IGtt, ↓IGtf, ↓IGft, ↓IGff, ↓PKt, ↓PKf, ↓CDt, ↓CDf, ↓NOTt, ↓NOTf, ↓NK_ptr]
  rw [(f_rows h).e]
  try simp only [↓VG_u, ↓UG_u, ↓MG_u, ↓NG_u, ↓PG_u, ↓BG_u, ↓CG_u, ↓IG_u, ↓VGtt, ↓VGtf, ↓VGft, ↓VGff, ↓UGtt, ↓UGtf, ↓UGft, ↓UGff, ↓MGtt, ↓MGtf, ↓MGft, ↓MGff, ↓NGtt, ↓NGtf, ↓NGft, ↓NGff, ↓PGtt, ↓PGtf, ↓PGft, ↓PGff, ↓BGtt, ↓BGtf, ↓BGft, ↓BGff, ↓CGtt, ↓CGtf, ↓CGft, ↓CGff, ↓IGtt, ↓IGtf, ↓IGft, ↓IGff, ↓PKt, ↓PKf, ↓CDt, ↓CDf, ↓NOTt, ↓NOTf, ↓NK_ptr]
  rw [map_ne]
  simp only [↓VG_u, ↓UG_u, ↓MG_u, ↓NG_u, ↓PG_u, ↓BG_u, ↓CG_u, ↓IG_u, ↓VGtt, ↓VGtf, ↓VGft, ↓VGff, ↓UGtt, ↓UGtf, ↓UGft, ↓UGff, ↓MGtt, ↓MGtf, ↓MGft, ↓MGff, ↓NGtt, ↓NGtf, ↓NGft, ↓NGff, ↓PGtt, ↓PGtf, ↓PGft, ↓PGff, ↓BGtt, ↓BGtf, ↓BGft, ↓BGff, ↓CGtt, ↓CGtf, ↓CGft, ↓CGff, ↓IGtt, ↓IGtf, ↓IGft, ↓IGff, ↓PKt, ↓PKf, ↓CDt, ↓CDf, ↓NOTt, ↓NOTf, ↓NK_ptr]
  exact ⟨by trivial, by trivial⟩
abbrev FindP (l : List Ms) (V : QV) (f c : Int) (v : Value) : Prop := match l.find? (Ms.isAt f c) with
  | none => v = .tuple #[.slice none 0 0, .int .i64 (-1)]
  | some m => ∃ e ∈ V.er, e.k = m.ch ∧ ∃ j : Nat, (rowOf l m.ch)[j]? = some m ∧ v = .tuple #[e.v, .int .i64 (j : Int)]
theorem find1_ok {w : World} {cb : Nat} {c : Int} (hb : w.heap[cb]? = some (.cells #[.int .i64 c] 3 (0, 0))) (m : Ms) : Rt Try.prog 80 #[.agg m.enc.toArray, .pointer (some ⟨cb, 0, none⟩)] w fun v w' => v = .bool (decide (m.call = c)) ∧ Mod none_ w w' := by
  refine queue_Queue_find_1_calls ?_
  unfold queue_Queue_find_1_F
  refine box_k (cs := m.enc.toArray) rfl fun w1 hb1 hm1 hz1 => ?_
  have g : FO Try.prog w1 tMs 3 3 ⟨w.heap.size, 0, none⟩ 3 (.int .i64 m.call) := FO.blk hb1 (by kernel_rfl) vI rfl rfl
  rw [g.e]
  refine ldOne rfl vI rfl (hm1.blk hb id) ?_
  rw [BK_eql]
  refine ⟨?_, hm1⟩
  by_cases q : m.call = c <;> simp [q]
theorem find_ok (h : QAt w p l V) (hL : l.length ≤ 1000000) (f c : Int) : Rt Try.prog 69 #[.pointer (some ⟨p, 0, none⟩), .int .i64 f, .int .i64 c] w fun v w' => FindP l V f c v ∧ Mod none_ w w' := by
  refine queue_Queue_find_calls ?_
  unfold queue_Queue_find_F
  refine box_k (cs := #[.int .i64 c]) rfl fun w1 hb1 hm1 hz1 => ?_
  have h1 := h.calm hm1
  refine CK_st Try.func49 rfl rfl (none_ok h1) ?_
  rintro _ w2 ⟨rfl, rfl⟩
  refine condF ?_
  refine queue_Queue_find_R0_held (D := []) (fun w' => Mod none_ w2 w') ((Mod.refl _ w2).drawn _) ?_
  have hd : Mod none_ w2 { w2 with drawn := w2.drawn + 1 } := (Mod.refl _ w2).drawn _
  have hdz : ({ w2 with drawn := w2.drawn + 1 } : World).heap.size = w2.heap.size := rfl
  generalize ({ w2 with drawn := w2.drawn + 1 } : World) = wd at *
  unfold queue_Queue_find_R0_H
  simp only [sq_n, sq_x, sq_r, bk_n, bk_r, bk_x, rt_r, rt_n, rs_0, rs_t, pk_1, pk_2, up_at, reduceIte, Nat.reduceEqDiff]
  refine HN_ptr (HV_of (v := .pointer (some ⟨p, 1, none⟩)) (fun w' _ => by rw [run_fo (off := 1) (by kernel_rfl), add_pl]) ?_)
  refine HV_of (v := .map (some V.ab)) (fun w' hw => run_ld1 uA rfl (by rw [cell_blk (h1.calm hw).blk]; rfl)) ?_
  refine HV_of (v := .int .i64 c) (fun w' hw => run_ld1 vI rfl (by rw [cell_blk (hw.blk hb1 id)]; rfl)) ?_
  refine HV_of (v := encSt (f, c)) (fun w' _ => run_build (P := Try.prog) w' _ _ _ (by kernel_rfl)) ?_
  have hlk : ∀ w', Mod none_ w2 w' → _ := fun w' hw => run_look KS uA (h1.calm hw).am zC_z (f, c) true
  have key : ∀ ρ : Sl, ∀ b : Nat, ∀ w3 : World, ρ 0 = .pointer (some ⟨p, 0, none⟩) → ρ 5 = .pointer (some ⟨w.heap.size, 0, none⟩) → ρ 8 = .pointer (some ⟨b, 0, none⟩) → Mod none_ w2 w3 → (∀ m, l.find? (Ms.isAt f c) = some m → ρ 9 = .bool true ∧ w3.heap[b]? = some (.cells #[strV m.key, .int .i64 m.frm, .int .i64 m.to] 91 (0, 0))) → (l.find? (Ms.isAt f c) = none → ρ 9 = .bool false) →
      sx fn_ Try.prog 36 queue_Queue_find_R1 (retK Try.prog [ResultVar.tmp 6, ResultVar.tmp 7] fun v w' => FindP l V f c v ∧ Mod none_ w w') ρ w3 := by
    intro ρ b w3 e0 e5 e8 hm3 hsome hnone
    rw [queue_Queue_find_R1_eq]; unfold queue_Queue_find_R1_F
    cases hq : l.find? (Ms.isAt f c) with
    | none =>
      rw [hnone hq]
      simp only [↓VG_u, ↓UG_u, ↓MG_u, ↓NG_u, ↓PG_u, ↓BG_u, ↓CG_u, ↓IG_u, ↓VGtt, ↓VGtf, ↓VGft, ↓VGff, ↓UGtt, ↓UGtf, ↓UGft, ↓UGff, ↓MGtt, ↓MGtf, ↓MGft, ↓MGff, ↓NGtt, ↓NGtf, ↓NGft, ↓NGff, ↓PGtt, ↓PGtf, ↓PGft, ↓PGff, ↓BGtt, ↓BGtf, ↓BGft, ↓BGff, ↓CGtt, ↓CGtf, ↓CGft, ↓CGff, ↓IGtt, ↓IGtf, ↓IGft, ↓IGff, ↓PKt, ↓PKf, ↓CDt, ↓CDf, ↓NOTt, ↓NOTf, ↓NK_ptr]
      refine ⟨?_, hm1.trans hm3⟩
      unfold FindP; rw [hq]; rfl
    | some m =>
      obtain ⟨e9, hbb⟩ := hsome m hq
      rw [e9]
      simp only [↓VG_u, ↓UG_u, ↓MG_u, ↓NG_u, ↓PG_u, ↓BG_u, ↓CG_u, ↓IG_u, ↓VGtt, ↓VGtf, ↓VGft, ↓VGff, ↓UGtt, ↓UGtf, ↓UGft, ↓UGff, ↓MGtt, ↓MGtf, ↓MGft, ↓MGff, ↓NGtt, ↓NGtf, ↓NGft, ↓NGff, ↓PGtt, ↓PGtf, ↓PGft, ↓PGff, ↓BGtt, ↓BGtf, ↓BGft, ↓BGff, ↓CGtt, ↓CGtf, ↓CGft, ↓CGff, ↓IGtt, ↓IGtf, ↓IGft, ↓IGff, ↓PKt, ↓PKf, ↓CDt, ↓CDf, ↓NOTt, ↓NOTf, ↓NK_ptr]
      refine queue_Queue_find_R2_quiet (D := []) (fun w' => Mod none_ w3 w') ((Mod.refl _ _).drawn _) ?_
      unfold queue_Queue_find_R2_Q
      simp only [sq_n, sq_x, sq_r, bk_n, bk_r, bk_x, rt_r, rt_n, rs_0, rs_t, pk_1, pk_2, up_at, reduceIte, Nat.reduceEqDiff, e0, e8]
      have h3 := h1.calm hm3
      obtain ⟨j, hj, hfi⟩ := row_at h.inv.uniq hq
      obtain ⟨i, e, hfe, hei, hek, hem⟩ := findE_ex (h.inv.cov m (List.mem_of_find?_eq_some hq))
      refine QN_ptr (Qfo (off := 0) (by kernel_rfl) (Qld uR rfl (v := .map (some V.rb)) (fun w' hw => by rw [add_pl, cell_blk (h3.calm hw).blk]; rfl) ?_))
      refine QV_of (v := encC m.ch) (fun w' hw => run_ldB Try.underlying91 rfl (by kernel_rfl) (hw.blk hbb id)) ?_
      refine QV_of (v := e.v) (fun w' hw => by
        rw [run_look KC uR (h3.calm hw).rm zR_z m.ch false, hfe]; try rfl) ?_
      intro w4 hm4
      rw [queue_Queue_find_R3_eq]; unfold queue_Queue_find_R3_F
      simp only [sq_n, sq_x, sq_r, bk_n, bk_r, bk_x, rt_r, rt_n, rs_0, rs_t, pk_1, pk_2, up_at, reduceIte, Nat.reduceEqDiff, e5]
      rw [mkFunc]
      have h4 := h3.calm hm4
      have hrow : MsRow w4 e.v (rowOf l m.ch) := by have := reads_of_owns (h4.rows e hem); rw [hek] at this; exact this
      have hlr := row_len l m.ch
      have hm24 := hm3.trans hm4
      refine CK_st Try.func68 rfl rfl (IndexFuncMs_ok (p := fun x => decide (x.call = c)) hrow (by omega) fun a _ w' hw' K hK => ?_) ?_
      · refine CK_fn (f := 80) (first := #[]) (cap := #[.pointer (some ⟨w.heap.size, 0, none⟩)]) (args := [.agg a.enc.toArray]) Try.func80 rfl rfl (find1_ok ((hm24.trans hw').blk hb1 id) a) ?_
        rintro _ w'' ⟨rfl, hm''⟩
        exact hK _ hm''
      rintro _ w5 ⟨rfl, hm5⟩
      refine ⟨?_, (hm1.trans hm24).trans hm5⟩
      unfold FindP; rw [hq]
      refine ⟨e, hem, hek, j, hj, ?_⟩
      unfold idxV; rw [hfi]
  have hat := h.inv.at_ (f, c)
  cases hq : l.find? (Ms.isAt f c) with
  | none =>
    rw [hq] at hat
    have hfe : findE (f, c) V.ea 0 = none := by simpa using hat
    refine HV_of (v := .tuple #[encC ([], 0, 0), .bool false]) (fun w' hw => by rw [hlk w' hw, hfe]; try rfl) ?_
    refine HV_of (v := encC ([], 0, 0)) (fun _ _ => rfl) (HV_of (v := .bool false) (fun _ _ => rfl) ?_)
    refine al_k (cs := #[strV [], .int .i64 0, .int .i64 0]) zC_z rfl _ fun w3 hb3 hm3 hz3 => ⟨hd.trans hm3, ?_⟩
    refine stS (cs := #[strV [], .int .i64 0, .int .i64 0]) (old := #[strV [], .int .i64 0, .int .i64 0]) rfl rfl (by kernel_rfl) rfl (by simp [Value.oneCell', strV]) hb3 fun w4 hb4 hm4 hz4 => ⟨(hd.trans hm3).then hm4 fun i hi q => by omega, ?_⟩
    try rw [sq_n]
    exact key _ wd.heap.size w4 rfl rfl rfl ((hd.trans hm3).then hm4 fun i hi q => by omega) (fun m z => by rw [hq] at z; cases z) (fun _ => rfl)
  | some m =>
    rw [hq] at hat
    obtain ⟨⟨i, u⟩, hfe, hu⟩ : ∃ x, findE (f, c) V.ea 0 = some x ∧ x.2 = encC m.ch := by
      cases hz : findE (f, c) V.ea 0 with
      | none => rw [hz] at hat; cases hat
      | some x => rw [hz] at hat; exact ⟨x, rfl, by simpa using hat⟩
    dsimp only at hu
    subst hu
    refine HV_of (v := .tuple #[encC m.ch, .bool true]) (fun w' hw => by rw [hlk w' hw, hfe]; try rfl) ?_
    refine HV_of (v := encC m.ch) (fun _ _ => rfl) (HV_of (v := .bool true) (fun _ _ => rfl) ?_)
    refine al_k (cs := #[strV [], .int .i64 0, .int .i64 0]) zC_z rfl _ fun w3 hb3 hm3 hz3 => ⟨hd.trans hm3, ?_⟩
    refine stS (cs := #[strV m.key, .int .i64 m.frm, .int .i64 m.to]) (old := #[strV [], .int .i64 0, .int .i64 0]) rfl rfl (by kernel_rfl) rfl (by simp [Value.oneCell', strV]) hb3 fun w4 hb4 hm4 hz4 => ⟨(hd.trans hm3).then hm4 fun i hi q => by omega, ?_⟩
    try rw [sq_n]
    exact key _ wd.heap.size w4 rfl rfl rfl ((hd.trans hm3).then hm4 fun i hi q => by omega) (fun m' z => by rw [hq] at z; cases z; exact ⟨rfl, hb4⟩) (fun z => by rw [hq] at z; cases z)
end
end Go.Proofs.Ytmnkedgmpbcicaa.Que
set_option linter.unusedVariables false
set_option linter.unusedSimpArgs false
set_option maxRecDepth 4000
namespace Go.Proofs.Ytmnkedgmpbcicaa.Que
open Go Go.X Go.RowKit Go.Proofs.Ytmnkedgmpbcicaa.XF Go.Proofs.Ytmnkedgmpbcicaa.XK
theorem rtCT {P : Program} {w : World} {t ty : TypeId} {d : TypeDesc} {b i j : Nat} {cs : Array Value} {R : Value → World → Prop} {ρ : Sl} (hx : ρ i = .pointer (some ⟨b, 0, none⟩)) (hu : P.underlying t = some d) (hd : (match d with | .struct _ | .array _ _ => true | _ => false) = true) (hi : (P.info? t).map (·.size) = some cs.size) (hb : w.heap[b]? = some (.cells cs ty (0, 0))) (hk : R (.tuple #[.agg cs, ρ j]) w) :
    retK P [ResultVar.cell i t, ResultVar.tmp j] R .ret ρ w := by
  show ∃ v, (do loadVar t (← asAddr (ρ i)) : Sem Value).run P w = .ok v w ∧ R (.tuple #[v, ρ j]) w
  rw [hx]
  exact ⟨_, res_ld (run_ldB hu hd hi hb), hk⟩
section
variable {w : World} {p : Nat} {l : List Ms} {V : QV}
def msb (o : Option Ms) : Value := match o with | some m => .tuple #[.agg m.enc.toArray, .bool true] | none => .tuple #[.agg zMs.enc.toArray, .bool false]
theorem look_row (h : QAt w p l V) (c : Ch) : ∃ v, (∀ w', Mod none_ w w' → (Instr.lookup 86 (.map (some V.rb)) (encC c) false).run Try.prog w' = .ok v w') ∧ MsRow w v (rowOf l c) := by
  cases hf : findE c V.er 0 with
  | none =>
    refine ⟨.slice none 0 0, fun w' hw => by rw [run_look KC uR (h.calm hw).rm zR_z c false, hf]; try rfl, ?_⟩
    have : rowOf l c = [] := by
      refine List.filter_eq_nil_iff.2 fun m hm q => ?_
      obtain ⟨e, he, hk⟩ := h.inv.cov m hm
      exact findE_none.1 hf e he (hk.trans (by simpa using q))
    rw [this]; exact reads_nil _ _
  | some x =>
    obtain ⟨i, u⟩ := x
    obtain ⟨e, he, hk, hv⟩ := findE_at hf
    refine ⟨u, fun w' hw => by rw [run_look KC uR (h.calm hw).rm zR_z c false, hf]; try rfl, ?_⟩
    have := reads_of_owns (h.rows e (List.mem_of_getElem? he))
    rw [hk, hv] at this
    exact this
def fits (tag : Int) (m : Ms) : Bool := !m.taken && (decide (tag = -1) || decide (tag = m.tag))
def firstV (l : List Ms) (c : Ch) (tag : Int) : Option Ms := (rowOf l c).find? (fits tag)
theorem First_ok (h : QAt w p l V) (hL : l.length ≤ 1000000) (k : List UInt8) (f t tag : Int) : Rt Try.prog 63 #[.pointer (some ⟨p, 0, none⟩), strV k, .int .i64 f, .int .i64 t, .int .i64 tag] w fun v w' => v = msb (firstV l (k, f, t) tag) ∧ Mod none_ w w' := by
  refine queue_Queue_First_calls ?_
  unfold queue_Queue_First_F
  refine al_k (cs := zMs.enc.toArray) zMs_z rfl _ fun w1 hb1 hm1 hz1 => ?_
  have h1 := h.calm hm1
  refine CK_st Try.func49 rfl rfl (none_ok h1) ?_
  rintro _ w2 ⟨rfl, rfl⟩
  refine condF ?_
  rw [NK_ptr, (f_rows h1).e, build_ok (cs := #[strV k, .int .i64 f, .int .i64 t]) (by kernel_rfl)]
  obtain ⟨v, hlook, hrow⟩ := look_row h1 (k, f, t)
  refine VK_of (hlook w2 (Mod.refl _ _)) ?_
  have hlr := row_len l (k, f, t)
  unfold firstV
  generalize hR : rowOf l (k, f, t) = row at *
  obtain ⟨A, cc, es, _⟩ := reads_cap hrow
  rw [es, len_sl vMsS, ← es]
  refine W_loop queue_Queue_First_L0_ok (fun ρ w' => ∃ n : Nat, n ≤ row.length ∧ ρ 27 = .int .i64 n ∧ ρ 26 = .int .i64 row.length ∧ ρ 25 = v ∧ ρ 4 = .int .i64 tag ∧ ρ 10 = .pointer (some ⟨w.heap.size, 0, none⟩) ∧ (∀ a ∈ row.take n, fits tag a = false) ∧ Mod none_ w2 w') (fun ρ _ => row.length - (intOf (ρ 27)).toNat)
    ⟨0, Nat.zero_le _, rfl, rfl, rfl, rfl, rfl, by simp, Mod.refl _ _⟩ ?_
  rintro ρ w3 ⟨n, hn, e27, e26, e25, e4, e10, hno, hm3⟩
  rw [queue_Queue_First_L0_eq]; unfold queue_Queue_First_L0_F
  rw [e27, e26, e25, e4, e10, BK_lss]
  have hb3 := hm3.blk hb1 id
  by_cases hlt : n < row.length
  · rw [decide_eq_true (by omega)]
    refine condT ?_
    have hx : row[n]? = some row[n] := List.getElem?_eq_getElem hlt
    generalize hmm : row[n] = m at *
    refine ixMs (hrow.calm hm3) hx rfl fun x => ?_
    refine al_k (cs := zMs.enc.toArray) zMs_z rfl _ fun w4 hb4 hm4 hz4 => ?_
    refine stS (cs := m.enc.toArray) (old := zMs.enc.toArray) rfl rfl (by rw [iMs]; rfl) rfl (Ms.enc_one _) hb4 fun w5 hb5 hm5 hz5 => ?_
    have g7 : FO Try.prog w5 tMs 7 7 ⟨w3.heap.size, 0, none⟩ 4 (.bool m.taken) := FO.blk hb5 (by kernel_rfl) vB rfl rfl
    have g4 : FO Try.prog w5 tMs 4 4 ⟨w3.heap.size, 0, none⟩ 3 (.int .i64 m.tag) := FO.blk hb5 (by kernel_rfl) vI rfl rfl
    have hm35 : Mod none_ w3 w5 := hm4.fresh hm5 (by omega)
    have s3 := hm3.size
    have s1 := hm1.size
    have hb5' := hm35.blk hb3 id
    rw [g7.e, not_ok]
    have no : fits tag m = false → (∃ n' : Nat, n' ≤ row.length ∧ (Value.int .i64 ((n : Int) + 1)) = .int .i64 n' ∧ (∀ a ∈ row.take n', fits tag a = false)) := fun hf => ⟨n + 1, hlt, rfl, by
      rw [List.take_add_one, hx, Option.toList_some]
      intro a q
      rcases List.mem_append.1 q with q | q
      · exact hno a q
      · rw [List.mem_singleton.1 q]; exact hf⟩
    have yes2 : ∀ {K : Value → World → Prop}, fits tag m = true → (∀ x w6, (∀ ρ' : Sl, ρ' 10 = .pointer (some ⟨w.heap.size, 0, none⟩) → ρ' 11 = .bool true → retK Try.prog [ResultVar.cell 10 tMs, ResultVar.tmp 11] (fun v w' => v = msb (row.find? (fits tag)) ∧ Mod none_ w w') .ret ρ' w6) → K x w6) → VK Try.prog (Instr.loadAt tMs (.pointer (some ⟨w3.heap.size, 0, none⟩))) w5 fun x44 w_1 => UK Try.prog (Instr.storeAt tMs (.pointer (some ⟨w.heap.size, 0, none⟩)) x44) w_1 fun _ w6 => K x44 w6 := fun {K} hf hK => by
      refine ldS rfl Try.underlying39 rfl (by rw [iMs]; rfl) hb5 ?_
      refine stS (cs := m.enc.toArray) (old := zMs.enc.toArray) rfl rfl (by rw [iMs]; rfl) rfl (Ms.enc_one _) hb5' fun w6 hb6 hm6 hz6 => ?_
      refine hK _ w6 fun ρ' q10 q11 => ?_
      refine rtCT q10 Try.underlying39 rfl (by rw [iMs]; rfl) hb6 ⟨?_, (((hm1.trans hm3).trans hm35).fresh hm6 (by omega))⟩
      rw [q11]
      have : row.find? (fits tag) = some m := by
        rw [List.find?_eq_some_iff_getElem]
        exact ⟨hf, n, hlt, hmm, fun j hj => by
          have := hno row[j] (List.mem_take_iff_getElem.2 ⟨j, by omega, rfl⟩)
          simp [this]⟩
      rw [this]; rfl
    cases ht : m.taken with
    | true =>
      have hf : fits tag m = false := by simp [fits, ht]
      obtain ⟨n', a1, a2, a3⟩ := no hf
      simp only [Bool.not_true, ↓VG_u, ↓UG_u, ↓MG_u, ↓NG_u, ↓PG_u, ↓BG_u, ↓CG_u, ↓IG_u, ↓VGtt, ↓VGtf, ↓VGft, ↓VGff, ↓UGtt, ↓UGtf, ↓UGft, ↓UGff, ↓MGtt, ↓MGtf, ↓MGft, ↓MGff, ↓NGtt, ↓NGtf, ↓NGft, ↓NGff, ↓PGtt, ↓PGtf, ↓PGft, ↓PGff, ↓BGtt, ↓BGtf, ↓BGft, ↓BGff, ↓CGtt, ↓CGtf, ↓CGft, ↓CGff, ↓IGtt, ↓IGtf, ↓IGft, ↓IGff, ↓PKt, ↓PKf, ↓CDt, ↓CDf, ↓NOTt, ↓NOTf, ↓NK_ptr]
      rw [BK_add, wrap_i (n := (n : Int) + 1) (by omega) (by omega)]
      refine ⟨⟨n', a1, a2, e26, e25, e4, e10, a3, hm3.trans hm35⟩, ?_⟩
      simp only [sq_n, sq_x, sq_r, bk_n, bk_r, bk_x, rt_r, rt_n, rs_0, rs_t, pk_1, pk_2, up_at, reduceIte, Nat.reduceEqDiff, intOf]; omega
    | false =>
      simp only [Bool.not_false, ↓VG_u, ↓UG_u, ↓MG_u, ↓NG_u, ↓PG_u, ↓BG_u, ↓CG_u, ↓IG_u, ↓VGtt, ↓VGtf, ↓VGft, ↓VGff, ↓UGtt, ↓UGtf, ↓UGft, ↓UGff, ↓MGtt, ↓MGtf, ↓MGft, ↓MGff, ↓NGtt, ↓NGtf, ↓NGft, ↓NGff, ↓PGtt, ↓PGtf, ↓PGft, ↓PGff, ↓BGtt, ↓BGtf, ↓BGft, ↓BGff, ↓CGtt, ↓CGtf, ↓CGft, ↓CGff, ↓IGtt, ↓IGtf, ↓IGft, ↓IGff, ↓PKt, ↓PKf, ↓CDt, ↓CDf, ↓NOTt, ↓NOTf, ↓NK_ptr]
      by_cases c1 : tag = -1
      · have hf : fits tag m = true := by simp [fits, ht, c1]
        simp only [↓VG_u, ↓UG_u, ↓MG_u, ↓NG_u, ↓PG_u, ↓BG_u, ↓CG_u, ↓IG_u, ↓VGtt, ↓VGtf, ↓VGft, ↓VGff, ↓UGtt, ↓UGtf, ↓UGft, ↓UGff, ↓MGtt, ↓MGtf, ↓MGft, ↓MGff, ↓NGtt, ↓NGtf, ↓NGft, ↓NGff, ↓PGtt, ↓PGtf, ↓PGft, ↓PGff, ↓BGtt, ↓BGtf, ↓BGft, ↓BGff, ↓CGtt, ↓CGtf, ↓CGft, ↓CGff, ↓IGtt, ↓IGtf, ↓IGft, ↓IGff, ↓PKt, ↓PKf, ↓CDt, ↓CDf, ↓NOTt, ↓NOTf, ↓NK_ptr, ↓EQt c1]
        refine yes2 hf fun x w6 h6 => ?_
        exact h6 _ (by first | rfl | exact e10) rfl
      · simp only [↓VG_u, ↓UG_u, ↓MG_u, ↓NG_u, ↓PG_u, ↓BG_u, ↓CG_u, ↓IG_u, ↓VGtt, ↓VGtf, ↓VGft, ↓VGff, ↓UGtt, ↓UGtf, ↓UGft, ↓UGff, ↓MGtt, ↓MGtf, ↓MGft, ↓MGff, ↓NGtt, ↓NGtf, ↓NGft, ↓NGff, ↓PGtt, ↓PGtf, ↓PGft, ↓PGff, ↓BGtt, ↓BGtf, ↓BGft, ↓BGff, ↓CGtt, ↓CGtf, ↓CGft, ↓CGff, ↓IGtt, ↓IGtf, ↓IGft, ↓IGff, ↓PKt, ↓PKf, ↓CDt, ↓CDf, ↓NOTt, ↓NOTf, ↓NK_ptr, ↓EQf c1]
        rw [g4.e]
        try simp only [↓VG_u, ↓UG_u, ↓MG_u, ↓NG_u, ↓PG_u, ↓BG_u, ↓CG_u, ↓IG_u, ↓VGtt, ↓VGtf, ↓VGft, ↓VGff, ↓UGtt, ↓UGtf, ↓UGft, ↓UGff, ↓MGtt, ↓MGtf, ↓MGft, ↓MGff, ↓NGtt, ↓NGtf, ↓NGft, ↓NGff, ↓PGtt, ↓PGtf, ↓PGft, ↓PGff, ↓BGtt, ↓BGtf, ↓BGft, ↓BGff, ↓CGtt, ↓CGtf, ↓CGft, ↓CGff, ↓IGtt, ↓IGtf, ↓IGft, ↓IGff, ↓PKt, ↓PKf, ↓CDt, ↓CDf, ↓NOTt, ↓NOTf, ↓NK_ptr]
        by_cases c2 : tag = m.tag
        · have hf : fits tag m = true := by simp [fits, ht, c2]
          simp only [↓VG_u, ↓UG_u, ↓MG_u, ↓NG_u, ↓PG_u, ↓BG_u, ↓CG_u, ↓IG_u, ↓VGtt, ↓VGtf, ↓VGft, ↓VGff, ↓UGtt, ↓UGtf, ↓UGft, ↓UGff, ↓MGtt, ↓MGtf, ↓MGft, ↓MGff, ↓NGtt, ↓NGtf, ↓NGft, ↓NGff, ↓PGtt, ↓PGtf, ↓PGft, ↓PGff, ↓BGtt, ↓BGtf, ↓BGft, ↓BGff, ↓CGtt, ↓CGtf, ↓CGft, ↓CGff, ↓IGtt, ↓IGtf, ↓IGft, ↓IGff, ↓PKt, ↓PKf, ↓CDt, ↓CDf, ↓NOTt, ↓NOTf, ↓NK_ptr, ↓EQt c2]
          refine yes2 hf fun x w6 h6 => ?_
          exact h6 _ (by first | rfl | exact e10) rfl
        · have hf : fits tag m = false := by simp [fits, ht, c1, c2]
          obtain ⟨n', a1, a2, a3⟩ := no hf
          simp only [↓VG_u, ↓UG_u, ↓MG_u, ↓NG_u, ↓PG_u, ↓BG_u, ↓CG_u, ↓IG_u, ↓VGtt, ↓VGtf, ↓VGft, ↓VGff, ↓UGtt, ↓UGtf, ↓UGft, ↓UGff, ↓MGtt, ↓MGtf, ↓MGft, ↓MGff, ↓NGtt, ↓NGtf, ↓NGft, ↓NGff, ↓PGtt, ↓PGtf, ↓PGft, ↓PGff, ↓BGtt, ↓BGtf, ↓BGft, ↓BGff, ↓CGtt, ↓CGtf, ↓CGft, ↓CGff, ↓IGtt, ↓IGtf, ↓IGft, ↓IGff, ↓PKt, ↓PKf, ↓CDt, ↓CDf, ↓NOTt, ↓NOTf, ↓NK_ptr, ↓EQf c2]
          rw [BK_add, wrap_i (n := (n : Int) + 1) (by omega) (by omega)]
          refine ⟨⟨n', a1, a2, e26, e25, e4, e10, a3, hm3.trans hm35⟩, ?_⟩
          simp only [sq_n, sq_x, sq_r, bk_n, bk_r, bk_x, rt_r, rt_n, rs_0, rs_t, pk_1, pk_2, up_at, reduceIte, Nat.reduceEqDiff, intOf]; omega
  · obtain rfl : n = row.length := by omega
    rw [decide_eq_false (by omega)]
    refine condF ?_
    rw [sq_x, bk_x, sq_n, queue_Queue_First_R1_eq]; unfold queue_Queue_First_R1_F
    rw [build_ok zMs_b]
    have e10' : (up ρ 28 (Value.bool false)) 10 = .pointer (some ⟨w.heap.size, 0, none⟩) := e10
    rw [e10']
    have s1 := hm1.size
    refine stS (cs := zMs.enc.toArray) (old := zMs.enc.toArray) rfl rfl (by rw [iMs]; rfl) rfl (Ms.enc_one _) hb3 fun w6 hb6 hm6 hz6 => ?_
    refine rtCT e10 Try.underlying39 rfl (by rw [iMs]; rfl) hb6 ⟨?_, ((hm1.trans hm3).fresh hm6 (by omega))⟩
    rw [List.take_length] at hno
    rw [List.find?_eq_none.2 (fun a ha => by rw [hno a ha]; decide)]
    rfl
end
end Go.Proofs.Ytmnkedgmpbcicaa.Que
set_option linter.unusedVariables false
set_option linter.unusedSimpArgs false
set_option maxRecDepth 4000
namespace Go.X
open Go Go.RowKit
def tk (f c : Int) (m : Ms) : Ms := if m.isAt f c then { m with taken := true } else m
theorem tk_ch (f c : Int) (m : Ms) : (tk f c m).ch = m.ch := by unfold tk; split <;> rfl
theorem tk_frm (f c : Int) (m : Ms) : (tk f c m).frm = m.frm := by unfold tk; split <;> rfl
theorem tk_call (f c : Int) (m : Ms) : (tk f c m).call = m.call := by unfold tk; split <;> rfl
theorem tk_isAt (f c f' c' : Int) (m : Ms) : (tk f c m).isAt f' c' = m.isAt f' c' := by unfold Ms.isAt; rw [tk_frm, tk_call]
def takeV (l : List Ms) (f c : Int) : List Ms × Int :=
  match l.find? (Ms.isAt f c) with
  | none => (l, 2)
  | some m => if m.taken then (l, 2) else (l.map (tk f c), 0)
theorem row_map (l : List Ms) (f c : Int) (k : Ch) : rowOf (l.map (tk f c)) k = (rowOf l k).map (tk f c) := by
  unfold rowOf
  rw [List.filter_map]
  congr 1
  refine List.filter_congr fun m _ => ?_
  simp [tk_ch]
theorem row_other {l : List Ms} (hu : l.Pairwise fun a b => ¬ (a.frm = b.frm ∧ a.call = b.call)) {m : Ms} {f c : Int} (hm : l.find? (Ms.isAt f c) = some m) {k : Ch} (hk : k ≠ m.ch) : rowOf (l.map (tk f c)) k = rowOf l k := by
  rw [row_map]
  refine (List.map_congr_left fun x hx => ?_).trans (List.map_id' _)
  unfold tk
  rw [if_neg]
  intro q
  obtain ⟨hx1, hx2⟩ := mem_row.1 hx
  obtain ⟨a, b⟩ := isAt_iff.1 q
  obtain ⟨a', b'⟩ := isAt_iff.1 (List.find?_some hm)
  have := uniq_mem hu hx1 (List.mem_of_find?_eq_some hm) (a.trans a'.symm) (b.trans b'.symm)
  subst this
  exact hk hx2.symm
theorem row_set {l : List Ms} (hu : l.Pairwise fun a b => ¬ (a.frm = b.frm ∧ a.call = b.call)) {m : Ms} {f c : Int} (hm : l.find? (Ms.isAt f c) = some m) {j : Nat} (hj : (rowOf l m.ch)[j]? = some m) : rowOf (l.map (tk f c)) m.ch = (rowOf l m.ch).set j { m with taken := true } := by
  rw [row_map]
  have hat := List.find?_some hm
  have hur : (rowOf l m.ch).Pairwise fun a b => ¬ (a.frm = b.frm ∧ a.call = b.call) := hu.filter _
  apply List.ext_getElem?
  intro i
  rw [List.getElem?_map, List.getElem?_set]
  by_cases e : j = i
  · subst e
    rw [hj, if_pos rfl, if_pos (List.getElem?_eq_some_iff.1 hj).1]
    simp [tk, hat]
  · rw [if_neg e]
    cases hi : (rowOf l m.ch)[i]? with
    | none => rfl
    | some x =>
      simp only [Option.map_some]
      congr 1
      unfold tk
      rw [if_neg]
      intro q
      obtain ⟨a, b⟩ := isAt_iff.1 q
      obtain ⟨a', b'⟩ := isAt_iff.1 hat
      obtain ⟨hi1, hi2⟩ := List.getElem?_eq_some_iff.1 hi
      obtain ⟨hj1, hj2⟩ := List.getElem?_eq_some_iff.1 hj
      rcases Nat.lt_trichotomy i j with z | z | z
      · exact List.pairwise_iff_getElem.1 hur i j hi1 hj1 z ⟨by rw [hi2, hj2]; exact a.trans a'.symm, by rw [hi2, hj2]; exact b.trans b'.symm⟩
      · exact e z.symm
      · exact List.pairwise_iff_getElem.1 hur j i hj1 hi1 z ⟨by rw [hi2, hj2]; exact (a.trans a'.symm).symm, by rw [hi2, hj2]; exact (b.trans b'.symm).symm⟩
theorem QInv.take {l : List Ms} {V : QV} (h : QInv l V) (f c : Int) : QInv (l.map (tk f c)) V := by
  refine ⟨h.rk, h.rb, h.rc, fun m hm => ?_, h.dist, fun k => ?_, ?_, h.ak, h.abn, h.ac⟩
  · obtain ⟨x, hx, rfl⟩ := List.mem_map.1 hm
    obtain ⟨e, he, hk⟩ := h.cov x hx
    exact ⟨e, he, by rw [hk, tk_ch]⟩
  · rw [h.at_ k, List.find?_map]
    have : (Ms.isAt k.1 k.2 ∘ tk f c) = Ms.isAt k.1 k.2 := by funext m; exact tk_isAt _ _ _ _ _
    rw [this, Option.map_map]
    congr 1
    funext m
    simp [tk_ch]
  · rw [List.pairwise_map]
    refine h.uniq.imp fun {a b} q => ?_
    rw [tk_frm, tk_frm, tk_call, tk_call]
    exact q
def badM (m : Ms) : Bool := m.taken || !(decide (0 ≤ m.frm) && decide (m.frm ≤ 63)) || !(decide (0 ≤ m.to) && decide (m.to ≤ 63)) || decide (m.call < 0) || !(decide (0 ≤ m.tag) && decide (m.tag ≤ 32767)) || !(decide (1 ≤ m.size) && decide (m.size ≤ 64))
def sendV (l : List Ms) (m : Ms) : List Ms × Int := if (l.find? (Ms.isAt m.frm m.call)).isSome || badM m then (l, 2) else (l ++ [m], 0)
theorem row_app (l : List Ms) (m : Ms) (k : Ch) : rowOf (l ++ [m]) k = rowOf l k ++ (if m.ch = k then [m] else []) := by
  unfold rowOf
  rw [List.filter_append]
  congr 1
  by_cases h : m.ch = k <;> simp [h]
theorem findE_app {κ : Type} [DecidableEq κ] {k : κ} {e : Ent κ} : ∀ {l : List (Ent κ)} {n : Nat}, findE k (l ++ [e]) n = match findE k l n with | some x => some x | none => if k = e.k then some (n + l.length, e.v) else none
  | [], n => by simp [findE]
  | a :: r, n => by
    simp only [List.cons_append, findE]
    by_cases h : k = a.k
    · simp [h]
    · simp only [h, if_false]
      rw [findE_app (l := r) (n := n + 1)]
      cases findE k r (n + 1) with
      | none => simp only [List.length_cons]; congr 1; congr 1; simp; omega
      | some x => rfl
theorem QInv.entry {l : List Ms} {V : QV} (h : QInv l V) {k : Ch} (hf : findE k V.er 0 = none) : QInv l { V with er := V.er ++ [⟨k, .slice none 0 0, V.c1⟩], c1 := V.c1 + 1 } := by
  have hno := findE_none.1 hf
  have get : ∀ (i : Nat) (a : Ent Ch), (V.er ++ [⟨k, .slice none 0 0, V.c1⟩])[i]? = some a → V.er[i]? = some a ∨ i = V.er.length ∧ a = ⟨k, .slice none 0 0, V.c1⟩ := fun i a hi => by
    rcases Nat.lt_or_ge i V.er.length with q | q
    · rw [List.getElem?_append_left q] at hi; exact .inl hi
    · rw [List.getElem?_append_right q] at hi
      have : i - V.er.length = 0 := by
        rcases Nat.eq_zero_or_pos (i - V.er.length) with z | z
        · exact z
        · rw [List.getElem?_eq_none (by simp only [List.length_cons, List.length_nil]; omega)] at hi; cases hi
      rw [this] at hi
      exact .inr ⟨by omega, by simpa using hi.symm⟩
  have lt : ∀ (i : Nat) (a : Ent Ch), V.er[i]? = some a → i < V.er.length := fun i a hi => (List.getElem?_eq_some_iff.1 hi).1
  refine ⟨fun i j a b hi hj hk => ?_, fun i j a b hi hj hk => ?_, fun e he => ?_, fun m hm => ?_, fun i j a b hi hj hij g ha hb => ?_, h.at_, h.uniq, h.ak, h.abn, h.ac⟩
  · rcases get i a hi with q | ⟨q, rfl⟩ <;> rcases get j b hj with z | ⟨z, rfl⟩
    · exact h.rk i j a b q z hk
    · exact absurd hk (hno a (List.mem_of_getElem? q))
    · exact absurd hk.symm (hno b (List.mem_of_getElem? z))
    · omega
  · rcases get i a hi with q | ⟨q, rfl⟩ <;> rcases get j b hj with z | ⟨z, rfl⟩
    · exact h.rb i j a b q z hk
    · have := h.rc a (List.mem_of_getElem? q); dsimp only at hk; omega
    · have := h.rc b (List.mem_of_getElem? z); dsimp only at hk; omega
    · omega
  · rcases List.mem_append.1 he with q | q
    · have := h.rc e q; dsimp only; omega
    · rw [List.mem_singleton.1 q]; dsimp only; omega
  · obtain ⟨e, he, hk⟩ := h.cov m hm
    exact ⟨e, List.mem_append_left _ he, hk⟩
  · rcases get i a hi with q | ⟨q, rfl⟩ <;> rcases get j b hj with z | ⟨z, rfl⟩
    · exact h.dist i j a b q z hij g ha hb
    · cases hb
    · cases ha
    · omega
theorem app_get {α : Type} {l : List α} {x : α} {i : Nat} {a : α} (hi : (l ++ [x])[i]? = some a) : l[i]? = some a ∨ i = l.length ∧ a = x := by
  rcases Nat.lt_or_ge i l.length with q | q
  · rw [List.getElem?_append_left q] at hi; exact .inl hi
  · rw [List.getElem?_append_right q] at hi
    have : i - l.length = 0 := by
      rcases Nat.eq_zero_or_pos (i - l.length) with z | z
      · exact z
      · rw [List.getElem?_eq_none (by simp only [List.length_cons, List.length_nil]; omega)] at hi; cases hi
    rw [this] at hi
    exact .inr ⟨by omega, by simpa using hi.symm⟩
theorem QInv.send {l : List Ms} {V : QV} (h : QInv l V) {m : Ms} (hn : l.find? (Ms.isAt m.frm m.call) = none) {i : Nat} {e : Ent Ch} (hi : V.er[i]? = some e) (hk : e.k = m.ch) {v' : Value} {B : Nat} (hv : ∀ g, sb v' g → sb e.v g ∨ B ≤ g) (hB : ∀ a ∈ V.er, ∀ g, sb a.v g → g < B) :
    QInv (l ++ [m]) { V with er := V.er.modify i fun e => ⟨e.k, v', e.b⟩, ea := V.ea ++ [⟨(m.frm, m.call), encC m.ch, V.c2⟩], c2 := V.c2 + 1 } := by
  have get : ∀ (j : Nat) (a : Ent Ch), (V.er.modify i fun e => ⟨e.k, v', e.b⟩)[j]? = some a → ∃ b, V.er[j]? = some b ∧ a.k = b.k ∧ a.b = b.b ∧ (j ≠ i ∧ a = b ∨ j = i ∧ a.v = v') := fun j a hj => by
    rw [List.getElem?_modify] at hj
    by_cases q : i = j
    · subst q
      rw [hi] at hj
      simp at hj
      subst hj
      exact ⟨e, hi, rfl, rfl, .inr ⟨rfl, rfl⟩⟩
    · simp [q] at hj
      exact ⟨a, hj, rfl, rfl, .inl ⟨fun z => q z.symm, rfl⟩⟩
  have hno : ∀ x ∈ l, ¬ (x.frm = m.frm ∧ x.call = m.call) := fun x hx q => by
    have := List.find?_eq_none.1 hn x hx
    exact this (isAt_iff.2 q)
  have hfe : findE (m.frm, m.call) V.ea 0 = none := by
    have := h.at_ (m.frm, m.call)
    rw [hn] at this
    simpa using this
  have hnk := findE_none.1 hfe
  refine ⟨fun a b x y ha hb q => ?_, fun a b x y ha hb q => ?_, fun x hx => ?_, fun x hx => ?_, fun a b x y ha hb hab g hx hy => ?_, fun k => ?_, ?_, fun a b x y ha hb q => ?_, fun a b x y ha hb q => ?_, fun x hx => ?_⟩
  · obtain ⟨x', hx', e1, _, _⟩ := get a x ha
    obtain ⟨y', hy', e2, _, _⟩ := get b y hb
    exact h.rk a b x' y' hx' hy' (by rw [← e1, ← e2, q])
  · obtain ⟨x', hx', _, e1, _⟩ := get a x ha
    obtain ⟨y', hy', _, e2, _⟩ := get b y hb
    exact h.rb a b x' y' hx' hy' (by rw [← e1, ← e2, q])
  · obtain ⟨a, ha, rfl⟩ := List.mem_iff_getElem.1 hx
    obtain ⟨x', hx', _, e1, _⟩ := get a _ (List.getElem?_eq_getElem ha)
    rw [e1]
    exact h.rc x' (List.mem_of_getElem? hx')
  · have ex : ∀ x : Ent Ch, x ∈ V.er → ∃ y ∈ V.er.modify i (fun e => ⟨e.k, v', e.b⟩), y.k = x.k := fun x hx => by
      obtain ⟨a, ha, rfl⟩ := List.mem_iff_getElem.1 hx
      refine ⟨(V.er.modify i fun e => ⟨e.k, v', e.b⟩)[a]'(by rw [List.length_modify]; exact ha), List.getElem_mem _, ?_⟩
      rw [List.getElem_modify]
      split <;> rfl
    rcases List.mem_append.1 hx with q | q
    · obtain ⟨y, hy, z⟩ := h.cov x q
      obtain ⟨y', hy', z'⟩ := ex y hy
      exact ⟨y', hy', z'.trans z⟩
    · rw [List.mem_singleton.1 q]
      obtain ⟨y', hy', z'⟩ := ex e (List.mem_of_getElem? hi)
      exact ⟨y', hy', z'.trans hk⟩
  · obtain ⟨x', hx', _, _, px⟩ := get a x ha
    obtain ⟨y', hy', _, _, py⟩ := get b y hb
    rcases px with ⟨a1, rfl⟩ | ⟨rfl, a1⟩ <;> rcases py with ⟨b1, rfl⟩ | ⟨rfl, b1⟩
    · exact h.dist a b x y hx' hy' hab g hx hy
    · rw [b1] at hy
      rw [hi] at hy'; cases hy'
      rcases hv g hy with z | z
      · exact h.dist a b x e hx' hi hab g hx z
      · have := hB x (List.mem_of_getElem? hx') g hx; omega
    · rw [a1] at hx
      rw [hi] at hx'; cases hx'
      rcases hv g hx with z | z
      · exact h.dist a b e y hi hy' hab g z hy
      · have := hB y (List.mem_of_getElem? hy') g hy; omega
    · exact hab rfl
  · dsimp only
    rw [findE_app, List.find?_append]
    have h0 := h.at_ k
    cases hq : findE k V.ea 0 with
    | some x =>
      rw [hq] at h0
      cases hz : l.find? (Ms.isAt k.1 k.2) with
      | none => rw [hz] at h0; cases h0
      | some y => rw [hz] at h0; simpa using h0
    | none =>
      rw [hq] at h0
      cases hz : l.find? (Ms.isAt k.1 k.2) with
      | some y => rw [hz] at h0; cases h0
      | none =>
        simp only [Option.none_or]
        by_cases c : k = (m.frm, m.call)
        · subst c
          simp [Ms.isAt]
        · have : Ms.isAt k.1 k.2 m = false := by
            cases hb : Ms.isAt k.1 k.2 m with
            | false => rfl
            | true =>
              obtain ⟨q1, q2⟩ := isAt_iff.1 hb
              exact absurd (Prod.ext q1.symm q2.symm) c
          simp [c, this]
  · rw [List.pairwise_append]
    exact ⟨h.uniq, by simp, fun a ha b hb => by rw [List.mem_singleton.1 hb]; exact hno a ha⟩
  · rcases app_get ha with z | ⟨z, rfl⟩ <;> rcases app_get hb with y' | ⟨y', rfl⟩
    · exact h.ak a b x y z y' q
    · exact absurd q (hnk x (List.mem_of_getElem? z))
    · exact absurd q.symm (hnk y (List.mem_of_getElem? y'))
    · omega
  · rcases app_get ha with z | ⟨z, rfl⟩ <;> rcases app_get hb with y' | ⟨y', rfl⟩
    · exact h.abn a b x y z y' q
    · have := h.ac x (List.mem_of_getElem? z); dsimp only at q; omega
    · have := h.ac y (List.mem_of_getElem? y'); dsimp only at q; omega
    · omega
  · rcases List.mem_append.1 hx with z | z
    · have := h.ac x z; dsimp only; omega
    · rw [List.mem_singleton.1 z]; dsimp only; omega
end Go.X
set_option linter.unusedVariables false
set_option linter.unusedSimpArgs false
set_option maxRecDepth 4000
namespace Go.Proofs.Ytmnkedgmpbcicaa.Que
open Go Go.X Go.RowKit Go.Proofs.Ytmnkedgmpbcicaa.XF Go.Proofs.Ytmnkedgmpbcicaa.XK
section
variable {w : World} {p : Nat} {l : List Ms} {V : QV}
theorem Take_ok (h : QAt w p l V) (hL : l.length ≤ 1000000) (f c : Int) : Rt Try.prog 45 #[.pointer (some ⟨p, 0, none⟩), .int .i64 f, .int .i64 c] w fun v w' => v = .int .i64 (takeV l f c).2 ∧ QAt w' p (takeV l f c).1 V ∧ QFr p w V w' V := by
  refine queue_Queue_Take_calls ?_
  unfold queue_Queue_Take_F
  refine CK_st Try.func49 rfl rfl (none_ok h) ?_
  rintro _ w1 ⟨rfl, rfl⟩
  refine condF ?_
  refine CK_st Try.func69 rfl rfl (find_ok h hL f c) ?_
  rintro _ w2 ⟨hF, hm2⟩
  have h2 := h.calm hm2
  unfold FindP at hF
  unfold takeV
  cases hq : l.find? (Ms.isAt f c) with
  | none =>
    rw [hq] at hF
    subst hF
    rw [extract_ok (v := .slice none 0 0) rfl, extract_ok (v := .int .i64 (-1)) rfl]
    simp only [↓VG_u, ↓UG_u, ↓MG_u, ↓NG_u, ↓PG_u, ↓BG_u, ↓CG_u, ↓IG_u, ↓VGtt, ↓VGtf, ↓VGft, ↓VGff, ↓UGtt, ↓UGtf, ↓UGft, ↓UGff, ↓MGtt, ↓MGtf, ↓MGft, ↓MGff, ↓NGtt, ↓NGtf, ↓NGft, ↓NGff, ↓PGtt, ↓PGtf, ↓PGft, ↓PGff, ↓BGtt, ↓BGtf, ↓BGft, ↓BGff, ↓CGtt, ↓CGtf, ↓CGft, ↓CGff, ↓IGtt, ↓IGtf, ↓IGft, ↓IGff, ↓PKt, ↓PKf, ↓CDt, ↓CDf, ↓NOTt, ↓NOTf, ↓NK_ptr, ↓LTt (show (-1 : Int) < 0 by decide)]
    exact ⟨by trivial, h2, QFr.calm hm2⟩
  | some m =>
    rw [hq] at hF
    obtain ⟨e, hem, hek, j, hj, rfl⟩ := hF
    rw [extract_ok (v := e.v) rfl, extract_ok (v := .int .i64 (j : Int)) rfl]
    simp only [↓VG_u, ↓UG_u, ↓MG_u, ↓NG_u, ↓PG_u, ↓BG_u, ↓CG_u, ↓IG_u, ↓VGtt, ↓VGtf, ↓VGft, ↓VGff, ↓UGtt, ↓UGtf, ↓UGft, ↓UGff, ↓MGtt, ↓MGtf, ↓MGft, ↓MGff, ↓NGtt, ↓NGtf, ↓NGft, ↓NGff, ↓PGtt, ↓PGtf, ↓PGft, ↓PGff, ↓BGtt, ↓BGtf, ↓BGft, ↓BGff, ↓CGtt, ↓CGtf, ↓CGft, ↓CGff, ↓IGtt, ↓IGtf, ↓IGft, ↓IGff, ↓PKt, ↓PKf, ↓CDt, ↓CDf, ↓NOTt, ↓NOTf, ↓NK_ptr, ↓LTf (show (0 : Int) ≤ (j : Int) by omega)]
    have hown := h2.rows e hem
    rw [hek] at hown
    have hrow : MsRow w2 e.v (rowOf l m.ch) := reads_of_owns hown
    have hjl := (List.getElem?_eq_some_iff.1 hj).1
    obtain ⟨g, cap, ev, cur, hcur⟩ := owns_some hown (by omega)
    have hg : sb e.v g := by rw [ev]; rfl
    -- the place is known
    have ixg : ∀ {K : Value → World → Prop}, K (.pointer (some ⟨g, j * 8, none⟩)) w2 → VK Try.prog (Instr.indexAt tMsS e.v (.int .i64 (j : Int))) w2 K := fun {K} hK => by
      rw [ev]
      refine VK_of (run_ixa vMsS cMs (by omega) (by omega) w2) ?_
      rw [add_pl, Nat.zero_add, show ((j : Int)).toNat = j by omega]
      exact hK
    have cell : ∀ k u, m.enc[k]? = some u → w2.cell? ⟨g, j * 8 + k, none⟩ = some u := fun k u hu => by
      have hk : k < 7 + 1 := (List.getElem?_eq_some_iff.1 hu).1
      obtain ⟨_, A, cc, es, _, hr⟩ := hrow
      rw [ev] at es; cases es
      obtain ⟨a, ha, hc⟩ := hr (j * (7 + 1) + k) u (by rw [fl_get (k := 7 + 1) Ms.enc_len hj hk]; exact hu)
      cases ha
      rw [add_pl] at hc
      simpa using hc
    refine ixg ?_
    try simp only [↓VG_u, ↓UG_u, ↓MG_u, ↓NG_u, ↓PG_u, ↓BG_u, ↓CG_u, ↓IG_u, ↓VGtt, ↓VGtf, ↓VGft, ↓VGff, ↓UGtt, ↓UGtf, ↓UGft, ↓UGff, ↓MGtt, ↓MGtf, ↓MGft, ↓MGff, ↓NGtt, ↓NGtf, ↓NGft, ↓NGff, ↓PGtt, ↓PGtf, ↓PGft, ↓PGff, ↓BGtt, ↓BGtf, ↓BGft, ↓BGff, ↓CGtt, ↓CGtf, ↓CGft, ↓CGff, ↓IGtt, ↓IGtf, ↓IGft, ↓IGff, ↓PKt, ↓PKf, ↓CDt, ↓CDf, ↓NOTt, ↓NOTf, ↓NK_ptr]
    rw [fo (show fieldOff Try.prog tMs 7 = some 7 by kernel_rfl), add_pl]
    try simp only [↓VG_u, ↓UG_u, ↓MG_u, ↓NG_u, ↓PG_u, ↓BG_u, ↓CG_u, ↓IG_u, ↓VGtt, ↓VGtf, ↓VGft, ↓VGff, ↓UGtt, ↓UGtf, ↓UGft, ↓UGff, ↓MGtt, ↓MGtf, ↓MGft, ↓MGff, ↓NGtt, ↓NGtf, ↓NGft, ↓NGff, ↓PGtt, ↓PGtf, ↓PGft, ↓PGff, ↓BGtt, ↓BGtf, ↓BGft, ↓BGff, ↓CGtt, ↓CGtf, ↓CGft, ↓CGff, ↓IGtt, ↓IGtf, ↓IGft, ↓IGff, ↓PKt, ↓PKf, ↓CDt, ↓CDf, ↓NOTt, ↓NOTf, ↓NK_ptr]
    refine ld1 vB rfl (cell 7 (.bool m.taken) rfl) ?_
    cases ht : m.taken with
    | true =>
      simp only [↓VG_u, ↓UG_u, ↓MG_u, ↓NG_u, ↓PG_u, ↓BG_u, ↓CG_u, ↓IG_u, ↓VGtt, ↓VGtf, ↓VGft, ↓VGff, ↓UGtt, ↓UGtf, ↓UGft, ↓UGff, ↓MGtt, ↓MGtf, ↓MGft, ↓MGff, ↓NGtt, ↓NGtf, ↓NGft, ↓NGff, ↓PGtt, ↓PGtf, ↓PGft, ↓PGff, ↓BGtt, ↓BGtf, ↓BGft, ↓BGff, ↓CGtt, ↓CGtf, ↓CGft, ↓CGff, ↓IGtt, ↓IGtf, ↓IGft, ↓IGff, ↓PKt, ↓PKf, ↓CDt, ↓CDf, ↓NOTt, ↓NOTf, ↓NK_ptr, if_true]
      exact ⟨by trivial, h2, QFr.calm hm2⟩
    | false =>
      simp only [↓VG_u, ↓UG_u, ↓MG_u, ↓NG_u, ↓PG_u, ↓BG_u, ↓CG_u, ↓IG_u, ↓VGtt, ↓VGtf, ↓VGft, ↓VGff, ↓UGtt, ↓UGtf, ↓UGft, ↓UGff, ↓MGtt, ↓MGtf, ↓MGft, ↓MGff, ↓NGtt, ↓NGtf, ↓NGft, ↓NGff, ↓PGtt, ↓PGtf, ↓PGft, ↓PGff, ↓BGtt, ↓BGtf, ↓BGft, ↓BGff, ↓CGtt, ↓CGtf, ↓CGft, ↓CGff, ↓IGtt, ↓IGtf, ↓IGft, ↓IGff, ↓PKt, ↓PKf, ↓CDt, ↓CDf, ↓NOTt, ↓NOTf, ↓NK_ptr, Bool.false_eq_true, if_false]
      refine ixg ?_
      rw [fo (show fieldOff Try.prog tMs 7 = some 7 by kernel_rfl), add_pl]
      rw [ev] at hown
      refine st_row (by kernel_rfl) rfl hown (k := j * 8 + 7) (by omega) fun w3 ho3 hm3 => ?_
      rw [queue_Queue_Take_R0_eq]; unfold queue_Queue_Take_R0_F
      rw [fl_set (k := 7 + 1) Ms.enc_len (r' := { m with taken := true }) hj (by omega) rfl, ← row_set h.inv.uniq hq hj] at ho3
      have hlen : (rowOf l m.ch).length = (rowOf (l.map (tk f c)) m.ch).length := by rw [row_map, List.length_map]
      have hFg : V.F p g := .inr (.inr (.inr ⟨e, hem, hg⟩))
      obtain ⟨n1, n2, n3⟩ := h2.row_ne hem hg
      refine ⟨rfl, ⟨hm3.blk h2.blk (fun z => n1 z.symm), h2.rm.mod hm3 (fun z => n2 z.symm), h2.am.mod hm3 (fun z => n3 z.symm), fun e' he' => ?_, h2.ne, h2.inv.take f c⟩, ⟨(hm2.mono fun _ _ z => z.elim).trans (hm3.mono fun b _ z => by rw [z]; exact hFg), fun _ z => .inl z⟩⟩
      obtain ⟨i1, hi1, rfl⟩ := List.mem_iff_getElem.1 hem
      obtain ⟨i2, hi2, rfl⟩ := List.mem_iff_getElem.1 he'
      by_cases hi : i1 = i2
      · subst hi
        rw [hek, ev, ← hlen]
        exact ho3
      · have hne : (V.er[i2]).k ≠ m.ch := fun z => hi (h.inv.rk i1 i2 _ _ (List.getElem?_eq_getElem hi1) (List.getElem?_eq_getElem hi2) (hek.trans z.symm))
        rw [row_other h.inv.uniq hq hne]
        exact owns_mod (h2.rows _ he') hm3 fun b z y => h.inv.dist i1 i2 _ _ (List.getElem?_eq_getElem hi1) (List.getElem?_eq_getElem hi2) hi g hg (y ▸ z)
theorem in_ok (n a b : Int) (w : World) : Rt Try.prog 50 #[.int .i64 n, .int .i64 a, .int .i64 b] w fun v w' => v = .bool (decide (a ≤ n) && decide (n ≤ b)) ∧ w' = w := by
  refine queue_in_calls ?_
  unfold queue_in_F
  rw [BK_geq]
  by_cases c : a ≤ n
  · simp only [c, decide_true, ↓VG_u, ↓UG_u, ↓MG_u, ↓NG_u, ↓PG_u, ↓BG_u, ↓CG_u, ↓IG_u, ↓VGtt, ↓VGtf, ↓VGft, ↓VGff, ↓UGtt, ↓UGtf, ↓UGft, ↓UGff, ↓MGtt, ↓MGtf, ↓MGft, ↓MGff, ↓NGtt, ↓NGtf, ↓NGft, ↓NGff, ↓PGtt, ↓PGtf, ↓PGft, ↓PGff, ↓BGtt, ↓BGtf, ↓BGft, ↓BGff, ↓CGtt, ↓CGtf, ↓CGft, ↓CGff, ↓IGtt, ↓IGtf, ↓IGft, ↓IGff, ↓PKt, ↓PKf, ↓CDt, ↓CDf, ↓NOTt, ↓NOTf, ↓NK_ptr, ↓BK_leq]
    exact ⟨by simp, by trivial⟩
  · simp only [c, decide_false, ↓VG_u, ↓UG_u, ↓MG_u, ↓NG_u, ↓PG_u, ↓BG_u, ↓CG_u, ↓IG_u, ↓VGtt, ↓VGtf, ↓VGft, ↓VGff, ↓UGtt, ↓UGtf, ↓UGft, ↓UGff, ↓MGtt, ↓MGtf, ↓MGft, ↓MGff, ↓NGtt, ↓NGtf, ↓NGft, ↓NGff, ↓PGtt, ↓PGtf, ↓PGft, ↓PGff, ↓BGtt, ↓BGtf, ↓BGft, ↓BGff, ↓CGtt, ↓CGtf, ↓CGft, ↓CGff, ↓IGtt, ↓IGtf, ↓IGft, ↓IGff, ↓PKt, ↓PKf, ↓CDt, ↓CDf, ↓NOTt, ↓NOTf, ↓NK_ptr]
    exact ⟨by simp, by trivial⟩
end
end Go.Proofs.Ytmnkedgmpbcicaa.Que
set_option linter.unusedVariables false
set_option linter.unusedSimpArgs false
set_option maxRecDepth 4000
namespace Go.Proofs.Ytmnkedgmpbcicaa.Que
open Go Go.X Go.RowKit Go.Proofs.Ytmnkedgmpbcicaa.XF Go.Proofs.Ytmnkedgmpbcicaa.XK
theorem entry_ok {w : World} {p : Nat} {l : List Ms} {V : QV} (h : QAt w p l V) (c : Ch) : ∃ (w' : World) (V1 : QV) (i : Nat) (e : Ent Ch), (Instr.mapEntry 86 (.map (some V.rb)) (encC c)).run Try.prog w = .ok (.tuple #[e.v, goInt e.b]) w' ∧ QAt w' p l V1 ∧ V1.er[i]? = some e ∧ e.k = c ∧ V1.rb = V.rb ∧ V1.ab = V.ab ∧ V1.ea = V.ea ∧ V1.c2 = V.c2 ∧ Mod (fun b => b = V.rb) w w' ∧ (∀ b, V1.F p b → V.F p b) := by
  obtain ⟨w', hrun, hmap, hm⟩ := run_entry KC uR h.rm zR_z c
  cases hf : findE c V.er 0 with
  | none =>
    rw [hf] at hrun hmap
    refine ⟨w', { V with er := V.er ++ [⟨c, .slice none 0 0, V.c1⟩], c1 := V.c1 + 1 }, V.er.length, ⟨c, .slice none 0 0, V.c1⟩, hrun, ⟨hm.blk h.blk h.p_ne.1, ?_, h.am.mod hm (fun q => h.ne q.symm), fun e he => ?_, h.ne, h.inv.entry hf⟩, by simp, rfl, rfl, rfl, rfl, rfl, hm, fun b q => ?_⟩
    · unfold clkE at hmap; rw [hf] at hmap; exact hmap
    · rcases List.mem_append.1 he with q | q
      · exact owns_mod (h.rows e q) hm fun b z y => (h.row_ne q z).2.1 y
      · rw [List.mem_singleton.1 q]
        have : rowOf l c = [] := by
          refine List.filter_eq_nil_iff.2 fun m hm q => ?_
          obtain ⟨e, he, hk⟩ := h.inv.cov m hm
          exact findE_none.1 hf e he (hk.trans (by simpa using q))
        dsimp only
        rw [this]
        exact World.ownsRow_nil _ _ _ _
    · rcases q with q | q | q | ⟨e, he, q⟩
      · exact .inl q
      · exact .inr (.inl q)
      · exact .inr (.inr (.inl q))
      · rcases List.mem_append.1 he with z | z
        · exact .inr (.inr (.inr ⟨e, z, q⟩))
        · rw [List.mem_singleton.1 z] at q; cases q
  | some x =>
    obtain ⟨i, u⟩ := x
    obtain ⟨e, he, hk, hv⟩ := findE_at hf
    rw [hf] at hrun hmap
    refine ⟨w', V, i, e, ?_, ⟨hm.blk h.blk h.p_ne.1, ?_, h.am.mod hm (fun q => h.ne q.symm), fun e he => owns_mod (h.rows e he) hm fun b z y => (h.row_ne he z).2.1 y, h.ne, h.inv⟩, he, hk, rfl, rfl, rfl, rfl, hm, fun b q => q⟩
    · rw [hrun]; dsimp only; rw [he, hv]; rfl
    · unfold clkE at hmap; rw [hf] at hmap; exact hmap
section
variable {w w1 w2 w3 w4 : World} {p : Nat} {l : List Ms} {V : QV} {m : Ms}
theorem sent_at (h : QAt w p l V) (hn : l.find? (Ms.isAt m.frm m.call) = none) {i : Nat} {e : Ent Ch} (hi : V.er[i]? = some e) (hk : e.k = m.ch) {v' : Value}
    (ho : w2.ownsRow 0 tMs 8 v' ((rowOf l m.ch).length + 1) ((rowOf l m.ch).flatMap Ms.enc ++ m.enc)) (hm2 : Mod (fun k => some k = e.v.ownBlock) w w2) (hv : v'.ownBlock = e.v.ownBlock ∨ ∀ g, v'.ownBlock = some g → w.heap.size ≤ g)
    (hm3 : Mod (fun b => b = V.rb) w2 w3) (hr3 : IsMap encC w3 V.rb (V.er.modify i fun e => ⟨e.k, v', e.b⟩) V.c1)
    (hm4 : Mod (fun b => b = V.ab) w3 w4) (ha4 : IsMap encSt w4 V.ab (putE (m.frm, m.call) (encC m.ch) V.c2 V.ea) (clkE (m.frm, m.call) V.c2 V.ea)) :
    ∃ V', QAt w4 p (l ++ [m]) V' ∧ QFr p w V w4 V' := by
  have hfe : findE (m.frm, m.call) V.ea 0 = none := by
    have := h.inv.at_ (m.frm, m.call)
    rw [hn] at this
    simpa using this
  unfold putE clkE at ha4
  rw [hfe] at ha4
  have hei := List.mem_of_getElem? hi
  have hold := h.old
  have hvv : ∀ g, sb v' g → sb e.v g ∨ w.heap.size ≤ g := fun g z => by
    rcases hv with y | y
    · exact .inl (by unfold sb at z ⊢; rw [← y]; exact z)
    · exact .inr (y g z)
  have hs2 := hm2.size
  have nv : ∀ g, sb v' g → g ≠ V.rb ∧ g ≠ V.ab := fun g z => by
    rcases hvv g z with y | y
    · exact ⟨(h.row_ne hei y).2.1, (h.row_ne hei y).2.2⟩
    · have h1 := hold V.rb (.inr (.inl rfl))
      have h2 := hold V.ab (.inr (.inr (.inl rfl)))
      omega
  have hei' : ∀ a ∈ V.er, ∀ g, sb a.v g → g < w.heap.size := fun a ha g z => hold g (.inr (.inr (.inr ⟨a, ha, z⟩)))
  refine ⟨{ V with er := V.er.modify i fun e => ⟨e.k, v', e.b⟩, ea := V.ea ++ [⟨(m.frm, m.call), encC m.ch, V.c2⟩], c2 := V.c2 + 1 }, ⟨?_, ?_, ?_, ?_, h.ne, h.inv.send hn hi hk hvv hei'⟩, ⟨?_, ?_⟩⟩
  · refine hm4.blk (hm3.blk (hm2.blk h.blk fun z => ?_) h.p_ne.1) h.p_ne.2
    exact (h.row_ne hei z.symm).1 rfl
  · exact hr3.mod hm4 h.ne
  · exact ha4
  · intro x hx
    obtain ⟨j, hj, rfl⟩ := List.mem_iff_getElem.1 hx
    have hjl : j < V.er.length := by rw [List.length_modify] at hj; exact hj
    rw [List.getElem_modify]
    by_cases q : i = j
    · subst q
      have e0 : V.er[i] = e := by rw [List.getElem?_eq_getElem hjl] at hi; exact Option.some.inj hi
      simp only [if_true, e0]
      rw [hk, row_app, if_pos rfl, List.flatMap_append, List.length_append]
      refine owns_mod (owns_mod ?_ hm3 fun g z => (nv g z).1) hm4 fun g z => (nv g z).2
      simpa using ho
    · rw [if_neg q]
      have hne : m.ch ≠ (V.er[j]).k := fun z => q (h.inv.rk i j e _ hi (List.getElem?_eq_getElem hjl) (hk.trans z))
      rw [row_app, if_neg hne, List.append_nil]
      have hmem : V.er[j] ∈ V.er := List.getElem_mem hjl
      refine owns_mod (owns_mod (owns_mod (h.rows _ hmem) hm2 fun g z y => ?_) hm3 fun g z => (h.row_ne hmem z).2.1) hm4 fun g z => (h.row_ne hmem z).2.2
      exact h.inv.dist i j e _ hi (List.getElem?_eq_getElem hjl) q g y.symm z
  · refine ((hm2.mono fun b _ z => ?_).trans (hm3.mono fun b _ z => ?_)).trans (hm4.mono fun b _ z => ?_)
    · exact .inr (.inr (.inr ⟨e, hei, z.symm⟩))
    · exact .inr (.inl z)
    · exact .inr (.inr (.inl z))
  · intro b q
    rcases q with q | q | q | ⟨x, hx, q⟩
    · exact .inl (.inl q)
    · exact .inl (.inr (.inl q))
    · exact .inl (.inr (.inr (.inl q)))
    · obtain ⟨j, hj, rfl⟩ := List.mem_iff_getElem.1 hx
      have hjl : j < V.er.length := by rw [List.length_modify] at hj; exact hj
      rw [List.getElem_modify] at q
      by_cases z : i = j
      · subst z
        simp only [if_true] at q
        rcases hvv b q with y | y
        · exact .inl (.inr (.inr (.inr ⟨e, hei, y⟩)))
        · exact .inr y
      · rw [if_neg z] at q
        exact .inl (.inr (.inr (.inr ⟨_, List.getElem_mem hjl, q⟩)))
theorem Send_R1 {w0 : World} {V0 : QV} {mb : Nat} {had : Bool} {ρ : Sl} (h0 : QFr p w0 V0 w V) (h : QAt w p l V) (hL : l.length ≤ 1000000) (hmb : w.heap[mb]? = some (.cells m.enc.toArray tMs (0, 0))) (hmF : ¬ V.F p mb) (hhad : had = (l.find? (Ms.isAt m.frm m.call)).isSome)
    (e0 : ρ 0 = .pointer (some ⟨p, 0, none⟩)) (e3 : ρ 3 = .pointer (some ⟨mb, 0, none⟩)) (e6 : ρ 6 = .bool had) :
    sx fn_ Try.prog 85 queue_Queue_Send_R1 (retK Try.prog [ResultVar.tmp 4] fun v w' => v = .int .i64 (sendV l m).2 ∧ ∃ V', QAt w' p (sendV l m).1 V' ∧ QFr p w0 V0 w' V') ρ w := by
  have g0 : FO Try.prog w tMs 0 0 ⟨mb, 0, none⟩ 9 (strV m.key) := FO.blk hmb (by kernel_rfl) vS rfl rfl
  have g1 : FO Try.prog w tMs 1 1 ⟨mb, 0, none⟩ 3 (.int .i64 m.frm) := FO.blk hmb (by kernel_rfl) vI rfl rfl
  have g2 : FO Try.prog w tMs 2 2 ⟨mb, 0, none⟩ 3 (.int .i64 m.to) := FO.blk hmb (by kernel_rfl) vI rfl rfl
  have g3 : FO Try.prog w tMs 3 3 ⟨mb, 0, none⟩ 3 (.int .i64 m.call) := FO.blk hmb (by kernel_rfl) vI rfl rfl
  have g4 : FO Try.prog w tMs 4 4 ⟨mb, 0, none⟩ 3 (.int .i64 m.tag) := FO.blk hmb (by kernel_rfl) vI rfl rfl
  have g6 : FO Try.prog w tMs 6 6 ⟨mb, 0, none⟩ 3 (.int .i64 m.size) := FO.blk hmb (by kernel_rfl) vI rfl rfl
  have g7 : FO Try.prog w tMs 7 7 ⟨mb, 0, none⟩ 4 (.bool m.taken) := FO.blk hmb (by kernel_rfl) vB rfl rfl
  rw [queue_Queue_Send_R1_eq]; unfold queue_Queue_Send_R1_F
  rw [e6, e3]
  have step : ∀ (ρ' : Sl) (t : Bool), ρ' 0 = ρ 0 → ρ' 3 = ρ 3 → ρ' 56 = .bool t → t = (had || badM m) → sx fn_ Try.prog 85 queue_Queue_Send_R2 (seqK (sx fn_ Try.prog 85 queue_Queue_Send_R3 (retK Try.prog [ResultVar.tmp 4] fun v w' => v = .int .i64 (sendV l m).2 ∧ ∃ V', QAt w' p (sendV l m).1 V' ∧ QFr p w0 V0 w' V')) (retK Try.prog [ResultVar.tmp 4] fun v w' => v = .int .i64 (sendV l m).2 ∧ ∃ V', QAt w' p (sendV l m).1 V' ∧ QFr p w0 V0 w' V')) ρ' w := by
    intro ρ' t a0 a3 a56 ht
    rw [queue_Queue_Send_R2_eq]; unfold queue_Queue_Send_R2_F
    rw [a56]
    unfold sendV
    rw [← hhad, ← ht]
    refine caseC (fun q => ?_) (fun q => ?_)
    · rw [q]
      exact ⟨rfl, V, h, h0⟩
    rw [q]
    simp only [Bool.false_eq_true, if_false]
    have hn : l.find? (Ms.isAt m.frm m.call) = none := by
      rw [q] at ht
      have : had = false := (Bool.or_eq_false_iff.1 ht.symm).1
      rw [hhad] at this
      simpa using this
    rw [sq_n, queue_Queue_Send_R3_eq]; unfold queue_Queue_Send_R3_F
    rw [a3, e3, g0.e, g1.e, g2.e, build_ok (cs := #[strV m.key, .int .i64 m.frm, .int .i64 m.to]) (by kernel_rfl)]
    refine al_k (cs := #[strV [], .int .i64 0, .int .i64 0]) zC_z rfl _ fun w1 hb1 hm1 hz1 => ?_
    refine stS (cs := #[strV m.key, .int .i64 m.frm, .int .i64 m.to]) (old := #[strV [], .int .i64 0, .int .i64 0]) rfl rfl (by kernel_rfl) rfl (by simp [Value.oneCell', strV]) hb1 fun w2 hb2 hm2 hz2 => ?_
    have hm02 : Mod none_ w w2 := hm1.fresh hm2 (Nat.le_refl _)
    have h2 := h.calm hm02
    have hmb2 := hm02.blk hmb id
    have hcF : ¬ V.F p w.heap.size := fun z => by have := h.old _ z; omega
    have hmlt := X.blk_lt hmb
    refine queue_Queue_Send_R4_held (D := []) (fun w' => w'.heap[p]? = some (.cells #[.map (some V.rb), .map (some V.ab)] 89 (0, 0)) ∧ w'.heap[w.heap.size]? = some (.cells #[strV m.key, .int .i64 m.frm, .int .i64 m.to] 91 (0, 0)) ∧ w'.heap[mb]? = some (.cells m.enc.toArray tMs (0, 0))) ⟨h2.blk, hb2, hmb2⟩ ?_
    have hd : Mod none_ w2 { w2 with drawn := w2.drawn + 1 } := (Mod.refl _ w2).drawn _
    generalize ({ w2 with drawn := w2.drawn + 1 } : World) = wd at *
    unfold queue_Queue_Send_R4_H
    simp only [sq_n, sq_x, sq_r, bk_n, bk_r, bk_x, rt_r, rt_n, rs_0, rs_t, pk_1, pk_2, up_at, reduceIte, Nat.reduceEqDiff, a0, e0, a3, e3]
    have hdd := h2.calm hd
    refine HN_ptr (HV_of (v := .pointer (some ⟨p, 0, none⟩)) (fun w' _ => by rw [run_fo (off := 0) (by kernel_rfl), add_pl]) ?_)
    refine HV_of (v := .map (some V.rb)) (fun w' hw => run_ld1 uR rfl (by rw [cell_blk hw.1]; rfl)) ?_
    refine HV_of (v := encC m.ch) (fun w' hw => run_ldB Try.underlying91 rfl (by kernel_rfl) hw.2.1) ?_
    refine HV_of (v := .agg m.enc.toArray) (fun w' hw => run_ldB Try.underlying39 rfl (by rw [iMs]; rfl) hw.2.2) ?_
    have SS : ∀ {w' : World} {S : Nat → Prop}, Mod S wd w' → ¬ S p → ¬ S w.heap.size → ¬ S mb → w'.heap[p]? = some (.cells #[.map (some V.rb), .map (some V.ab)] 89 (0, 0)) ∧ w'.heap[w.heap.size]? = some (.cells #[strV m.key, .int .i64 m.frm, .int .i64 m.to] 91 (0, 0)) ∧ w'.heap[mb]? = some (.cells m.enc.toArray tMs (0, 0)) := fun hm a b c => ⟨hm.blk hdd.blk a, hm.blk (hd.blk hb2 id) b, hm.blk (hd.blk hmb2 id) c⟩
    refine bs_k (cs := m.enc.toArray) (by kernel_rfl) fun w3 hb3 hm3 hz3 => ⟨SS hm3 id id id, ?_⟩
    have h3 := hdd.calm hm3
    obtain ⟨w4, V1, i, e, hrun, h4, hei, hek, r1, r2, r3, r4, hm4, hF⟩ := entry_ok h3 m.ch
    have nrb : ∀ {b : Nat}, ¬ V.F p b → ¬ (fun x => x = V.rb) b := fun {b} q z => q (.inr (.inl z))
    have hm34 : Mod (fun b => b = V.rb) wd w4 := (hm3.mono fun _ _ z => z.elim).trans hm4
    refine VK_of hrun ⟨SS hm34 h.p_ne.1 (nrb hcF) (nrb hmF), ?_⟩
    refine HV_of (v := e.v) (fun _ _ => rfl) (HV_of (v := goInt e.b) (fun _ _ => rfl) ?_)
    have hem := List.mem_of_getElem? hei
    have hown := h4.rows e hem
    rw [hek] at hown
    have hrl := row_len l m.ch
    have hb4 : w4.heap[wd.heap.size]? = some (.cells m.enc.toArray tMs (0, 0)) := hm4.blk hb3 fun z => by
      have := (hdd.old V.rb (.inr (.inl rfl)))
      omega
    refine ap_any eMsS hown (reads_blk (size := 8) (n := 1) hb4 rfl) (fun u hu => Ms.enc_mem [m] u (by simpa using hu)) (by unfold maxLen; omega) (by omega) (Nat.zero_le _) fun v' w5 ho5 hm5 hv5 => ?_
    have hsz5 := hm5.size
    have ne5 : ∀ {b : Nat}, ¬ V.F p b → ¬ (fun k => some k = e.v.ownBlock) b := fun {b} q z => q (hF b (.inr (.inr (.inr ⟨e, hem, z.symm⟩))))
    have hpe : ¬ (fun k => some k = e.v.ownBlock) p := fun z => (h4.row_ne hem z.symm).1 rfl
    have cb4 := hm34.blk (hd.blk hb2 id) (nrb hcF)
    have mb4 := hm34.blk (hd.blk hmb2 id) (nrb hmF)
    have pb4 := h4.blk
    rw [r1, r2] at pb4
    refine ⟨⟨hm5.blk pb4 hpe, hm5.blk cb4 (ne5 hcF), hm5.blk mb4 (ne5 hmF)⟩, ?_⟩
    have hr5 : IsMap encC w5 V1.rb V1.er V1.c1 := h4.rm.mod hm5 fun z => (h4.row_ne hem z.symm).2.1 rfl
    obtain ⟨w6, hrun6, hr6, hm6⟩ := run_estore (t := 86) (P := Try.prog) hr5 hei (fun j x hj hx => h4.inv.rb j i x e hj hei hx) v'
    rw [r1] at hrun6
    refine UK_of hrun6 ?_
    have hm6' : Mod (fun b => b = V.rb) w5 w6 := hm6.mono fun b _ z => by rw [← r1]; exact z
    have pb6 := hm6'.blk (hm5.blk pb4 hpe) h.p_ne.1
    have cb6 := hm6'.blk (hm5.blk cb4 (ne5 hcF)) (nrb hcF)
    have mb6 := hm6'.blk (hm5.blk mb4 (ne5 hmF)) (nrb hmF)
    refine ⟨⟨pb6, cb6, mb6⟩, ?_⟩
    rw [queue_Queue_Send_R5_eq]; unfold queue_Queue_Send_R5_F
    refine queue_Queue_Send_R6_tail (D := []) ?_
    have hd6 : Mod none_ w6 { w6 with drawn := w6.drawn + 1 } := (Mod.refl _ w6).drawn _
    generalize ({ w6 with drawn := w6.drawn + 1 } : World) = w7 at *
    unfold queue_Queue_Send_R6_T
    simp only [sq_n, sq_x, sq_r, bk_n, bk_r, bk_x, rt_r, rt_n, rs_0, rs_t, pk_1, pk_2, up_at, reduceIte, Nat.reduceEqDiff, a0, e0, a3, e3]
    have pb7 := hd6.blk pb6 id
    have cb7 := hd6.blk cb6 id
    have mb7 := hd6.blk mb6 id
    refine QN_ptr (Qfo (off := 1) (by kernel_rfl) (Qld uA rfl (v := .map (some V.ab)) (fun w' hw => by rw [hw, add_pl, cell_blk pb7]; rfl) ?_))
    refine Qfo (off := 1) (by kernel_rfl) (Qld vI rfl (v := .int .i64 m.frm) (fun w' hw => by rw [hw, add_pl, cell_blk mb7]; rfl) ?_)
    refine Qfo (off := 3) (by kernel_rfl) (Qld vI rfl (v := .int .i64 m.call) (fun w' hw => by rw [hw, add_pl, cell_blk mb7]; rfl) ?_)
    refine QV_of (v := encSt (m.frm, m.call)) (fun w' _ => run_build (P := Try.prog) w' _ _ _ (by kernel_rfl)) ?_
    refine QV_of (v := encC m.ch) (fun w' hw => by rw [hw]; exact run_ldB Try.underlying91 rfl (by kernel_rfl) cb7) ?_
    have ha7 : IsMap encSt w7 V.ab V1.ea V1.c2 := by
      rw [← r2]
      refine ((h4.am.mod hm5 fun z => (h4.row_ne hem z.symm).2.2 rfl).mod hm6 fun z => h4.ne z.symm).mod hd6 id
    obtain ⟨w8, hrun8, ha8, hm8⟩ := run_put KS uA ha7 (m.frm, m.call) (encC m.ch)
    refine UK_of hrun8 ?_
    rw [queue_Queue_Send_R7_eq]; unfold queue_Queue_Send_R7_F
    have hn4 := hn
    obtain ⟨V', hA, hFr⟩ := sent_at (w := w4) (w2 := w5) (w3 := w7) (w4 := w8) h4 hn hei hek (v' := v') (by simpa using ho5) hm5 (hv5.imp id fun z g y => by rw [z] at y; injection y with y; omega) ((hm6.trans (hd6.mono fun _ _ z => z.elim))) (hr6.mod hd6 id) (by rw [r2]; exact hm8) (by rw [r2]; exact ha8)
    refine ⟨rfl, V', hA, ?_⟩
    have hF1 : QFr p w V w4 V1 := ⟨((hm02.trans hd).mono fun _ _ z => z.elim).trans (hm34.mono fun b _ z => .inr (.inl z)), fun b z => .inl (hF b z)⟩
    exact (h0.trans hF1).trans hFr
  have hb : ∀ {n a b : Int} {w : World} {x : Bool}, x = (decide (a ≤ n) && decide (n ≤ b)) → Rt Try.prog 50 #[.int .i64 n, .int .i64 a, .int .i64 b] w fun v w' => v = .bool x ∧ w' = w := fun {n a b w x} e => by rw [e]; exact in_ok n a b w
  cases hh : had with
  | true =>
    simp only [↓VG_u, ↓UG_u, ↓MG_u, ↓NG_u, ↓PG_u, ↓BG_u, ↓CG_u, ↓IG_u, ↓VGtt, ↓VGtf, ↓VGft, ↓VGff, ↓UGtt, ↓UGtf, ↓UGft, ↓UGff, ↓MGtt, ↓MGtf, ↓MGft, ↓MGff, ↓NGtt, ↓NGtf, ↓NGft, ↓NGff, ↓PGtt, ↓PGtf, ↓PGft, ↓PGff, ↓BGtt, ↓BGtf, ↓BGft, ↓BGff, ↓CGtt, ↓CGtf, ↓CGft, ↓CGff, ↓IGtt, ↓IGtf, ↓IGft, ↓IGff, ↓PKt, ↓PKf, ↓CDt, ↓CDf, ↓NOTt, ↓NOTf, ↓NK_ptr]
    exact step _ true rfl rfl rfl (by rw [hh]; rfl)
  | false =>
    simp only [↓VG_u, ↓UG_u, ↓MG_u, ↓NG_u, ↓PG_u, ↓BG_u, ↓CG_u, ↓IG_u, ↓VGtt, ↓VGtf, ↓VGft, ↓VGff, ↓UGtt, ↓UGtf, ↓UGft, ↓UGff, ↓MGtt, ↓MGtf, ↓MGft, ↓MGff, ↓NGtt, ↓NGtf, ↓NGft, ↓NGff, ↓PGtt, ↓PGtf, ↓PGft, ↓PGff, ↓BGtt, ↓BGtf, ↓BGft, ↓BGff, ↓CGtt, ↓CGtf, ↓CGft, ↓CGff, ↓IGtt, ↓IGtf, ↓IGft, ↓IGff, ↓PKt, ↓PKf, ↓CDt, ↓CDf, ↓NOTt, ↓NOTf, ↓NK_ptr]
    rw [g7.e]
    try simp only [↓VG_u, ↓UG_u, ↓MG_u, ↓NG_u, ↓PG_u, ↓BG_u, ↓CG_u, ↓IG_u, ↓VGtt, ↓VGtf, ↓VGft, ↓VGff, ↓UGtt, ↓UGtf, ↓UGft, ↓UGff, ↓MGtt, ↓MGtf, ↓MGft, ↓MGff, ↓NGtt, ↓NGtf, ↓NGft, ↓NGff, ↓PGtt, ↓PGtf, ↓PGft, ↓PGff, ↓BGtt, ↓BGtf, ↓BGft, ↓BGff, ↓CGtt, ↓CGtf, ↓CGft, ↓CGff, ↓IGtt, ↓IGtf, ↓IGft, ↓IGff, ↓PKt, ↓PKf, ↓CDt, ↓CDf, ↓NOTt, ↓NOTf, ↓NK_ptr]
    cases h7 : m.taken with
    | true =>
      simp only [↓VG_u, ↓UG_u, ↓MG_u, ↓NG_u, ↓PG_u, ↓BG_u, ↓CG_u, ↓IG_u, ↓VGtt, ↓VGtf, ↓VGft, ↓VGff, ↓UGtt, ↓UGtf, ↓UGft, ↓UGff, ↓MGtt, ↓MGtf, ↓MGft, ↓MGff, ↓NGtt, ↓NGtf, ↓NGft, ↓NGff, ↓PGtt, ↓PGtf, ↓PGft, ↓PGff, ↓BGtt, ↓BGtf, ↓BGft, ↓BGff, ↓CGtt, ↓CGtf, ↓CGft, ↓CGff, ↓IGtt, ↓IGtf, ↓IGft, ↓IGff, ↓PKt, ↓PKf, ↓CDt, ↓CDf, ↓NOTt, ↓NOTf, ↓NK_ptr]
      exact step _ true rfl rfl rfl (by rw [hh]; simp [badM, h7])
    | false =>
      simp only [↓VG_u, ↓UG_u, ↓MG_u, ↓NG_u, ↓PG_u, ↓BG_u, ↓CG_u, ↓IG_u, ↓VGtt, ↓VGtf, ↓VGft, ↓VGff, ↓UGtt, ↓UGtf, ↓UGft, ↓UGff, ↓MGtt, ↓MGtf, ↓MGft, ↓MGff, ↓NGtt, ↓NGtf, ↓NGft, ↓NGff, ↓PGtt, ↓PGtf, ↓PGft, ↓PGff, ↓BGtt, ↓BGtf, ↓BGft, ↓BGff, ↓CGtt, ↓CGtf, ↓CGft, ↓CGff, ↓IGtt, ↓IGtf, ↓IGft, ↓IGff, ↓PKt, ↓PKf, ↓CDt, ↓CDf, ↓NOTt, ↓NOTf, ↓NK_ptr]
      rw [g1.e]
      try simp only [↓VG_u, ↓UG_u, ↓MG_u, ↓NG_u, ↓PG_u, ↓BG_u, ↓CG_u, ↓IG_u, ↓VGtt, ↓VGtf, ↓VGft, ↓VGff, ↓UGtt, ↓UGtf, ↓UGft, ↓UGff, ↓MGtt, ↓MGtf, ↓MGft, ↓MGff, ↓NGtt, ↓NGtf, ↓NGft, ↓NGff, ↓PGtt, ↓PGtf, ↓PGft, ↓PGff, ↓BGtt, ↓BGtf, ↓BGft, ↓BGff, ↓CGtt, ↓CGtf, ↓CGft, ↓CGff, ↓IGtt, ↓IGtf, ↓IGft, ↓IGff, ↓PKt, ↓PKf, ↓CDt, ↓CDf, ↓NOTt, ↓NOTf, ↓NK_ptr]
      cases b1 : (decide (0 ≤ m.frm) && decide (m.frm ≤ 63)) with
      | false =>
        refine CK_st Try.func50 rfl rfl (hb b1.symm) ?_
        rintro _ w' ⟨rfl, rfl⟩
        simp only [↓VG_u, ↓UG_u, ↓MG_u, ↓NG_u, ↓PG_u, ↓BG_u, ↓CG_u, ↓IG_u, ↓VGtt, ↓VGtf, ↓VGft, ↓VGff, ↓UGtt, ↓UGtf, ↓UGft, ↓UGff, ↓MGtt, ↓MGtf, ↓MGft, ↓MGff, ↓NGtt, ↓NGtf, ↓NGft, ↓NGff, ↓PGtt, ↓PGtf, ↓PGft, ↓PGff, ↓BGtt, ↓BGtf, ↓BGft, ↓BGff, ↓CGtt, ↓CGtf, ↓CGft, ↓CGff, ↓IGtt, ↓IGtf, ↓IGft, ↓IGff, ↓PKt, ↓PKf, ↓CDt, ↓CDf, ↓NOTt, ↓NOTf, ↓NK_ptr]
        exact step _ true rfl rfl rfl (by rw [hh]; simp only [badM, b1, Bool.not_false, Bool.or_true, Bool.true_or])
      | true =>
        refine CK_st Try.func50 rfl rfl (hb b1.symm) ?_
        rintro _ w' ⟨rfl, rfl⟩
        simp only [↓VG_u, ↓UG_u, ↓MG_u, ↓NG_u, ↓PG_u, ↓BG_u, ↓CG_u, ↓IG_u, ↓VGtt, ↓VGtf, ↓VGft, ↓VGff, ↓UGtt, ↓UGtf, ↓UGft, ↓UGff, ↓MGtt, ↓MGtf, ↓MGft, ↓MGff, ↓NGtt, ↓NGtf, ↓NGft, ↓NGff, ↓PGtt, ↓PGtf, ↓PGft, ↓PGff, ↓BGtt, ↓BGtf, ↓BGft, ↓BGff, ↓CGtt, ↓CGtf, ↓CGft, ↓CGff, ↓IGtt, ↓IGtf, ↓IGft, ↓IGff, ↓PKt, ↓PKf, ↓CDt, ↓CDf, ↓NOTt, ↓NOTf, ↓NK_ptr]
        rw [g2.e]
        try simp only [↓VG_u, ↓UG_u, ↓MG_u, ↓NG_u, ↓PG_u, ↓BG_u, ↓CG_u, ↓IG_u, ↓VGtt, ↓VGtf, ↓VGft, ↓VGff, ↓UGtt, ↓UGtf, ↓UGft, ↓UGff, ↓MGtt, ↓MGtf, ↓MGft, ↓MGff, ↓NGtt, ↓NGtf, ↓NGft, ↓NGff, ↓PGtt, ↓PGtf, ↓PGft, ↓PGff, ↓BGtt, ↓BGtf, ↓BGft, ↓BGff, ↓CGtt, ↓CGtf, ↓CGft, ↓CGff, ↓IGtt, ↓IGtf, ↓IGft, ↓IGff, ↓PKt, ↓PKf, ↓CDt, ↓CDf, ↓NOTt, ↓NOTf, ↓NK_ptr]
        cases b2 : (decide (0 ≤ m.to) && decide (m.to ≤ 63)) with
        | false =>
          refine CK_st Try.func50 rfl rfl (hb b2.symm) ?_
          rintro _ w' ⟨rfl, rfl⟩
          simp only [↓VG_u, ↓UG_u, ↓MG_u, ↓NG_u, ↓PG_u, ↓BG_u, ↓CG_u, ↓IG_u, ↓VGtt, ↓VGtf, ↓VGft, ↓VGff, ↓UGtt, ↓UGtf, ↓UGft, ↓UGff, ↓MGtt, ↓MGtf, ↓MGft, ↓MGff, ↓NGtt, ↓NGtf, ↓NGft, ↓NGff, ↓PGtt, ↓PGtf, ↓PGft, ↓PGff, ↓BGtt, ↓BGtf, ↓BGft, ↓BGff, ↓CGtt, ↓CGtf, ↓CGft, ↓CGff, ↓IGtt, ↓IGtf, ↓IGft, ↓IGff, ↓PKt, ↓PKf, ↓CDt, ↓CDf, ↓NOTt, ↓NOTf, ↓NK_ptr]
          exact step _ true rfl rfl rfl (by rw [hh]; simp only [badM, b2, Bool.not_false, Bool.or_true, Bool.true_or])
        | true =>
          refine CK_st Try.func50 rfl rfl (hb b2.symm) ?_
          rintro _ w' ⟨rfl, rfl⟩
          simp only [↓VG_u, ↓UG_u, ↓MG_u, ↓NG_u, ↓PG_u, ↓BG_u, ↓CG_u, ↓IG_u, ↓VGtt, ↓VGtf, ↓VGft, ↓VGff, ↓UGtt, ↓UGtf, ↓UGft, ↓UGff, ↓MGtt, ↓MGtf, ↓MGft, ↓MGff, ↓NGtt, ↓NGtf, ↓NGft, ↓NGff, ↓PGtt, ↓PGtf, ↓PGft, ↓PGff, ↓BGtt, ↓BGtf, ↓BGft, ↓BGff, ↓CGtt, ↓CGtf, ↓CGft, ↓CGff, ↓IGtt, ↓IGtf, ↓IGft, ↓IGff, ↓PKt, ↓PKf, ↓CDt, ↓CDf, ↓NOTt, ↓NOTf, ↓NK_ptr]
          rw [g3.e]
          try simp only [↓VG_u, ↓UG_u, ↓MG_u, ↓NG_u, ↓PG_u, ↓BG_u, ↓CG_u, ↓IG_u, ↓VGtt, ↓VGtf, ↓VGft, ↓VGff, ↓UGtt, ↓UGtf, ↓UGft, ↓UGff, ↓MGtt, ↓MGtf, ↓MGft, ↓MGff, ↓NGtt, ↓NGtf, ↓NGft, ↓NGff, ↓PGtt, ↓PGtf, ↓PGft, ↓PGff, ↓BGtt, ↓BGtf, ↓BGft, ↓BGff, ↓CGtt, ↓CGtf, ↓CGft, ↓CGff, ↓IGtt, ↓IGtf, ↓IGft, ↓IGff, ↓PKt, ↓PKf, ↓CDt, ↓CDf, ↓NOTt, ↓NOTf, ↓NK_ptr]
          by_cases b3 : m.call < 0
          · simp only [↓VG_u, ↓UG_u, ↓MG_u, ↓NG_u, ↓PG_u, ↓BG_u, ↓CG_u, ↓IG_u, ↓VGtt, ↓VGtf, ↓VGft, ↓VGff, ↓UGtt, ↓UGtf, ↓UGft, ↓UGff, ↓MGtt, ↓MGtf, ↓MGft, ↓MGff, ↓NGtt, ↓NGtf, ↓NGft, ↓NGff, ↓PGtt, ↓PGtf, ↓PGft, ↓PGff, ↓BGtt, ↓BGtf, ↓BGft, ↓BGff, ↓CGtt, ↓CGtf, ↓CGft, ↓CGff, ↓IGtt, ↓IGtf, ↓IGft, ↓IGff, ↓PKt, ↓PKf, ↓CDt, ↓CDf, ↓NOTt, ↓NOTf, ↓NK_ptr, ↓LTt b3]
            exact step _ true rfl rfl rfl (by rw [hh]; simp [badM, b3])
          · simp only [↓VG_u, ↓UG_u, ↓MG_u, ↓NG_u, ↓PG_u, ↓BG_u, ↓CG_u, ↓IG_u, ↓VGtt, ↓VGtf, ↓VGft, ↓VGff, ↓UGtt, ↓UGtf, ↓UGft, ↓UGff, ↓MGtt, ↓MGtf, ↓MGft, ↓MGff, ↓NGtt, ↓NGtf, ↓NGft, ↓NGff, ↓PGtt, ↓PGtf, ↓PGft, ↓PGff, ↓BGtt, ↓BGtf, ↓BGft, ↓BGff, ↓CGtt, ↓CGtf, ↓CGft, ↓CGff, ↓IGtt, ↓IGtf, ↓IGft, ↓IGff, ↓PKt, ↓PKf, ↓CDt, ↓CDf, ↓NOTt, ↓NOTf, ↓NK_ptr, ↓LTf (Int.not_lt.1 b3)]
            rw [g4.e]
            try simp only [↓VG_u, ↓UG_u, ↓MG_u, ↓NG_u, ↓PG_u, ↓BG_u, ↓CG_u, ↓IG_u, ↓VGtt, ↓VGtf, ↓VGft, ↓VGff, ↓UGtt, ↓UGtf, ↓UGft, ↓UGff, ↓MGtt, ↓MGtf, ↓MGft, ↓MGff, ↓NGtt, ↓NGtf, ↓NGft, ↓NGff, ↓PGtt, ↓PGtf, ↓PGft, ↓PGff, ↓BGtt, ↓BGtf, ↓BGft, ↓BGff, ↓CGtt, ↓CGtf, ↓CGft, ↓CGff, ↓IGtt, ↓IGtf, ↓IGft, ↓IGff, ↓PKt, ↓PKf, ↓CDt, ↓CDf, ↓NOTt, ↓NOTf, ↓NK_ptr]
            cases b4 : (decide (0 ≤ m.tag) && decide (m.tag ≤ 32767)) with
            | false =>
              refine CK_st Try.func50 rfl rfl (hb b4.symm) ?_
              rintro _ w' ⟨rfl, rfl⟩
              simp only [↓VG_u, ↓UG_u, ↓MG_u, ↓NG_u, ↓PG_u, ↓BG_u, ↓CG_u, ↓IG_u, ↓VGtt, ↓VGtf, ↓VGft, ↓VGff, ↓UGtt, ↓UGtf, ↓UGft, ↓UGff, ↓MGtt, ↓MGtf, ↓MGft, ↓MGff, ↓NGtt, ↓NGtf, ↓NGft, ↓NGff, ↓PGtt, ↓PGtf, ↓PGft, ↓PGff, ↓BGtt, ↓BGtf, ↓BGft, ↓BGff, ↓CGtt, ↓CGtf, ↓CGft, ↓CGff, ↓IGtt, ↓IGtf, ↓IGft, ↓IGff, ↓PKt, ↓PKf, ↓CDt, ↓CDf, ↓NOTt, ↓NOTf, ↓NK_ptr]
              exact step _ true rfl rfl rfl (by rw [hh]; simp only [badM, b4, Bool.not_false, Bool.or_true, Bool.true_or])
            | true =>
              refine CK_st Try.func50 rfl rfl (hb b4.symm) ?_
              rintro _ w' ⟨rfl, rfl⟩
              simp only [↓VG_u, ↓UG_u, ↓MG_u, ↓NG_u, ↓PG_u, ↓BG_u, ↓CG_u, ↓IG_u, ↓VGtt, ↓VGtf, ↓VGft, ↓VGff, ↓UGtt, ↓UGtf, ↓UGft, ↓UGff, ↓MGtt, ↓MGtf, ↓MGft, ↓MGff, ↓NGtt, ↓NGtf, ↓NGft, ↓NGff, ↓PGtt, ↓PGtf, ↓PGft, ↓PGff, ↓BGtt, ↓BGtf, ↓BGft, ↓BGff, ↓CGtt, ↓CGtf, ↓CGft, ↓CGff, ↓IGtt, ↓IGtf, ↓IGft, ↓IGff, ↓PKt, ↓PKf, ↓CDt, ↓CDf, ↓NOTt, ↓NOTf, ↓NK_ptr]
              rw [g6.e]
              try simp only [↓VG_u, ↓UG_u, ↓MG_u, ↓NG_u, ↓PG_u, ↓BG_u, ↓CG_u, ↓IG_u, ↓VGtt, ↓VGtf, ↓VGft, ↓VGff, ↓UGtt, ↓UGtf, ↓UGft, ↓UGff, ↓MGtt, ↓MGtf, ↓MGft, ↓MGff, ↓NGtt, ↓NGtf, ↓NGft, ↓NGff, ↓PGtt, ↓PGtf, ↓PGft, ↓PGff, ↓BGtt, ↓BGtf, ↓BGft, ↓BGff, ↓CGtt, ↓CGtf, ↓CGft, ↓CGff, ↓IGtt, ↓IGtf, ↓IGft, ↓IGff, ↓PKt, ↓PKf, ↓CDt, ↓CDf, ↓NOTt, ↓NOTf, ↓NK_ptr]
              cases b6 : (decide (1 ≤ m.size) && decide (m.size ≤ 64)) with
              | false =>
                refine CK_st Try.func50 rfl rfl (hb b6.symm) ?_
                rintro _ w' ⟨rfl, rfl⟩
                simp only [↓VG_u, ↓UG_u, ↓MG_u, ↓NG_u, ↓PG_u, ↓BG_u, ↓CG_u, ↓IG_u, ↓VGtt, ↓VGtf, ↓VGft, ↓VGff, ↓UGtt, ↓UGtf, ↓UGft, ↓UGff, ↓MGtt, ↓MGtf, ↓MGft, ↓MGff, ↓NGtt, ↓NGtf, ↓NGft, ↓NGff, ↓PGtt, ↓PGtf, ↓PGft, ↓PGff, ↓BGtt, ↓BGtf, ↓BGft, ↓BGff, ↓CGtt, ↓CGtf, ↓CGft, ↓CGff, ↓IGtt, ↓IGtf, ↓IGft, ↓IGff, ↓PKt, ↓PKf, ↓CDt, ↓CDf, ↓NOTt, ↓NOTf, ↓NK_ptr]
                exact step _ true rfl rfl rfl (by rw [hh]; simp only [badM, b6, Bool.not_false, Bool.or_true])
              | true =>
                refine CK_st Try.func50 rfl rfl (hb b6.symm) ?_
                rintro _ w' ⟨rfl, rfl⟩
                simp only [↓VG_u, ↓UG_u, ↓MG_u, ↓NG_u, ↓PG_u, ↓BG_u, ↓CG_u, ↓IG_u, ↓VGtt, ↓VGtf, ↓VGft, ↓VGff, ↓UGtt, ↓UGtf, ↓UGft, ↓UGff, ↓MGtt, ↓MGtf, ↓MGft, ↓MGff, ↓NGtt, ↓NGtf, ↓NGft, ↓NGff, ↓PGtt, ↓PGtf, ↓PGft, ↓PGff, ↓BGtt, ↓BGtf, ↓BGft, ↓BGff, ↓CGtt, ↓CGtf, ↓CGft, ↓CGff, ↓IGtt, ↓IGtf, ↓IGft, ↓IGff, ↓PKt, ↓PKf, ↓CDt, ↓CDf, ↓NOTt, ↓NOTf, ↓NK_ptr]
                exact step _ false rfl rfl rfl (by rw [hh]; simp only [badM, h7, b1, b2, b4, b6, decide_eq_false b3, Bool.not_true, Bool.or_false])
end
end Go.Proofs.Ytmnkedgmpbcicaa.Que
