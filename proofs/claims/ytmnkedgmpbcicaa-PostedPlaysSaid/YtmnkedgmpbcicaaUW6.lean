/- Several texts of this repo, one behind the other, without what is not used here. -/
import Derived.Test.YtmnkedgmpbcicaaProg
import Derived.Test.YtmnkedgmpbcicaaUW5
set_option linter.unusedVariables false
set_option maxRecDepth 100000
namespace Go.Proofs.Ytmnkedgmpbcicaa.XI
open Go Go.X
noncomputable def dispatcherlaw14_play_does_b : Code := (Try.f30.body).getD .skip
noncomputable def dispatcherlaw14_play_does_R0 : Code := cAt [1, 0, 1, 0, 1] dispatcherlaw14_play_does_b
noncomputable def dispatcherlaw14_play_does_R1 : Code := cAt [1, 1] dispatcherlaw14_play_does_b
noncomputable def dispatcherlaw14_play_does_R2 : Code := cAt [1, 0, 1, 0, 1, 0, 0] dispatcherlaw14_play_does_b
noncomputable def dispatcherlaw14_play_does_R3 : Code := cAt [1, 0, 1, 0, 1, 0, 1] dispatcherlaw14_play_does_b
noncomputable def dispatcherlaw14_play_does_R4 : Code := cAt [1, 0, 1, 0, 1, 1, 1, 0, 0] dispatcherlaw14_play_does_b
noncomputable def dispatcherlaw14_play_does_R5 : Code := cAt [1, 0, 1, 0, 1, 1, 1, 0, 1] dispatcherlaw14_play_does_b
noncomputable def dispatcherlaw14_play_does_R6 : Code := cAt [1, 0, 1, 0, 1, 1, 1, 1, 1, 0, 0] dispatcherlaw14_play_does_b
noncomputable def dispatcherlaw14_play_does_R7 : Code := cAt [1, 0, 1, 0, 1, 1, 1, 1, 1, 0, 1] dispatcherlaw14_play_does_b
noncomputable def dispatcherlaw14_play_does_R8 : Code := cAt [1, 1, 0] dispatcherlaw14_play_does_b
noncomputable def dispatcherlaw14_play_does_R9 : Code := cAt [1, 1, 1] dispatcherlaw14_play_does_b
noncomputable def dispatcherlaw14_play_does_R10 : Code := cAt [1, 1, 1, 1, 0] dispatcherlaw14_play_does_b
noncomputable def dispatcherlaw14_play_does_R11 : Code := cAt [1, 1, 1, 1, 1] dispatcherlaw14_play_does_b
noncomputable def dispatcherlaw14_play_does_R0_F (z : At) (K : Exit → Sl → World → Prop) (ρ : Sl) (w : World) : Prop :=
  CondK (ρ 10) (W z Try.prog 150 dispatcherlaw14_play_does_R2 (seqK (sx z Try.prog 150 dispatcherlaw14_play_does_R3 K) K) ρ w) (BK Try.prog .eql 5 (.tmp 9) (.const (Value.int .u8 2)) (ρ 9) (Value.int .u8 2) w fun x29 w => CondK x29 (W z Try.prog 150 dispatcherlaw14_play_does_R4 (seqK (sx z Try.prog 150 dispatcherlaw14_play_does_R5 K) K) (up (up ρ 29 x29) 28 x29) w) (BK Try.prog .eql 5 (.tmp 9) (.const (Value.int .u8 3)) (ρ 9) (Value.int .u8 3) w fun x46 w => CondK x46 (W z Try.prog 150 dispatcherlaw14_play_does_R6 (seqK (sx z Try.prog 150 dispatcherlaw14_play_does_R7 K) K) (up (up (up (up ρ 29 x29) 28 x29) 46 x46) 45 x46) w) (K .normal (up (up (up (up ρ 29 x29) 28 x29) 46 x46) 45 x46) w)))
theorem dispatcherlaw14_play_does_R0_eq (z : At) (K : Exit → Sl → World → Prop) (ρ : Sl) (w : World) : sx z Try.prog 150 dispatcherlaw14_play_does_R0 K ρ w = dispatcherlaw14_play_does_R0_F z K ρ w := by kernel_rfl
noncomputable def dispatcherlaw14_play_does_R1_F (z : At) (K : Exit → Sl → World → Prop) (ρ : Sl) (w : World) : Prop :=
  W z Try.prog 150 dispatcherlaw14_play_does_R8 (seqK (sx z Try.prog 150 dispatcherlaw14_play_does_R9 K) K) ρ w
theorem dispatcherlaw14_play_does_R1_eq (z : At) (K : Exit → Sl → World → Prop) (ρ : Sl) (w : World) : sx z Try.prog 150 dispatcherlaw14_play_does_R1 K ρ w = dispatcherlaw14_play_does_R1_F z K ρ w := by kernel_rfl
noncomputable def dispatcherlaw14_play_does_R2_ops : Array Oper := opsOf dispatcherlaw14_play_does_R2
def dispatcherlaw14_play_does_R2_H0 (S : World → Prop) (K : Sl → World → Prop) (ρ : Sl) (w : World) : Prop :=
  HK Try.prog S (nilCk (ρ 0)) fun x14_2 => HK Try.prog S (do pure (Next.value (← Instr.fieldAt 69 x14_2 0))) fun x15_2 => HK Try.prog S (do pure (Next.value (← Instr.loadAt 27 x15_2))) fun x16_2 => HK Try.prog S (do pure (Next.value (← Instr.fieldAt 48 (ρ 3) 1))) fun x17_2 => HK Try.prog S (do pure (Next.value (← Instr.loadAt 39 x17_2))) fun x18_2 => HK Try.prog S (nilCk (ρ 0)) fun x21_2 => HK Try.prog S (do pure (Next.value (← Instr.fieldAt 69 x21_2 2))) fun x22_2 => HK Try.prog S (do pure (Next.value (← Instr.loadAt 66 x22_2))) fun x23_2 => HK Try.prog S (do pure (Next.value (← Instr.fieldAt 48 (ρ 3) 1))) fun x24_2 => HK Try.prog S (do pure (Next.value (← Instr.loadAt 39 x24_2))) fun x25_2 => K (up (up (up (up (up (up (up (up (up (up (up (up ρ 13 (ρ 0)) 14 x14_2) 15 x15_2) 16 x16_2) 17 x17_2) 18 x18_2) 20 (ρ 0)) 21 x21_2) 22 x22_2) 23 x23_2) 24 x24_2) 25 x25_2) w
theorem dispatcherlaw14_play_does_R2_q0 (S : World → Prop) (K : Sl → World → Prop) : sxh Try.prog S dispatcherlaw14_play_does_R2_ops K [(0, true), (1, true), (2, true), (3, true), (4, true), (5, true), (7, true), (8, true), (9, true), (10, true), (11, true), (12, true)] = dispatcherlaw14_play_does_R2_H0 S K := by kernel_rfl
def dispatcherlaw14_play_does_R2_H1 (S : World → Prop) (K : Sl → World → Prop) (ρ : Sl) (w : World) : Prop :=
  CK Try.prog (Value.func (Fn.func 25) #[] #[]) [(ρ 16), (ρ 18)] w fun x19_2 w => S w ∧ (CK Try.prog (Value.func (Fn.func 52) #[] #[]) [(ρ 23), (ρ 25)] w fun x26_2 w => S w ∧ (HK Try.prog S (do pure (Next.value (← (do eqGuard BinOp.eql 3 (Operand.tmp 19) (Operand.tmp 26) x19_2 x26_2; binOp BinOp.eql 3 x19_2 x26_2)))) fun x27_2 => K (up (up (up (up ρ 19 x19_2) 26 x26_2) 27 x27_2) 4 x27_2) w))
theorem dispatcherlaw14_play_does_R2_q1 (S : World → Prop) (K : Sl → World → Prop) : sxh Try.prog S dispatcherlaw14_play_does_R2_ops K [(6, false), (13, false), (14, true), (15, true)] = dispatcherlaw14_play_does_R2_H1 S K := by kernel_rfl
def dispatcherlaw14_play_does_R2_H (S : World → Prop) (K : Exit → Sl → World → Prop) (ρ : Sl) (w : World) : Prop :=
  dispatcherlaw14_play_does_R2_H0 S (dispatcherlaw14_play_does_R2_H1 S (K .normal)) ρ w
theorem dispatcherlaw14_play_does_R2_steps : planOk Try.prog 150 dispatcherlaw14_play_does_R2_ops [(0, true), (1, true), (2, true), (3, true), (4, true), (5, true), (7, true), (8, true), (9, true), (10, true), (11, true), (12, true), (6, false), (13, false), (14, true), (15, true)] (Array.replicate dispatcherlaw14_play_does_R2_ops.size false) = true :=
  by kernel_rfl
theorem dispatcherlaw14_play_does_R2_held {D : List Deferred} (S : World → Prop) {K : Exit → Sl → World → Prop} {ρ : Sl} {w : World} (hS : S { w with drawn := w.drawn + 1 }) (h : dispatcherlaw14_play_does_R2_H S K ρ { w with drawn := w.drawn + 1 }) : W ⟨none, D⟩ Try.prog 150 dispatcherlaw14_play_does_R2 K ρ w := by
  have e : dispatcherlaw14_play_does_R2 = .region (idOf dispatcherlaw14_play_does_R2) dispatcherlaw14_play_does_R2_ops true := by kernel_rfl
  have q : sxh Try.prog S dispatcherlaw14_play_does_R2_ops (K .normal) [(0, true), (1, true), (2, true), (3, true), (4, true), (5, true), (7, true), (8, true), (9, true), (10, true), (11, true), (12, true), (6, false), (13, false), (14, true), (15, true)] ρ { w with drawn := w.drawn + 1 } = dispatcherlaw14_play_does_R2_H S K ρ { w with drawn := w.drawn + 1 } := by
    show sxh Try.prog S dispatcherlaw14_play_does_R2_ops (K .normal) ([(0, true), (1, true), (2, true), (3, true), (4, true), (5, true), (7, true), (8, true), (9, true), (10, true), (11, true), (12, true)] ++ [(6, false), (13, false), (14, true), (15, true)]) ρ { w with drawn := w.drawn + 1 } = _
    rw [sxh_append, dispatcherlaw14_play_does_R2_q1, dispatcherlaw14_play_does_R2_q0]; rfl
  rw [e]
  exact W_held S [(0, true), (1, true), (2, true), (3, true), (4, true), (5, true), (7, true), (8, true), (9, true), (10, true), (11, true), (12, true), (6, false), (13, false), (14, true), (15, true)] (by kernel_rfl) (by kernel_rfl) dispatcherlaw14_play_does_R2_steps (by kernel_rfl) hS (Eq.mpr q h)
noncomputable def dispatcherlaw14_play_does_R3_F (z : At) (K : Exit → Sl → World → Prop) (ρ : Sl) (w : World) : Prop :=
  K .ret ρ w
theorem dispatcherlaw14_play_does_R3_eq (z : At) (K : Exit → Sl → World → Prop) (ρ : Sl) (w : World) : sx z Try.prog 150 dispatcherlaw14_play_does_R3 K ρ w = dispatcherlaw14_play_does_R3_F z K ρ w := by kernel_rfl
noncomputable def dispatcherlaw14_play_does_R4_ops : Array Oper := opsOf dispatcherlaw14_play_does_R4
def dispatcherlaw14_play_does_R4_H0 (S : World → Prop) (K : Sl → World → Prop) (ρ : Sl) (w : World) : Prop :=
  HK Try.prog S (nilCk (ρ 0)) fun x31_2 => HK Try.prog S (do pure (Next.value (← Instr.fieldAt 69 x31_2 1))) fun x32_2 => HK Try.prog S (do pure (Next.value (← Instr.loadAt 28 x32_2))) fun x33_2 => HK Try.prog S (do pure (Next.value (← Instr.fieldAt 48 (ρ 3) 2))) fun x34_2 => HK Try.prog S (do pure (Next.value (← Instr.loadAt 24 x34_2))) fun x35_2 => HK Try.prog S (nilCk (ρ 0)) fun x38_2 => HK Try.prog S (do pure (Next.value (← Instr.fieldAt 69 x38_2 3))) fun x39_2 => HK Try.prog S (do pure (Next.value (← Instr.loadAt 67 x39_2))) fun x40_2 => HK Try.prog S (do pure (Next.value (← Instr.fieldAt 48 (ρ 3) 2))) fun x41_2 => HK Try.prog S (do pure (Next.value (← Instr.loadAt 24 x41_2))) fun x42_2 => K (up (up (up (up (up (up (up (up (up (up (up (up ρ 30 (ρ 0)) 31 x31_2) 32 x32_2) 33 x33_2) 34 x34_2) 35 x35_2) 37 (ρ 0)) 38 x38_2) 39 x39_2) 40 x40_2) 41 x41_2) 42 x42_2) w
theorem dispatcherlaw14_play_does_R4_q0 (S : World → Prop) (K : Sl → World → Prop) : sxh Try.prog S dispatcherlaw14_play_does_R4_ops K [(0, true), (1, true), (2, true), (3, true), (4, true), (5, true), (7, true), (8, true), (9, true), (10, true), (11, true), (12, true)] = dispatcherlaw14_play_does_R4_H0 S K := by kernel_rfl
def dispatcherlaw14_play_does_R4_H1 (S : World → Prop) (K : Sl → World → Prop) (ρ : Sl) (w : World) : Prop :=
  CK Try.prog (Value.func (Fn.func 14) #[] #[]) [(ρ 33), (ρ 35)] w fun x36_2 w => S w ∧ (CK Try.prog (Value.func (Fn.func 53) #[] #[]) [(ρ 40), (ρ 42)] w fun x43_2 w => S w ∧ (HK Try.prog S (do pure (Next.value (← (do eqGuard BinOp.eql 3 (Operand.tmp 36) (Operand.tmp 43) x36_2 x43_2; binOp BinOp.eql 3 x36_2 x43_2)))) fun x44_2 => K (up (up (up (up ρ 36 x36_2) 43 x43_2) 44 x44_2) 4 x44_2) w))
theorem dispatcherlaw14_play_does_R4_q1 (S : World → Prop) (K : Sl → World → Prop) : sxh Try.prog S dispatcherlaw14_play_does_R4_ops K [(6, false), (13, false), (14, true), (15, true)] = dispatcherlaw14_play_does_R4_H1 S K := by kernel_rfl
def dispatcherlaw14_play_does_R4_H (S : World → Prop) (K : Exit → Sl → World → Prop) (ρ : Sl) (w : World) : Prop :=
  dispatcherlaw14_play_does_R4_H0 S (dispatcherlaw14_play_does_R4_H1 S (K .normal)) ρ w
theorem dispatcherlaw14_play_does_R4_steps : planOk Try.prog 150 dispatcherlaw14_play_does_R4_ops [(0, true), (1, true), (2, true), (3, true), (4, true), (5, true), (7, true), (8, true), (9, true), (10, true), (11, true), (12, true), (6, false), (13, false), (14, true), (15, true)] (Array.replicate dispatcherlaw14_play_does_R4_ops.size false) = true :=
  by kernel_rfl
theorem dispatcherlaw14_play_does_R4_held {D : List Deferred} (S : World → Prop) {K : Exit → Sl → World → Prop} {ρ : Sl} {w : World} (hS : S { w with drawn := w.drawn + 1 }) (h : dispatcherlaw14_play_does_R4_H S K ρ { w with drawn := w.drawn + 1 }) : W ⟨none, D⟩ Try.prog 150 dispatcherlaw14_play_does_R4 K ρ w := by
  have e : dispatcherlaw14_play_does_R4 = .region (idOf dispatcherlaw14_play_does_R4) dispatcherlaw14_play_does_R4_ops true := by kernel_rfl
  have q : sxh Try.prog S dispatcherlaw14_play_does_R4_ops (K .normal) [(0, true), (1, true), (2, true), (3, true), (4, true), (5, true), (7, true), (8, true), (9, true), (10, true), (11, true), (12, true), (6, false), (13, false), (14, true), (15, true)] ρ { w with drawn := w.drawn + 1 } = dispatcherlaw14_play_does_R4_H S K ρ { w with drawn := w.drawn + 1 } := by
    show sxh Try.prog S dispatcherlaw14_play_does_R4_ops (K .normal) ([(0, true), (1, true), (2, true), (3, true), (4, true), (5, true), (7, true), (8, true), (9, true), (10, true), (11, true), (12, true)] ++ [(6, false), (13, false), (14, true), (15, true)]) ρ { w with drawn := w.drawn + 1 } = _
    rw [sxh_append, dispatcherlaw14_play_does_R4_q1, dispatcherlaw14_play_does_R4_q0]; rfl
  rw [e]
  exact W_held S [(0, true), (1, true), (2, true), (3, true), (4, true), (5, true), (7, true), (8, true), (9, true), (10, true), (11, true), (12, true), (6, false), (13, false), (14, true), (15, true)] (by kernel_rfl) (by kernel_rfl) dispatcherlaw14_play_does_R4_steps (by kernel_rfl) hS (Eq.mpr q h)
noncomputable def dispatcherlaw14_play_does_R5_F (z : At) (K : Exit → Sl → World → Prop) (ρ : Sl) (w : World) : Prop :=
  K .ret ρ w
theorem dispatcherlaw14_play_does_R5_eq (z : At) (K : Exit → Sl → World → Prop) (ρ : Sl) (w : World) : sx z Try.prog 150 dispatcherlaw14_play_does_R5 K ρ w = dispatcherlaw14_play_does_R5_F z K ρ w := by kernel_rfl
noncomputable def dispatcherlaw14_play_does_R6_ops : Array Oper := opsOf dispatcherlaw14_play_does_R6
def dispatcherlaw14_play_does_R6_H0 (S : World → Prop) (K : Sl → World → Prop) (ρ : Sl) (w : World) : Prop :=
  HK Try.prog S (nilCk (ρ 0)) fun x48_2 => HK Try.prog S (do pure (Next.value (← Instr.fieldAt 69 x48_2 1))) fun x49_2 => HK Try.prog S (do pure (Next.value (← Instr.loadAt 28 x49_2))) fun x50_2 => HK Try.prog S (nilCk (ρ 0)) fun x52_2 => HK Try.prog S (do pure (Next.value (← Instr.fieldAt 69 x52_2 0))) fun x53_2 => HK Try.prog S (do pure (Next.value (← Instr.loadAt 27 x53_2))) fun x54_2 => HK Try.prog S (do pure (Next.value (← Instr.fieldAt 48 (ρ 3) 2))) fun x55_2 => HK Try.prog S (do pure (Next.value (← Instr.fieldAt 24 x55_2 1))) fun x56_2 => HK Try.prog S (do pure (Next.value (← Instr.loadAt 3 x56_2))) fun x57_2 => HK Try.prog S (do pure (Next.value (← Instr.fieldAt 48 (ρ 3) 2))) fun x58_2 => K (up (up (up (up (up (up (up (up (up (up (up (up ρ 47 (ρ 0)) 48 x48_2) 49 x49_2) 50 x50_2) 51 (ρ 0)) 52 x52_2) 53 x53_2) 54 x54_2) 55 x55_2) 56 x56_2) 57 x57_2) 58 x58_2) w
theorem dispatcherlaw14_play_does_R6_q0 (S : World → Prop) (K : Sl → World → Prop) : sxh Try.prog S dispatcherlaw14_play_does_R6_ops K [(0, true), (1, true), (2, true), (3, true), (4, true), (5, true), (6, true), (7, true), (8, true), (9, true), (10, true), (11, true)] = dispatcherlaw14_play_does_R6_H0 S K := by kernel_rfl
def dispatcherlaw14_play_does_R6_H1 (S : World → Prop) (K : Sl → World → Prop) (ρ : Sl) (w : World) : Prop :=
  HK Try.prog S (do pure (Next.value (← Instr.fieldAt 24 (ρ 58) 2))) fun x59_2 => HK Try.prog S (do pure (Next.value (← Instr.loadAt 3 x59_2))) fun x60_2 => HK Try.prog S (do pure (Next.value (← Instr.fieldAt 48 (ρ 3) 1))) fun x61_2 => HK Try.prog S (do pure (Next.value (← Instr.fieldAt 39 x61_2 1))) fun x62_2 => HK Try.prog S (do pure (Next.value (← Instr.loadAt 3 x62_2))) fun x63_2 => HK Try.prog S (do pure (Next.value (← Instr.fieldAt 48 (ρ 3) 1))) fun x64_2 => HK Try.prog S (do pure (Next.value (← Instr.fieldAt 39 x64_2 3))) fun x65_2 => HK Try.prog S (do pure (Next.value (← Instr.loadAt 3 x65_2))) fun x66_2 => HK Try.prog S (nilCk (ρ 0)) fun x69_2 => HK Try.prog S (do pure (Next.value (← Instr.fieldAt 69 x69_2 3))) fun x70_2 => HK Try.prog S (do pure (Next.value (← Instr.loadAt 67 x70_2))) fun x71_2 => K (up (up (up (up (up (up (up (up (up (up (up (up ρ 59 x59_2) 60 x60_2) 61 x61_2) 62 x62_2) 63 x63_2) 64 x64_2) 65 x65_2) 66 x66_2) 68 (ρ 0)) 69 x69_2) 70 x70_2) 71 x71_2) w
theorem dispatcherlaw14_play_does_R6_q1 (S : World → Prop) (K : Sl → World → Prop) : sxh Try.prog S dispatcherlaw14_play_does_R6_ops K [(12, true), (13, true), (14, true), (15, true), (16, true), (17, true), (18, true), (19, true), (21, true), (22, true), (23, true), (24, true)] = dispatcherlaw14_play_does_R6_H1 S K := by kernel_rfl
def dispatcherlaw14_play_does_R6_H2 (S : World → Prop) (K : Sl → World → Prop) (ρ : Sl) (w : World) : Prop :=
  HK Try.prog S (nilCk (ρ 0)) fun x73_2 => HK Try.prog S (do pure (Next.value (← Instr.fieldAt 69 x73_2 2))) fun x74_2 => HK Try.prog S (do pure (Next.value (← Instr.loadAt 66 x74_2))) fun x75_2 => HK Try.prog S (do pure (Next.value (← Instr.fieldAt 48 (ρ 3) 2))) fun x76_2 => HK Try.prog S (do pure (Next.value (← Instr.fieldAt 24 x76_2 1))) fun x77_2 => HK Try.prog S (do pure (Next.value (← Instr.loadAt 3 x77_2))) fun x78_2 => HK Try.prog S (do pure (Next.value (← Instr.fieldAt 48 (ρ 3) 2))) fun x79_2 => HK Try.prog S (do pure (Next.value (← Instr.fieldAt 24 x79_2 2))) fun x80_2 => HK Try.prog S (do pure (Next.value (← Instr.loadAt 3 x80_2))) fun x81_2 => HK Try.prog S (do pure (Next.value (← Instr.fieldAt 48 (ρ 3) 1))) fun x82_2 => HK Try.prog S (do pure (Next.value (← Instr.fieldAt 39 x82_2 1))) fun x83_2 => K (up (up (up (up (up (up (up (up (up (up (up (up ρ 72 (ρ 0)) 73 x73_2) 74 x74_2) 75 x75_2) 76 x76_2) 77 x77_2) 78 x78_2) 79 x79_2) 80 x80_2) 81 x81_2) 82 x82_2) 83 x83_2) w
theorem dispatcherlaw14_play_does_R6_q2 (S : World → Prop) (K : Sl → World → Prop) : sxh Try.prog S dispatcherlaw14_play_does_R6_ops K [(25, true), (26, true), (27, true), (28, true), (29, true), (30, true), (31, true), (32, true), (33, true), (34, true), (35, true), (36, true)] = dispatcherlaw14_play_does_R6_H2 S K := by kernel_rfl
def dispatcherlaw14_play_does_R6_H3 (S : World → Prop) (K : Sl → World → Prop) (ρ : Sl) (w : World) : Prop :=
  HK Try.prog S (do pure (Next.value (← Instr.loadAt 3 (ρ 83)))) fun x84_2 => HK Try.prog S (do pure (Next.value (← Instr.fieldAt 48 (ρ 3) 1))) fun x85_2 => HK Try.prog S (do pure (Next.value (← Instr.fieldAt 39 x85_2 3))) fun x86_2 => HK Try.prog S (do pure (Next.value (← Instr.loadAt 3 x86_2))) fun x87_2 => CK Try.prog (Value.func (Fn.func 17) #[] #[]) [(ρ 50), (ρ 54), (ρ 57), (ρ 60), (ρ 63), (ρ 66)] w fun x67_2 w => S w ∧ (CK Try.prog (Value.func (Fn.func 54) #[] #[]) [(ρ 71), (ρ 75), (ρ 78), (ρ 81), x84_2, x87_2] w fun x88_2 w => S w ∧ (HK Try.prog S (do pure (Next.value (← (do eqGuard BinOp.eql 3 (Operand.tmp 67) (Operand.tmp 88) x67_2 x88_2; binOp BinOp.eql 3 x67_2 x88_2)))) fun x89_2 => K (up (up (up (up (up (up (up (up ρ 84 x84_2) 85 x85_2) 86 x86_2) 87 x87_2) 67 x67_2) 88 x88_2) 89 x89_2) 4 x89_2) w))
theorem dispatcherlaw14_play_does_R6_q3 (S : World → Prop) (K : Sl → World → Prop) : sxh Try.prog S dispatcherlaw14_play_does_R6_ops K [(37, true), (38, true), (39, true), (40, true), (20, false), (41, false), (42, true), (43, true)] = dispatcherlaw14_play_does_R6_H3 S K := by kernel_rfl
def dispatcherlaw14_play_does_R6_H (S : World → Prop) (K : Exit → Sl → World → Prop) (ρ : Sl) (w : World) : Prop :=
  dispatcherlaw14_play_does_R6_H0 S (dispatcherlaw14_play_does_R6_H1 S (dispatcherlaw14_play_does_R6_H2 S (dispatcherlaw14_play_does_R6_H3 S (K .normal)))) ρ w
theorem dispatcherlaw14_play_does_R6_steps : planOk Try.prog 150 dispatcherlaw14_play_does_R6_ops [(0, true), (1, true), (2, true), (3, true), (4, true), (5, true), (6, true), (7, true), (8, true), (9, true), (10, true), (11, true), (12, true), (13, true), (14, true), (15, true), (16, true), (17, true), (18, true), (19, true), (21, true), (22, true), (23, true), (24, true), (25, true), (26, true), (27, true), (28, true), (29, true), (30, true), (31, true), (32, true), (33, true), (34, true), (35, true), (36, true), (37, true), (38, true), (39, true), (40, true), (20, false), (41, false), (42, true), (43, true)] (Array.replicate dispatcherlaw14_play_does_R6_ops.size false) = true :=
  planOk_step #[true, false, false, false, false, false, false, false, false, false, false, false, false, false, false, false, false, false, false, false, false, false, false, false, false, false, false, false, false, false, false, false, false, false, false, false, false, false, false, false, false, false, false, false] (by kernel_rfl) (by kernel_rfl) (planOk_step #[true, true, false, false, false, false, false, false, false, false, false, false, false, false, false, false, false, false, false, false, false, false, false, false, false, false, false, false, false, false, false, false, false, false, false, false, false, false, false, false, false, false, false, false] (by kernel_rfl) (by kernel_rfl) (planOk_step #[true, true, true, false, false, false, false, false, false, false, false, false, false, false, false, false, false, false, false, false, false, false, false, false, false, false, false, false, false, false, false, false, false, false, false, false, false, false, false, false, false, false, false, false] (by kernel_rfl) (by kernel_rfl) (planOk_step #[true, true, true, true, false, false, false, false, false, false, false, false, false, false, false, false, false, false, false, false, false, false, false, false, false, false, false, false, false, false, false, false, false, false, false, false, false, false, false, false, false, false, false, false] (by kernel_rfl) (by kernel_rfl) (planOk_step #[true, true, true, true, true, false, false, false, false, false, false, false, false, false, false, false, false, false, false, false, false, false, false, false, false, false, false, false, false, false, false, false, false, false, false, false, false, false, false, false, false, false, false, false] (by kernel_rfl) (by kernel_rfl) (planOk_step #[true, true, true, true, true, true, false, false, false, false, false, false, false, false, false, false, false, false, false, false, false, false, false, false, false, false, false, false, false, false, false, false, false, false, false, false, false, false, false, false, false, false, false, false] (by kernel_rfl) (by kernel_rfl) (planOk_step #[true, true, true, true, true, true, true, false, false, false, false, false, false, false, false, false, false, false, false, false, false, false, false, false, false, false, false, false, false, false, false, false, false, false, false, false, false, false, false, false, false, false, false, false] (by kernel_rfl) (by kernel_rfl) (planOk_step #[true, true, true, true, true, true, true, true, false, false, false, false, false, false, false, false, false, false, false, false, false, false, false, false, false, false, false, false, false, false, false, false, false, false, false, false, false, false, false, false, false, false, false, false] (by kernel_rfl) (by kernel_rfl) (planOk_step #[true, true, true, true, true, true, true, true, true, false, false, false, false, false, false, false, false, false, false, false, false, false, false, false, false, false, false, false, false, false, false, false, false, false, false, false, false, false, false, false, false, false, false, false] (by kernel_rfl) (by kernel_rfl) (planOk_step #[true, true, true, true, true, true, true, true, true, true, false, false, false, false, false, false, false, false, false, false, false, false, false, false, false, false, false, false, false, false, false, false, false, false, false, false, false, false, false, false, false, false, false, false] (by kernel_rfl) (by kernel_rfl) (planOk_step #[true, true, true, true, true, true, true, true, true, true, true, false, false, false, false, false, false, false, false, false, false, false, false, false, false, false, false, false, false, false, false, false, false, false, false, false, false, false, false, false, false, false, false, false] (by kernel_rfl) (by kernel_rfl) (planOk_step #[true, true, true, true, true, true, true, true, true, true, true, true, false, false, false, false, false, false, false, false, false, false, false, false, false, false, false, false, false, false, false, false, false, false, false, false, false, false, false, false, false, false, false, false] (by kernel_rfl) (by kernel_rfl) (planOk_step #[true, true, true, true, true, true, true, true, true, true, true, true, true, false, false, false, false, false, false, false, false, false, false, false, false, false, false, false, false, false, false, false, false, false, false, false, false, false, false, false, false, false, false, false] (by kernel_rfl) (by kernel_rfl) (planOk_step #[true, true, true, true, true, true, true, true, true, true, true, true, true, true, false, false, false, false, false, false, false, false, false, false, false, false, false, false, false, false, false, false, false, false, false, false, false, false, false, false, false, false, false, false] (by kernel_rfl) (by kernel_rfl) (planOk_step #[true, true, true, true, true, true, true, true, true, true, true, true, true, true, true, false, false, false, false, false, false, false, false, false, false, false, false, false, false, false, false, false, false, false, false, false, false, false, false, false, false, false, false, false] (by kernel_rfl) (by kernel_rfl) (planOk_step #[true, true, true, true, true, true, true, true, true, true, true, true, true, true, true, true, false, false, false, false, false, false, false, false, false, false, false, false, false, false, false, false, false, false, false, false, false, false, false, false, false, false, false, false] (by kernel_rfl) (by kernel_rfl) (planOk_step #[true, true, true, true, true, true, true, true, true, true, true, true, true, true, true, true, true, false, false, false, false, false, false, false, false, false, false, false, false, false, false, false, false, false, false, false, false, false, false, false, false, false, false, false] (by kernel_rfl) (by kernel_rfl) (planOk_step #[true, true, true, true, true, true, true, true, true, true, true, true, true, true, true, true, true, true, false, false, false, false, false, false, false, false, false, false, false, false, false, false, false, false, false, false, false, false, false, false, false, false, false, false] (by kernel_rfl) (by kernel_rfl) (planOk_step #[true, true, true, true, true, true, true, true, true, true, true, true, true, true, true, true, true, true, true, false, false, false, false, false, false, false, false, false, false, false, false, false, false, false, false, false, false, false, false, false, false, false, false, false] (by kernel_rfl) (by kernel_rfl) (planOk_step #[true, true, true, true, true, true, true, true, true, true, true, true, true, true, true, true, true, true, true, true, false, false, false, false, false, false, false, false, false, false, false, false, false, false, false, false, false, false, false, false, false, false, false, false] (by kernel_rfl) (by kernel_rfl) (planOk_step #[true, true, true, true, true, true, true, true, true, true, true, true, true, true, true, true, true, true, true, true, false, true, false, false, false, false, false, false, false, false, false, false, false, false, false, false, false, false, false, false, false, false, false, false] (by kernel_rfl) (by kernel_rfl) (planOk_step #[true, true, true, true, true, true, true, true, true, true, true, true, true, true, true, true, true, true, true, true, false, true, true, false, false, false, false, false, false, false, false, false, false, false, false, false, false, false, false, false, false, false, false, false] (by kernel_rfl) (by kernel_rfl) (planOk_step #[true, true, true, true, true, true, true, true, true, true, true, true, true, true, true, true, true, true, true, true, false, true, true, true, false, false, false, false, false, false, false, false, false, false, false, false, false, false, false, false, false, false, false, false] (by kernel_rfl) (by kernel_rfl) (planOk_step #[true, true, true, true, true, true, true, true, true, true, true, true, true, true, true, true, true, true, true, true, false, true, true, true, true, false, false, false, false, false, false, false, false, false, false, false, false, false, false, false, false, false, false, false] (by kernel_rfl) (by kernel_rfl) (planOk_step #[true, true, true, true, true, true, true, true, true, true, true, true, true, true, true, true, true, true, true, true, false, true, true, true, true, true, false, false, false, false, false, false, false, false, false, false, false, false, false, false, false, false, false, false] (by kernel_rfl) (by kernel_rfl) (planOk_step #[true, true, true, true, true, true, true, true, true, true, true, true, true, true, true, true, true, true, true, true, false, true, true, true, true, true, true, false, false, false, false, false, false, false, false, false, false, false, false, false, false, false, false, false] (by kernel_rfl) (by kernel_rfl) (planOk_step #[true, true, true, true, true, true, true, true, true, true, true, true, true, true, true, true, true, true, true, true, false, true, true, true, true, true, true, true, false, false, false, false, false, false, false, false, false, false, false, false, false, false, false, false] (by kernel_rfl) (by kernel_rfl) (planOk_step #[true, true, true, true, true, true, true, true, true, true, true, true, true, true, true, true, true, true, true, true, false, true, true, true, true, true, true, true, true, false, false, false, false, false, false, false, false, false, false, false, false, false, false, false] (by kernel_rfl) (by kernel_rfl) (planOk_step #[true, true, true, true, true, true, true, true, true, true, true, true, true, true, true, true, true, true, true, true, false, true, true, true, true, true, true, true, true, true, false, false, false, false, false, false, false, false, false, false, false, false, false, false] (by kernel_rfl) (by kernel_rfl) (planOk_step #[true, true, true, true, true, true, true, true, true, true, true, true, true, true, true, true, true, true, true, true, false, true, true, true, true, true, true, true, true, true, true, false, false, false, false, false, false, false, false, false, false, false, false, false] (by kernel_rfl) (by kernel_rfl) (planOk_step #[true, true, true, true, true, true, true, true, true, true, true, true, true, true, true, true, true, true, true, true, false, true, true, true, true, true, true, true, true, true, true, true, false, false, false, false, false, false, false, false, false, false, false, false] (by kernel_rfl) (by kernel_rfl) (planOk_step #[true, true, true, true, true, true, true, true, true, true, true, true, true, true, true, true, true, true, true, true, false, true, true, true, true, true, true, true, true, true, true, true, true, false, false, false, false, false, false, false, false, false, false, false] (by kernel_rfl) (by kernel_rfl) (planOk_step #[true, true, true, true, true, true, true, true, true, true, true, true, true, true, true, true, true, true, true, true, false, true, true, true, true, true, true, true, true, true, true, true, true, true, false, false, false, false, false, false, false, false, false, false] (by kernel_rfl) (by kernel_rfl) (planOk_step #[true, true, true, true, true, true, true, true, true, true, true, true, true, true, true, true, true, true, true, true, false, true, true, true, true, true, true, true, true, true, true, true, true, true, true, false, false, false, false, false, false, false, false, false] (by kernel_rfl) (by kernel_rfl) (planOk_step #[true, true, true, true, true, true, true, true, true, true, true, true, true, true, true, true, true, true, true, true, false, true, true, true, true, true, true, true, true, true, true, true, true, true, true, true, false, false, false, false, false, false, false, false] (by kernel_rfl) (by kernel_rfl) (planOk_step #[true, true, true, true, true, true, true, true, true, true, true, true, true, true, true, true, true, true, true, true, false, true, true, true, true, true, true, true, true, true, true, true, true, true, true, true, true, false, false, false, false, false, false, false] (by kernel_rfl) (by kernel_rfl) (planOk_step #[true, true, true, true, true, true, true, true, true, true, true, true, true, true, true, true, true, true, true, true, false, true, true, true, true, true, true, true, true, true, true, true, true, true, true, true, true, true, false, false, false, false, false, false] (by kernel_rfl) (by kernel_rfl) (planOk_step #[true, true, true, true, true, true, true, true, true, true, true, true, true, true, true, true, true, true, true, true, false, true, true, true, true, true, true, true, true, true, true, true, true, true, true, true, true, true, true, false, false, false, false, false] (by kernel_rfl) (by kernel_rfl) (planOk_step #[true, true, true, true, true, true, true, true, true, true, true, true, true, true, true, true, true, true, true, true, false, true, true, true, true, true, true, true, true, true, true, true, true, true, true, true, true, true, true, true, false, false, false, false] (by kernel_rfl) (by kernel_rfl) (planOk_step #[true, true, true, true, true, true, true, true, true, true, true, true, true, true, true, true, true, true, true, true, false, true, true, true, true, true, true, true, true, true, true, true, true, true, true, true, true, true, true, true, true, false, false, false] (by kernel_rfl) (by kernel_rfl) (planOk_step #[true, true, true, true, true, true, true, true, true, true, true, true, true, true, true, true, true, true, true, true, true, true, true, true, true, true, true, true, true, true, true, true, true, true, true, true, true, true, true, true, true, false, false, false] (by kernel_rfl) (by kernel_rfl) (planOk_step #[true, true, true, true, true, true, true, true, true, true, true, true, true, true, true, true, true, true, true, true, true, true, true, true, true, true, true, true, true, true, true, true, true, true, true, true, true, true, true, true, true, true, false, false] (by kernel_rfl) (by kernel_rfl) (planOk_step #[true, true, true, true, true, true, true, true, true, true, true, true, true, true, true, true, true, true, true, true, true, true, true, true, true, true, true, true, true, true, true, true, true, true, true, true, true, true, true, true, true, true, true, false] (by kernel_rfl) (by kernel_rfl) (planOk_step #[true, true, true, true, true, true, true, true, true, true, true, true, true, true, true, true, true, true, true, true, true, true, true, true, true, true, true, true, true, true, true, true, true, true, true, true, true, true, true, true, true, true, true, true] (by kernel_rfl) (by kernel_rfl) (by kernel_rfl))))))))))))))))))))))))))))))))))))))))))))
theorem dispatcherlaw14_play_does_R6_held {D : List Deferred} (S : World → Prop) {K : Exit → Sl → World → Prop} {ρ : Sl} {w : World} (hS : S { w with drawn := w.drawn + 1 }) (h : dispatcherlaw14_play_does_R6_H S K ρ { w with drawn := w.drawn + 1 }) : W ⟨none, D⟩ Try.prog 150 dispatcherlaw14_play_does_R6 K ρ w := by
  have e : dispatcherlaw14_play_does_R6 = .region (idOf dispatcherlaw14_play_does_R6) dispatcherlaw14_play_does_R6_ops true := by kernel_rfl
  have q : sxh Try.prog S dispatcherlaw14_play_does_R6_ops (K .normal) [(0, true), (1, true), (2, true), (3, true), (4, true), (5, true), (6, true), (7, true), (8, true), (9, true), (10, true), (11, true), (12, true), (13, true), (14, true), (15, true), (16, true), (17, true), (18, true), (19, true), (21, true), (22, true), (23, true), (24, true), (25, true), (26, true), (27, true), (28, true), (29, true), (30, true), (31, true), (32, true), (33, true), (34, true), (35, true), (36, true), (37, true), (38, true), (39, true), (40, true), (20, false), (41, false), (42, true), (43, true)] ρ { w with drawn := w.drawn + 1 } = dispatcherlaw14_play_does_R6_H S K ρ { w with drawn := w.drawn + 1 } := by
    show sxh Try.prog S dispatcherlaw14_play_does_R6_ops (K .normal) ([(0, true), (1, true), (2, true), (3, true), (4, true), (5, true), (6, true), (7, true), (8, true), (9, true), (10, true), (11, true)] ++ ([(12, true), (13, true), (14, true), (15, true), (16, true), (17, true), (18, true), (19, true), (21, true), (22, true), (23, true), (24, true)] ++ ([(25, true), (26, true), (27, true), (28, true), (29, true), (30, true), (31, true), (32, true), (33, true), (34, true), (35, true), (36, true)] ++ [(37, true), (38, true), (39, true), (40, true), (20, false), (41, false), (42, true), (43, true)]))) ρ { w with drawn := w.drawn + 1 } = _
    rw [sxh_append, sxh_append, sxh_append, dispatcherlaw14_play_does_R6_q3, dispatcherlaw14_play_does_R6_q2, dispatcherlaw14_play_does_R6_q1, dispatcherlaw14_play_does_R6_q0]; rfl
  rw [e]
  exact W_held S [(0, true), (1, true), (2, true), (3, true), (4, true), (5, true), (6, true), (7, true), (8, true), (9, true), (10, true), (11, true), (12, true), (13, true), (14, true), (15, true), (16, true), (17, true), (18, true), (19, true), (21, true), (22, true), (23, true), (24, true), (25, true), (26, true), (27, true), (28, true), (29, true), (30, true), (31, true), (32, true), (33, true), (34, true), (35, true), (36, true), (37, true), (38, true), (39, true), (40, true), (20, false), (41, false), (42, true), (43, true)] (by kernel_rfl) (by kernel_rfl) dispatcherlaw14_play_does_R6_steps (by kernel_rfl) hS (Eq.mpr q h)
noncomputable def dispatcherlaw14_play_does_R7_F (z : At) (K : Exit → Sl → World → Prop) (ρ : Sl) (w : World) : Prop :=
  K .ret ρ w
theorem dispatcherlaw14_play_does_R7_eq (z : At) (K : Exit → Sl → World → Prop) (ρ : Sl) (w : World) : sx z Try.prog 150 dispatcherlaw14_play_does_R7 K ρ w = dispatcherlaw14_play_does_R7_F z K ρ w := by kernel_rfl
noncomputable def dispatcherlaw14_play_does_R8_ops : Array Oper := opsOf dispatcherlaw14_play_does_R8
def dispatcherlaw14_play_does_R8_T (K : Exit → Sl → World → Prop) (ρ : Sl) (w : World) : Prop :=
  let C : World → Prop := fun w' => w' = w; QK Try.prog C (nilCk (ρ 0)) fun x91_1 => QK Try.prog C (do pure (Next.value (← Instr.fieldAt 69 x91_1 0))) fun x92_1 => QK Try.prog C (do pure (Next.value (← Instr.loadAt 27 x92_1))) fun x93_1 => QK Try.prog C (nilCk (ρ 0)) fun x95_1 => QK Try.prog C (do pure (Next.value (← Instr.fieldAt 69 x95_1 1))) fun x96_1 => QK Try.prog C (do pure (Next.value (← Instr.loadAt 28 x96_1))) fun x97_1 => K Exit.normal (up (up (up (up (up (up (up (up (up (up ρ 90 (ρ 0)) 91 x91_1) 92 x92_1) 93 x93_1) 94 (ρ 0)) 95 x95_1) 96 x96_1) 97 x97_1) 5 x93_1) 6 x97_1) w
theorem dispatcherlaw14_play_does_R8_tail {D : List Deferred} {K : Exit → Sl → World → Prop} {ρ : Sl} {w : World} (h : dispatcherlaw14_play_does_R8_T K ρ { w with drawn := w.drawn + 1 }) : W ⟨none, D⟩ Try.prog 150 dispatcherlaw14_play_does_R8 K ρ w := by
  have e : dispatcherlaw14_play_does_R8 = .region (idOf dispatcherlaw14_play_does_R8) dispatcherlaw14_play_does_R8_ops true := by kernel_rfl
  have q : sxq Try.prog (fun w' => w' = { w with drawn := w.drawn + 1 }) dispatcherlaw14_play_does_R8_ops (fun ρ' => sxL Try.prog dispatcherlaw14_play_does_R8_ops (K .normal) (dispatcherlaw14_play_does_R8_ops.toList.drop 9) ρ' { w with drawn := w.drawn + 1 }) (dispatcherlaw14_play_does_R8_ops.toList.take 9) ρ = dispatcherlaw14_play_does_R8_T K ρ { w with drawn := w.drawn + 1 } := by kernel_rfl
  rw [e]
  exact W_tail 9 (by kernel_rfl) (by kernel_rfl) (by kernel_rfl) (by kernel_rfl) (Eq.mpr q h)
noncomputable def dispatcherlaw14_play_does_R9_F (z : At) (K : Exit → Sl → World → Prop) (ρ : Sl) (w : World) : Prop :=
  CK Try.prog (Value.func (Fn.func 55) #[] #[]) [(ρ 5)] w fun x101 w => CK Try.prog (Value.func (Fn.func 28) #[] #[]) [(ρ 6)] w fun x103 w => NK Try.prog (ρ 0) w fun x104 w => VK Try.prog (Instr.fieldAt 69 x104 0) w fun x105 w => UK Try.prog (Instr.storeAt 27 x105 x101) w fun _ w => NK Try.prog (ρ 0) w fun x106 w => VK Try.prog (Instr.fieldAt 69 x106 1) w fun x107 w => UK Try.prog (Instr.storeAt 28 x107 x103) w fun _ w => W z Try.prog 150 dispatcherlaw14_play_does_R10 (seqK (sx z Try.prog 150 dispatcherlaw14_play_does_R11 K) K) (up (up (up (up (up (up (up (up (up (up ρ 98 (ρ 0)) 99 (ρ 0)) 100 (ρ 5)) 101 x101) 102 (ρ 6)) 103 x103) 104 x104) 105 x105) 106 x106) 107 x107) w
theorem dispatcherlaw14_play_does_R9_eq (z : At) (K : Exit → Sl → World → Prop) (ρ : Sl) (w : World) : sx z Try.prog 150 dispatcherlaw14_play_does_R9 K ρ w = dispatcherlaw14_play_does_R9_F z K ρ w := by kernel_rfl
noncomputable def dispatcherlaw14_play_does_R10_ops : Array Oper := opsOf dispatcherlaw14_play_does_R10
def dispatcherlaw14_play_does_R10_H (S : World → Prop) (K : Exit → Sl → World → Prop) (ρ : Sl) (w : World) : Prop :=
  HK Try.prog S (nilCk (ρ 0)) fun x111 => HK Try.prog S (do pure (Next.value (← Instr.fieldAt 69 x111 2))) fun x112 => HK Try.prog S (nilCk (ρ 0)) fun x116 => HK Try.prog S (do pure (Next.value (← Instr.fieldAt 69 x116 3))) fun x117 => (VK Try.prog (Instr.loadAt 66 x112) w fun x113 w => S w ∧ ((CK Try.prog (Value.func (Fn.func 56) #[] #[]) [x113] w fun x114 w => S w ∧ (VK Try.prog (Instr.loadAt 67 x117) w fun x118 w => S w ∧ (CK Try.prog (Value.func (Fn.func 57) #[] #[]) [x118] w fun x119 w => S w ∧ (HK Try.prog S (nilCk (ρ 0)) fun x120 => HK Try.prog S (do pure (Next.value (← Instr.fieldAt 69 x120 2))) fun x121 => UK Try.prog (Instr.storeAt 66 x121 x114) w fun _ w => S w ∧ (HK Try.prog S (nilCk (ρ 0)) fun x122 => HK Try.prog S (do pure (Next.value (← Instr.fieldAt 69 x122 3))) fun x123 => UK Try.prog (Instr.storeAt 67 x123 x119) w fun _ w => S w ∧ (K Exit.normal (up (up (up (up (up (up (up (up (up (up (up (up (up (up (up (up ρ 108 (ρ 0)) 109 (ρ 0)) 110 (ρ 0)) 111 x111) 112 x112) 115 (ρ 0)) 116 x116) 117 x117) 113 x113) 114 x114) 118 x118) 119 x119) 120 x120) 121 x121) 122 x122) 123 x123) w)))))) ∧ (VK Try.prog (Instr.loadAt 67 x117) w fun x118_1 w => S w ∧ (CK Try.prog (Value.func (Fn.func 56) #[] #[]) [x113] w fun x114_1 w => S w ∧ (CK Try.prog (Value.func (Fn.func 57) #[] #[]) [x118_1] w fun x119_1 w => S w ∧ (HK Try.prog S (nilCk (ρ 0)) fun x120_1 => HK Try.prog S (do pure (Next.value (← Instr.fieldAt 69 x120_1 2))) fun x121_1 => UK Try.prog (Instr.storeAt 66 x121_1 x114_1) w fun _ w => S w ∧ (HK Try.prog S (nilCk (ρ 0)) fun x122_1 => HK Try.prog S (do pure (Next.value (← Instr.fieldAt 69 x122_1 3))) fun x123_1 => UK Try.prog (Instr.storeAt 67 x123_1 x119_1) w fun _ w => S w ∧ (K Exit.normal (up (up (up (up (up (up (up (up (up (up (up (up (up (up (up (up ρ 108 (ρ 0)) 109 (ρ 0)) 110 (ρ 0)) 111 x111) 112 x112) 115 (ρ 0)) 116 x116) 117 x117) 113 x113) 118 x118_1) 114 x114_1) 119 x119_1) 120 x120_1) 121 x121_1) 122 x122_1) 123 x123_1) w)))))))) ∧ (VK Try.prog (Instr.loadAt 67 x117) w fun x118_2 w => S w ∧ (VK Try.prog (Instr.loadAt 66 x112) w fun x113_1 w => S w ∧ (CK Try.prog (Value.func (Fn.func 56) #[] #[]) [x113_1] w fun x114_2 w => S w ∧ (CK Try.prog (Value.func (Fn.func 57) #[] #[]) [x118_2] w fun x119_2 w => S w ∧ (HK Try.prog S (nilCk (ρ 0)) fun x120_2 => HK Try.prog S (do pure (Next.value (← Instr.fieldAt 69 x120_2 2))) fun x121_2 => UK Try.prog (Instr.storeAt 66 x121_2 x114_2) w fun _ w => S w ∧ (HK Try.prog S (nilCk (ρ 0)) fun x122_2 => HK Try.prog S (do pure (Next.value (← Instr.fieldAt 69 x122_2 3))) fun x123_2 => UK Try.prog (Instr.storeAt 67 x123_2 x119_2) w fun _ w => S w ∧ (K Exit.normal (up (up (up (up (up (up (up (up (up (up (up (up (up (up (up (up ρ 108 (ρ 0)) 109 (ρ 0)) 110 (ρ 0)) 111 x111) 112 x112) 115 (ρ 0)) 116 x116) 117 x117) 118 x118_2) 113 x113_1) 114 x114_2) 119 x119_2) 120 x120_2) 121 x121_2) 122 x122_2) 123 x123_2) w)))))))
theorem dispatcherlaw14_play_does_R10_held {D : List Deferred} (S : World → Prop) {K : Exit → Sl → World → Prop} {ρ : Sl} {w : World} (hS : S { w with drawn := w.drawn + 1 }) (h : dispatcherlaw14_play_does_R10_H S K ρ { w with drawn := w.drawn + 1 }) : W ⟨none, D⟩ Try.prog 150 dispatcherlaw14_play_does_R10 K ρ w := by
  have e : dispatcherlaw14_play_does_R10 = .region (idOf dispatcherlaw14_play_does_R10) dispatcherlaw14_play_does_R10_ops true := by kernel_rfl
  have q : sxd Try.prog S dispatcherlaw14_play_does_R10_ops (K .normal) (Pd.take 0 (Pd.take 1 (Pd.take 2 (Pd.take 3 (Pd.take 4 (Pd.take 7 (Pd.take 8 (Pd.take 9 (Pd.two false false 5 10 (Pd.two false false 6 10 (Pd.only false 10 (Pd.only false 11 (Pd.take 12 (Pd.take 13 (Pd.only false 14 (Pd.take 15 (Pd.take 16 (Pd.only false 17 Pd.done)))))))) (Pd.only false 6 (Pd.only false 11 (Pd.take 12 (Pd.take 13 (Pd.only false 14 (Pd.take 15 (Pd.take 16 (Pd.only false 17 Pd.done))))))))) (Pd.only false 5 (Pd.only false 6 (Pd.only false 11 (Pd.take 12 (Pd.take 13 (Pd.only false 14 (Pd.take 15 (Pd.take 16 (Pd.only false 17 Pd.done)))))))))))))))))) ρ { w with drawn := w.drawn + 1 } = dispatcherlaw14_play_does_R10_H S K ρ { w with drawn := w.drawn + 1 } := by kernel_rfl
  rw [e]
  exact W_pland S (Pd.take 0 (Pd.take 1 (Pd.take 2 (Pd.take 3 (Pd.take 4 (Pd.take 7 (Pd.take 8 (Pd.take 9 (Pd.two false false 5 10 (Pd.two false false 6 10 (Pd.only false 10 (Pd.only false 11 (Pd.take 12 (Pd.take 13 (Pd.only false 14 (Pd.take 15 (Pd.take 16 (Pd.only false 17 Pd.done)))))))) (Pd.only false 6 (Pd.only false 11 (Pd.take 12 (Pd.take 13 (Pd.only false 14 (Pd.take 15 (Pd.take 16 (Pd.only false 17 Pd.done))))))))) (Pd.only false 5 (Pd.only false 6 (Pd.only false 11 (Pd.take 12 (Pd.take 13 (Pd.only false 14 (Pd.take 15 (Pd.take 16 (Pd.only false 17 Pd.done)))))))))))))))))) (by kernel_rfl) (by kernel_rfl) (by kernel_rfl) (by kernel_rfl) hS (Eq.mpr q h)
noncomputable def dispatcherlaw14_play_does_R11_F (z : At) (K : Exit → Sl → World → Prop) (ρ : Sl) (w : World) : Prop :=
  VK Try.prog (Instr.fieldAt 48 (ρ 3) 1) w fun x125 w => VK Try.prog (Instr.fieldAt 39 x125 1) w fun x126 w => VK Try.prog (Instr.loadAt 3 x126) w fun x127 w => VK Try.prog (Instr.fieldAt 48 (ρ 3) 1) w fun x128 w => VK Try.prog (Instr.fieldAt 39 x128 3) w fun x129 w => VK Try.prog (Instr.loadAt 3 x129) w fun x130 w => CK Try.prog (Value.func (Fn.func 45) #[] #[]) [(ρ 5), x127, x130] w fun x131 w => VK Try.prog (Instr.fieldAt 48 (ρ 3) 2) w fun x133 w => VK Try.prog (Instr.fieldAt 24 x133 1) w fun x134 w => VK Try.prog (Instr.loadAt 3 x134) w fun x135 w => VK Try.prog (Instr.build 24 [(1, x135), (2, (Value.int .i64 1099511627776)), (3, (Value.int .i64 (-1))), (4, (Value.int .i64 (-1)))].toArray) w fun x136 w => CK Try.prog (Value.func (Fn.func 14) #[] #[]) [(ρ 6), x136] w fun x137 w => NK Try.prog (ρ 0) w fun x139 w => VK Try.prog (Instr.fieldAt 69 x139 0) w fun x140 w => VK Try.prog (Instr.loadAt 27 x140) w fun x141 w => BK Try.prog .neq 27 (.tmp 141) (.const (Value.pointer none)) x141 (Value.pointer none) w fun x142 w => MG Try.prog x142 true (ρ 0) w fun x144 w => NG Try.prog x142 true x144 w fun x145 w => VG Try.prog x142 true (Instr.fieldAt 69 x145 1) w fun x146 w => VG Try.prog x142 true (Instr.loadAt 28 x146) w fun x147 w => BG Try.prog x142 true .neq 28 (.tmp 147) (.const (Value.pointer none)) x147 (Value.pointer none) w fun x148 w => PK Try.prog x142 x148 (Value.bool false) w fun x149 w => K .ret (up (up (up (up (up (up (up (up (up (up (up (up (up (up (up (up (up (up (up (up (up (up (up (up (up (up (up ρ 124 (ρ 5)) 125 x125) 126 x126) 127 x127) 128 x128) 129 x129) 130 x130) 131 x131) 132 (ρ 6)) 133 x133) 134 x134) 135 x135) 136 x136) 137 x137) 138 (ρ 0)) 139 x139) 140 x140) 141 x141) 142 x142) 143 x142) 144 x144) 145 x145) 146 x146) 147 x147) 148 x148) 149 x149) 4 x149) w
theorem dispatcherlaw14_play_does_R11_eq (z : At) (K : Exit → Sl → World → Prop) (ρ : Sl) (w : World) : sx z Try.prog 150 dispatcherlaw14_play_does_R11 K ρ w = dispatcherlaw14_play_does_R11_F z K ρ w := by kernel_rfl
noncomputable def dispatcherlaw14_play_does_F (a0 a1 : Value) (w : World) (R : Value → World → Prop) : Prop :=
  VK Try.prog (Instr.box 48 a1) w fun x3 w => VK Try.prog (Instr.fieldAt 48 x3 0) w fun x7 w => VK Try.prog (Instr.loadAt 5 x7) w fun x8 w => BK Try.prog .rem 5 (.tmp 8) (.const (Value.int .u8 5)) x8 (Value.int .u8 5) w fun x9 w => BK Try.prog .eql 5 (.tmp 9) (.const (Value.int .u8 0)) x9 (Value.int .u8 0) w fun x11 w => CondK x11 (sx fn_ Try.prog 150 dispatcherlaw14_play_does_R0 (blkK 0 (seqK (sx fn_ Try.prog 150 dispatcherlaw14_play_does_R1 (retK Try.prog [ResultVar.tmp 4] R)) (retK Try.prog [ResultVar.tmp 4] R))) (up (up (up (up (up (up (up (rho0 [a0, a1]) 3 x3) 4 (Value.bool false)) 7 x7) 8 x8) 9 x9) 11 x11) 10 x11) w) (BK Try.prog .eql 5 (.tmp 9) (.const (Value.int .u8 1)) x9 (Value.int .u8 1) w fun x12 w => sx fn_ Try.prog 150 dispatcherlaw14_play_does_R0 (blkK 0 (seqK (sx fn_ Try.prog 150 dispatcherlaw14_play_does_R1 (retK Try.prog [ResultVar.tmp 4] R)) (retK Try.prog [ResultVar.tmp 4] R))) (up (up (up (up (up (up (up (up (up (rho0 [a0, a1]) 3 x3) 4 (Value.bool false)) 7 x7) 8 x8) 9 x9) 11 x11) 10 x11) 12 x12) 10 x12) w)
theorem dispatcherlaw14_play_does_eq (a0 a1 : Value) (w : World) (R : Value → World → Prop) : sx fn_ Try.prog 150 dispatcherlaw14_play_does_b (retK Try.prog Try.f30.results.toList R) (rho0 [a0, a1]) w = dispatcherlaw14_play_does_F a0 a1 w R := by kernel_rfl
theorem dispatcherlaw14_play_does_calls {a0 a1 : Value} {w : World} {R : Value → World → Prop} (h : dispatcherlaw14_play_does_F a0 a1 w R) : Calls Try.prog 30 #[a0, a1] w fun e w' => ∃ v, e = .returned v ∧ R v w' :=
  Go.X.calls_of_sx (n := 150) (c := dispatcherlaw14_play_does_b) Try.func30 (by kernel_rfl) (by kernel_rfl) (Nat.le_of_ble_eq_true rfl) (by kernel_rfl) (Eq.mpr (dispatcherlaw14_play_does_eq a0 a1 w R) h)
end Go.Proofs.Ytmnkedgmpbcicaa.XI
set_option linter.unusedVariables false
set_option linter.unusedSimpArgs false
set_option maxRecDepth 8000
namespace Go.Proofs.Ytmnkedgmpbcicaa.Que
open Go Go.X Go.RowKit Go.Proofs.Ytmnkedgmpbcicaa.XF Go.Proofs.Ytmnkedgmpbcicaa.XG Go.Proofs.Ytmnkedgmpbcicaa.XK
section
variable {w0 w w1 : World} {x b3 n : Nat} {s : PlS} {a : Bc}
theorem PlB.onM (h : PlB w0 w x s) {l1 : List Ms} {A1 : List Rc} (h1 : DAt w1 s.k l1 s.D) (h2 : EAt w1 s.d A1 s.v) (hm : Mod (fun b => DF s.k s.D b ∨ sb s.v b) w w1) : PlB w0 w1 x { s with ld := l1, A := A1 } := by
  refine ⟨hm.blk h.blk fun z => ?_, h.pp.move hm fun b z => ?_, h1, h2, h.aQ, h.aD, h.aE, h.fd, h.fe, h.fx⟩
  · rcases z with z | z
    · exact (h.aD _ z).2 rfl
    · exact h.aE _ (.inr z) rfl
  · rcases z with z | z
    · exact ⟨fun y => (h.aQ b (.inl y)).1 z, fun y => (h.aQ b (.inr y)).1 z, h.fd b z⟩
    · exact ⟨fun y => (h.aQ b (.inl y)).2.1 (.inr z), fun y => (h.aQ b (.inr y)).2.1 (.inr z), h.fe b (.inr z)⟩
theorem does_R6 {K : Exit → Sl → World → Prop} {ρ : Sl} (h : PlAt w0 w x s n) (hn : n ≤ 400) (hb : w.heap[b3]? = some (.cells a.enc.toArray tBc (0, 0))) (nb : ¬ s.all x b3) (e0 : ρ 0 = .pointer (some ⟨x, 0, none⟩)) (e3 : ρ 3 = .pointer (some ⟨b3, 0, none⟩))
    (hk : ∀ (ρ' : Sl) (w' : World) (s' : PlS), ρ' 4 = .bool true → PlAt w0 w' x s' (n + 1) → Mod (s.all x) w w' → K .normal ρ' w') : W fn_ Try.prog 150 dispatcherlaw14_play_does_R6 K ρ w := by
  have hmd : Mod none_ w { w with drawn := w.drawn + 1 } := (Mod.refl _ w).drawn _
  have hd := h.calm hmd
  have hbd := hmd.blk hb id
  show W fn_ Try.prog 150 XI.dispatcherlaw14_play_does_R6 K ρ w
  refine XI.dispatcherlaw14_play_does_R6_held (D := []) (fun w' => w'.heap[x]? = some (.cells s.cs tPl (0, 0)) ∧ w'.heap[b3]? = some (.cells a.enc.toArray tBc (0, 0))) ⟨hd.b.blk, hbd⟩ ?_
  generalize ({ w with drawn := w.drawn + 1 } : World) = wd at *
  unfold XI.dispatcherlaw14_play_does_R6_H XI.dispatcherlaw14_play_does_R6_H0
  rw [e0, e3]
  have rr : ∀ w : World, (Instr.fieldAt tRc (.pointer (some ⟨b3, 9, none⟩)) 1).run Try.prog w = .ok (.pointer (some ⟨b3, 10, none⟩)) w := fun w => fld (c := 10) (show fieldOff Try.prog tRc 1 = some 1 by kernel_rfl) rfl w
  have rc : ∀ w : World, (Instr.fieldAt tRc (.pointer (some ⟨b3, 9, none⟩)) 2).run Try.prog w = .ok (.pointer (some ⟨b3, 11, none⟩)) w := fun w => fld (c := 11) (show fieldOff Try.prog tRc 2 = some 2 by kernel_rfl) rfl w
  have mf : ∀ w : World, (Instr.fieldAt tMs (.pointer (some ⟨b3, 1, none⟩)) 1).run Try.prog w = .ok (.pointer (some ⟨b3, 2, none⟩)) w := fun w => fld (c := 2) (show fieldOff Try.prog tMs 1 = some 1 by kernel_rfl) rfl w
  have mc : ∀ w : World, (Instr.fieldAt tMs (.pointer (some ⟨b3, 1, none⟩)) 3).run Try.prog w = .ok (.pointer (some ⟨b3, 4, none⟩)) w := fun w => fld (c := 4) (show fieldOff Try.prog tMs 3 = some 3 by kernel_rfl) rfl w
  have b1 : ∀ w : World, (Instr.fieldAt tBc (.pointer (some ⟨b3, 0, none⟩)) 1).run Try.prog w = .ok (.pointer (some ⟨b3, 1, none⟩)) w := fun w => fld (c := 1) (show fieldOff Try.prog tBc 1 = some 1 by kernel_rfl) rfl w
  have b9 : ∀ w : World, (Instr.fieldAt tBc (.pointer (some ⟨b3, 0, none⟩)) 2).run Try.prog w = .ok (.pointer (some ⟨b3, 9, none⟩)) w := fun w => fld (c := 9) (show fieldOff Try.prog tBc 2 = some 9 by kernel_rfl) rfl w
  refine HN_ptr ?_
  refine HV_of (fun w _ => fld (c := 1) (show fieldOff Try.prog tPl 1 = some 1 by kernel_rfl) rfl w) ?_
  refine HV_of (fun w hw => run_ld1 uPd rfl (pl_c hw.1 (k := 1) rfl)) ?_
  refine HN_ptr ?_
  refine HV_of (fun w _ => fld (c := 0) (show fieldOff Try.prog tPl 0 = some 0 by kernel_rfl) rfl w) ?_
  refine HV_of (fun w hw => run_ld1 uQ rfl (pl_c hw.1 (k := 0) rfl)) ?_
  refine HV_of (fun w _ => b9 w) ?_
  refine HV_of (fun w _ => rr w) ?_
  refine HV_of (fun w hw => act_i hw.2 (n := a.r.rank) rfl) ?_
  refine HV_of (fun w _ => b9 w) ?_
  have key1 : ∀ ρ2 : Sl, ρ2 58 = .pointer (some ⟨b3, 9, none⟩) → ρ2 0 = .pointer (some ⟨x, 0, none⟩) → ρ2 3 = .pointer (some ⟨b3, 0, none⟩) → ρ2 50 = .pointer (some ⟨s.p, 0, none⟩) → ρ2 54 = .pointer (some ⟨s.q, 0, none⟩) → ρ2 57 = .int .i64 a.r.rank → XI.dispatcherlaw14_play_does_R6_H1 (fun w' => w'.heap[x]? = some (.cells s.cs tPl (0, 0)) ∧ w'.heap[b3]? = some (.cells a.enc.toArray tBc (0, 0))) (XI.dispatcherlaw14_play_does_R6_H2 (fun w' => w'.heap[x]? = some (.cells s.cs tPl (0, 0)) ∧ w'.heap[b3]? = some (.cells a.enc.toArray tBc (0, 0))) (XI.dispatcherlaw14_play_does_R6_H3 (fun w' => w'.heap[x]? = some (.cells s.cs tPl (0, 0)) ∧ w'.heap[b3]? = some (.cells a.enc.toArray tBc (0, 0))) (K .normal))) ρ2 wd := by
    intro ρ2 t58 t0 t3 t50 t54 t57
    unfold XI.dispatcherlaw14_play_does_R6_H1
    rw [t58, t0, t3]
    refine HV_of (fun w _ => rc w) ?_
    refine HV_of (fun w hw => act_i hw.2 (n := a.r.call) rfl) ?_
    refine HV_of (fun w _ => b1 w) ?_
    refine HV_of (fun w _ => mf w) ?_
    refine HV_of (fun w hw => act_i hw.2 (n := a.m.frm) rfl) ?_
    refine HV_of (fun w _ => b1 w) ?_
    refine HV_of (fun w _ => mc w) ?_
    refine HV_of (fun w hw => act_i hw.2 (n := a.m.call) rfl) ?_
    refine HN_ptr ?_
    refine HV_of (fun w _ => fld (c := 3) (show fieldOff Try.prog tPl 3 = some 3 by kernel_rfl) rfl w) ?_
    refine HV_of (fun w hw => run_ld1 uPE rfl (pl_c hw.1 (k := 3) rfl)) ?_
    have key2 : ∀ ρ3 : Sl, ρ3 0 = .pointer (some ⟨x, 0, none⟩) → ρ3 3 = .pointer (some ⟨b3, 0, none⟩) → ρ3 50 = .pointer (some ⟨s.p, 0, none⟩) → ρ3 54 = .pointer (some ⟨s.q, 0, none⟩) → ρ3 57 = .int .i64 a.r.rank → ρ3 60 = .int .i64 a.r.call → ρ3 63 = .int .i64 a.m.frm → ρ3 66 = .int .i64 a.m.call → ρ3 71 = .pointer (some ⟨s.d, 0, none⟩) → XI.dispatcherlaw14_play_does_R6_H2 (fun w' => w'.heap[x]? = some (.cells s.cs tPl (0, 0)) ∧ w'.heap[b3]? = some (.cells a.enc.toArray tBc (0, 0))) (XI.dispatcherlaw14_play_does_R6_H3 (fun w' => w'.heap[x]? = some (.cells s.cs tPl (0, 0)) ∧ w'.heap[b3]? = some (.cells a.enc.toArray tBc (0, 0))) (K .normal)) ρ3 wd := by
      intro ρ3 u0 u3 u50 u54 u57 u60 u63 u66 u71
      unfold XI.dispatcherlaw14_play_does_R6_H2
      rw [u0, u3]
      refine HN_ptr ?_
      refine HV_of (fun w _ => fld (c := 2) (show fieldOff Try.prog tPl 2 = some 2 by kernel_rfl) rfl w) ?_
      refine HV_of (fun w hw => run_ld1 uPW rfl (pl_c hw.1 (k := 2) rfl)) ?_
      refine HV_of (fun w _ => b9 w) ?_
      refine HV_of (fun w _ => rr w) ?_
      refine HV_of (fun w hw => act_i hw.2 (n := a.r.rank) rfl) ?_
      refine HV_of (fun w _ => b9 w) ?_
      refine HV_of (fun w _ => rc w) ?_
      refine HV_of (fun w hw => act_i hw.2 (n := a.r.call) rfl) ?_
      refine HV_of (fun w _ => b1 w) ?_
      refine HV_of (fun w _ => mf w) ?_
      have key3 : ∀ ρ4 : Sl, ρ4 3 = .pointer (some ⟨b3, 0, none⟩) → ρ4 50 = .pointer (some ⟨s.p, 0, none⟩) → ρ4 54 = .pointer (some ⟨s.q, 0, none⟩) → ρ4 57 = .int .i64 a.r.rank → ρ4 60 = .int .i64 a.r.call → ρ4 63 = .int .i64 a.m.frm → ρ4 66 = .int .i64 a.m.call → ρ4 71 = .pointer (some ⟨s.d, 0, none⟩) → ρ4 75 = .pointer (some ⟨s.k, 0, none⟩) → ρ4 78 = .int .i64 a.r.rank → ρ4 81 = .int .i64 a.r.call → ρ4 83 = .pointer (some ⟨b3, 2, none⟩) → XI.dispatcherlaw14_play_does_R6_H3 (fun w' => w'.heap[x]? = some (.cells s.cs tPl (0, 0)) ∧ w'.heap[b3]? = some (.cells a.enc.toArray tBc (0, 0))) (K .normal) ρ4 wd := by
        intro ρ4 v3 v50 v54 v57 v60 v63 v66 v71 v75 v78 v81 v83
        unfold XI.dispatcherlaw14_play_does_R6_H3
        rw [v83, v3, v50, v54, v57, v60, v63, v66, v71, v75, v78, v81]
        refine HV_of (fun w hw => act_i hw.2 (n := a.m.frm) rfl) ?_
        refine HV_of (fun w _ => b1 w) ?_
        refine HV_of (fun w _ => mc w) ?_
        refine HV_of (fun w hw => act_i hw.2 (n := a.m.call) rfl) ?_
        have hl := h.hl
        have hA := h.hA
        refine CK_st Try.func17 rfl rfl (Match_ok hd.b.pp (fun i => by have := h.hR i; omega) h.ok.frm (by omega) a.r.rank a.r.call a.m.frm a.m.call) ?_
        rintro _ w1 ⟨rfl, h1, hm1⟩
        have hB1 := hd.b.onP h1 (MFr.m hm1)
        have hb1 := hm1.blk hbd fun z => nb (.inl z)
        refine ⟨⟨hB1.blk, hb1⟩, ?_⟩
        have hq1 : DAt w1 s.k s.ls s.D := by
          have := hB1.dq
          rw [show ({ s with ls := (matchV s.R s.ls a.r.rank a.r.call a.m.frm a.m.call).1.2, V := s.V, R := (matchV s.R s.ls a.r.rank a.r.call a.m.frm a.m.call).1.1, vs := s.vs } : PlS).ld = s.ls from h.e] at this
          exact this
        have hE1 : EAt w1 s.d s.A s.v := hB1.ed
        refine CK_st Try.func54 rfl rfl (RMatch_ok hE1 (by omega) hq1 (by omega) (stab_ex ltM_wo _) h.uniq (fun b z y => (hd.b.aD b y).1 z) a.r.rank a.r.call a.m.frm a.m.call) ?_
        rintro _ w2 ⟨S, hS, rfl, hE2, hq2, hm2⟩
        have hB2 := hB1.onM hq2 hE2 hm2
        refine ⟨⟨hB2.blk, hm2.blk hb1 fun z => ?_⟩, ?_⟩
        · rcases z with z | z
          · exact nb (.inr (.inl z))
          · exact nb (.inr (.inr (.inl (.inr z))))
        obtain ⟨c1, c2, c3⟩ := rel_match h.rel h.ok h.uniq hS (left_uniq h.uniq hS) a.r.rank a.r.call a.m.frm a.m.call
        rw [c1]
        refine HB_of (v := .bool true) (fun _ => rfl) (fun w => by simp [go_sem]) ?_
        refine hk _ w2 _ rfl ⟨hB2, c2, c3, h.ok.step (.mtch ..), fun i => ?_, ?_, ?_⟩ (((hmd.mono fun b _ z => z.elim : Mod (s.all x) w wd).then hm1 fun i hi z => .inl z).then hm2 fun i hi z => z.elim (fun y => .inr (.inl y)) fun y => .inr (.inr (.inl (.inr y))))
        · show ((matchV s.R s.ls a.r.rank a.r.call a.m.frm a.m.call).1.1 i).length ≤ n + 1
          rw [match_len]; exact Nat.le_succ_of_le (h.hR i)
        · show ((matchV s.R s.ls a.r.rank a.r.call a.m.frm a.m.call).1.2).length ≤ n + 1
          rw [match_ml]; omega
        · show (matchA s.A s.ls S a.r.rank a.r.call a.m.frm a.m.call).1.1.length ≤ n + 1
          unfold matchA
          split
          · show (s.A.map _).length ≤ n + 1
            rw [List.length_map]; omega
          · show s.A.length ≤ n + 1
            omega
      exact key3 _ (by first | exact u3 | rfl) (by first | exact u50 | rfl) (by first | exact u54 | rfl) (by first | exact u57 | rfl) (by first | exact u60 | rfl) (by first | exact u63 | rfl) (by first | exact u66 | rfl) (by first | exact u71 | rfl) rfl rfl rfl rfl
    exact key2 _ (by first | exact t0 | rfl) (by first | exact t3 | rfl) (by first | exact t50 | rfl) (by first | exact t54 | rfl) (by first | exact t57 | rfl) rfl rfl rfl rfl
  exact key1 _ rfl (by first | exact e0 | rfl) (by first | exact e3 | rfl) rfl rfl rfl
end
end Go.Proofs.Ytmnkedgmpbcicaa.Que
set_option linter.unusedVariables false
set_option linter.unusedSimpArgs false
set_option maxRecDepth 8000
namespace Go.Proofs.Ytmnkedgmpbcicaa.Que
open Go Go.X Go.RowKit Go.Proofs.Ytmnkedgmpbcicaa.XF Go.Proofs.Ytmnkedgmpbcicaa.XG Go.Proofs.Ytmnkedgmpbcicaa.XK
theorem PlB.move {S : Nat → Prop} {w0 w w1 : World} {x : Nat} {s : PlS} (h : PlB w0 w x s) (hm : Mod S w w1) (hS : ∀ b, S b → ¬ s.all x b ∧ w0.heap.size ≤ b) : PlB w0 w1 x s :=
  ⟨hm.blk h.blk fun z => (hS _ z).1 (.inr (.inr (.inr rfl))), h.pp.move hm fun b z => ⟨fun y => (hS b z).1 (.inl (.inl y)), fun y => (hS b z).1 (.inl (.inr y)), (hS b z).2⟩, h.dq.mod hm fun b z y => (hS b y).1 (.inr (.inl z)), h.ed.mod hm fun b z y => (hS b y).1 (.inr (.inr (.inl z))), h.aQ, h.aD, h.aE, h.fd, h.fe, h.fx⟩
def oldR (rk : Int) : Rc := ⟨[], rk, 1099511627776, -1, -1, 0, false, 0, 0⟩
section
variable {w0 w : World} {x b3 n : Nat} {s s' : PlS} {a : Bc}
theorem does_R11 {K : Exit → Sl → World → Prop} {ρ : Sl} (h : PlB w0 w x s') (ho : PP w0 w s.q s.p s.ls s.V s.R s.vs) (hap : ∀ b, s.F b → ¬ s'.all x b) (hlen : ∀ i, (s.R i).length ≤ 1000000) (hl : s.ls.length ≤ 500000) (hb : w.heap[b3]? = some (.cells a.enc.toArray tBc (0, 0))) (nb : ¬ s.F b3) (e0 : ρ 0 = .pointer (some ⟨x, 0, none⟩)) (e3 : ρ 3 = .pointer (some ⟨b3, 0, none⟩)) (e5 : ρ 5 = .pointer (some ⟨s.q, 0, none⟩)) (e6 : ρ 6 = .pointer (some ⟨s.p, 0, none⟩))
    (hk : ∀ (ρ' : Sl) (w' : World), ρ' 4 = .bool true → PlB w0 w' x s' → Mod s.F w w' → K .ret ρ' w') : sx fn_ Try.prog 150 dispatcherlaw14_play_does_R11 K ρ w := by
  rw [dispatcherlaw14_play_does_R11_eq]; unfold dispatcherlaw14_play_does_R11_F
  rw [e0, e3, e5, e6]
  have b1 : ∀ w : World, (Instr.fieldAt tBc (.pointer (some ⟨b3, 0, none⟩)) 1).run Try.prog w = .ok (.pointer (some ⟨b3, 1, none⟩)) w := fun w => fld (c := 1) (show fieldOff Try.prog tBc 1 = some 1 by kernel_rfl) rfl w
  have b9 : ∀ w : World, (Instr.fieldAt tBc (.pointer (some ⟨b3, 0, none⟩)) 2).run Try.prog w = .ok (.pointer (some ⟨b3, 9, none⟩)) w := fun w => fld (c := 9) (show fieldOff Try.prog tBc 2 = some 9 by kernel_rfl) rfl w
  rw [VK_eq_of (b1 w), VK_eq_of (fld (c := 2) (show fieldOff Try.prog tMs 1 = some 1 by kernel_rfl) rfl w), VK_eq_of (act_i hb (n := a.m.frm) rfl), VK_eq_of (b1 w), VK_eq_of (fld (c := 4) (show fieldOff Try.prog tMs 3 = some 3 by kernel_rfl) rfl w), VK_eq_of (act_i hb (n := a.m.call) rfl)]
  refine CK_st Try.func45 rfl rfl (Take_ok ho.qa (by omega) a.m.frm a.m.call) ?_
  rintro _ w1 ⟨_, h1, f1⟩
  have ho1 := ho.onQ h1 f1
  have hP1 := h.move f1.mod fun b z => ⟨hap b (.inl z), ho.fq b z⟩
  have hb1 := f1.mod.blk hb fun z => nb (.inl z)
  rw [VK_eq_of (b9 w1), VK_eq_of (fld (c := 10) (show fieldOff Try.prog tRc 1 = some 1 by kernel_rfl) rfl w1), VK_eq_of (act_i hb1 (n := a.r.rank) rfl), build_ok (cs := (oldR a.r.rank).enc.toArray) (by kernel_rfl)]
  refine CK_st Try.func14 rfl rfl (Post_ok ho1.pa hlen (oldR a.r.rank)) ?_
  rintro _ w2 ⟨_, vs2, h2, f2⟩
  have hP2 := hP1.move f2.mod fun b z => ⟨hap b (.inr z), ho1.fp b z⟩
  rw [NK_ptr, VK_eq_of (fld (c := 0) (show fieldOff Try.prog tPl 0 = some 0 by kernel_rfl) rfl w2), VK_eq_of (run_ld1 uQ rfl (pl_c hP2.blk (k := 0) (u := .pointer (some ⟨s'.q, 0, none⟩)) rfl)), BK_neqP uQ]
  simp only [Option.isNone_some, Bool.not_false, ↓VG_u, ↓UG_u, ↓MG_u, ↓NG_u, ↓PG_u, ↓BG_u, ↓CG_u, ↓IG_u, ↓VGtt, ↓VGtf, ↓VGft, ↓VGff, ↓UGtt, ↓UGtf, ↓UGft, ↓UGff, ↓MGtt, ↓MGtf, ↓MGft, ↓MGff, ↓NGtt, ↓NGtf, ↓NGft, ↓NGff, ↓PGtt, ↓PGtf, ↓PGft, ↓PGff, ↓BGtt, ↓BGtf, ↓BGft, ↓BGff, ↓CGtt, ↓CGtf, ↓CGft, ↓CGff, ↓IGtt, ↓IGtf, ↓IGft, ↓IGff, ↓PKt, ↓PKf, ↓CDt, ↓CDf, ↓NOTt, ↓NOTf, ↓NK_ptr]
  rw [VK_eq_of (fld (c := 1) (show fieldOff Try.prog tPl 1 = some 1 by kernel_rfl) rfl w2)]
  try simp only [↓VG_u, ↓UG_u, ↓MG_u, ↓NG_u, ↓PG_u, ↓BG_u, ↓CG_u, ↓IG_u, ↓VGtt, ↓VGtf, ↓VGft, ↓VGff, ↓UGtt, ↓UGtf, ↓UGft, ↓UGff, ↓MGtt, ↓MGtf, ↓MGft, ↓MGff, ↓NGtt, ↓NGtf, ↓NGft, ↓NGff, ↓PGtt, ↓PGtf, ↓PGft, ↓PGff, ↓BGtt, ↓BGtf, ↓BGft, ↓BGff, ↓CGtt, ↓CGtf, ↓CGft, ↓CGff, ↓IGtt, ↓IGtf, ↓IGft, ↓IGff, ↓PKt, ↓PKf, ↓CDt, ↓CDf, ↓NOTt, ↓NOTf, ↓NK_ptr]
  rw [VK_eq_of (run_ld1 uPd rfl (pl_c hP2.blk (k := 1) (u := .pointer (some ⟨s'.p, 0, none⟩)) rfl))]
  try simp only [↓VG_u, ↓UG_u, ↓MG_u, ↓NG_u, ↓PG_u, ↓BG_u, ↓CG_u, ↓IG_u, ↓VGtt, ↓VGtf, ↓VGft, ↓VGff, ↓UGtt, ↓UGtf, ↓UGft, ↓UGff, ↓MGtt, ↓MGtf, ↓MGft, ↓MGff, ↓NGtt, ↓NGtf, ↓NGft, ↓NGff, ↓PGtt, ↓PGtf, ↓PGft, ↓PGff, ↓BGtt, ↓BGtf, ↓BGft, ↓BGff, ↓CGtt, ↓CGtf, ↓CGft, ↓CGff, ↓IGtt, ↓IGtf, ↓IGft, ↓IGff, ↓PKt, ↓PKf, ↓CDt, ↓CDf, ↓NOTt, ↓NOTf, ↓NK_ptr]
  rw [BK_neqP uPd]
  simp only [Option.isNone_some, Bool.not_false, ↓VG_u, ↓UG_u, ↓MG_u, ↓NG_u, ↓PG_u, ↓BG_u, ↓CG_u, ↓IG_u, ↓VGtt, ↓VGtf, ↓VGft, ↓VGff, ↓UGtt, ↓UGtf, ↓UGft, ↓UGff, ↓MGtt, ↓MGtf, ↓MGft, ↓MGff, ↓NGtt, ↓NGtf, ↓NGft, ↓NGff, ↓PGtt, ↓PGtf, ↓PGft, ↓PGff, ↓BGtt, ↓BGtf, ↓BGft, ↓BGff, ↓CGtt, ↓CGtf, ↓CGft, ↓CGff, ↓IGtt, ↓IGtf, ↓IGft, ↓IGff, ↓PKt, ↓PKf, ↓CDt, ↓CDf, ↓NOTt, ↓NOTf, ↓NK_ptr]
  exact hk _ w2 rfl hP2 ((f1.mod.mono fun b _ z => .inl z : Mod s.F w w1).then f2.mod fun i hi z => .inr z)
theorem does_R9 {K : Exit → Sl → World → Prop} {ρ : Sl} (h : PlAt w0 w x s n) (hn : n ≤ 400) (hb : w.heap[b3]? = some (.cells a.enc.toArray tBc (0, 0))) (nb : ¬ s.all x b3) (e0 : ρ 0 = .pointer (some ⟨x, 0, none⟩)) (e3 : ρ 3 = .pointer (some ⟨b3, 0, none⟩)) (e5 : ρ 5 = .pointer (some ⟨s.q, 0, none⟩)) (e6 : ρ 6 = .pointer (some ⟨s.p, 0, none⟩))
    (hk : ∀ (ρ' : Sl) (w' : World) (s' : PlS), ρ' 4 = .bool true → PlAt w0 w' x s' n → Mod (s.all x) w w' → K .ret ρ' w') : sx fn_ Try.prog 150 dispatcherlaw14_play_does_R9 K ρ w := by
  rw [dispatcherlaw14_play_does_R9_eq]; unfold dispatcherlaw14_play_does_R9_F
  rw [e0, e5, e6]
  have hl := h.hl
  have hA := h.hA
  have hR : ∀ i, (s.R i).length ≤ 1000000 := fun i => by have := h.hR i; omega
  have hs0 := h.b.pp.mod.size
  have hxl := h.b.xl
  have hxw := h.b.fx
  have hbl := X.blk_lt hb
  refine CK_st Try.func55 rfl rfl (Copy_ok h.b.pp.qa (by omega)) ?_
  rintro _ w1 ⟨q1, V1, rfl, h1, hF1, hm1⟩
  have z1 := hm1.size
  refine CK_st Try.func28 rfl rfl (PCopy_ok (h.b.pp.pa.calm hm1) hR) ?_
  rintro _ w2 ⟨p1, vs1, rfl, h2, hF2, hm2⟩
  have z2 := hm2.size
  have hm02 := hm1.trans hm2
  have hx2 := hm02.blk h.b.blk id
  rw [NK_ptr, VK_eq_of (fld (c := 0) (show fieldOff Try.prog tPl 0 = some 0 by kernel_rfl) rfl w2)]
  refine stC rfl (by kernel_rfl) rfl hx2 (by simp [PlS.cs]) fun w3 hx3 hm3 hz3 => ?_
  rw [NK_ptr, VK_eq_of (fld (c := 1) (show fieldOff Try.prog tPl 1 = some 1 by kernel_rfl) rfl w3)]
  refine stC rfl (by kernel_rfl) rfl hx3 (by simp [PlS.cs]) fun w4 hx4 hm4 hz4 => ?_
  have key : ∀ ρ1 : Sl, ρ1 0 = .pointer (some ⟨x, 0, none⟩) → ρ1 3 = .pointer (some ⟨b3, 0, none⟩) → ρ1 5 = .pointer (some ⟨s.q, 0, none⟩) → ρ1 6 = .pointer (some ⟨s.p, 0, none⟩) → W fn_ Try.prog 150 dispatcherlaw14_play_does_R10 (seqK (sx fn_ Try.prog 150 dispatcherlaw14_play_does_R11 K) K) ρ1 w4 := by
    intro ρ1 t0 t3 t5 t6
    have hmd : Mod none_ w4 { w4 with drawn := w4.drawn + 1 } := (Mod.refl _ w4).drawn _
    refine dispatcherlaw14_play_does_R10_held (D := []) (fun _ => True) trivial ?_
    have hx5 := hmd.blk hx4 id
    have zd : ({ w4 with drawn := w4.drawn + 1 } : World).heap.size = w4.heap.size := rfl
    generalize ({ w4 with drawn := w4.drawn + 1 } : World) = w5 at *
    have hm25 : Mod (fun b => b = x) w2 w5 := (hm3.trans hm4).trans (hmd.mono fun b _ z => z.elim)
    have hm05 : Mod (fun b => b = x) w w5 := (hm02.mono fun b _ z => z.elim).trans hm25
    have hdq5 := h.dq.mod hm05 fun b z y => (h.b.aD b z).2 y
    have hed5 := h.b.ed.mod hm05 fun b z y => (h.b.aE b z) y
    have hc2 : ∀ w' : World, Mod none_ w5 w' → w'.cell? ⟨x, 2, none⟩ = some (.pointer (some ⟨s.k, 0, none⟩)) := fun w' hm => by
      rw [cell_blk (hm.blk hx5 id)]; rfl
    have hc3 : ∀ w' : World, Mod none_ w5 w' → w'.cell? ⟨x, 3, none⟩ = some (.pointer (some ⟨s.d, 0, none⟩)) := fun w' hm => by
      rw [cell_blk (hm.blk hx5 id)]; rfl
    unfold dispatcherlaw14_play_does_R10_H
    rw [t0]
    have f2 : ∀ w : World, (Instr.fieldAt tPl (.pointer (some ⟨x, 0, none⟩)) 2).run Try.prog w = .ok (.pointer (some ⟨x, 2, none⟩)) w := fun w => fld (c := 2) (show fieldOff Try.prog tPl 2 = some 2 by kernel_rfl) rfl w
    have f3 : ∀ w : World, (Instr.fieldAt tPl (.pointer (some ⟨x, 0, none⟩)) 3).run Try.prog w = .ok (.pointer (some ⟨x, 3, none⟩)) w := fun w => fld (c := 3) (show fieldOff Try.prog tPl 3 = some 3 by kernel_rfl) rfl w
    refine HN_ptr ?_
    refine HV_of (fun w _ => f2 w) ?_
    refine HN_ptr ?_
    refine HV_of (fun w _ => f3 w) ?_
    -- what stands behind the document's second copy
    have fin : ∀ (w6 w7 : World) (k1 d1 : Nat) (D1 v1 : Value) (K2 : Value → Value → Value → Value → World → Prop), Mod none_ w5 w6 → DAt w6 k1 s.ls D1 → (∀ b, DF k1 D1 b → w5.heap.size ≤ b) → Mod none_ w6 w7 → EAt w7 d1 s.A v1 → (∀ b, EF d1 v1 b → w6.heap.size ≤ b) →
        (∀ (a1 a2 a3 a4 : Value) (w9 : World) (s' : PlS), PlAt w0 w9 x s' n → PP w0 w9 s.q s.p s.ls s.V s.R s.vs → (∀ b, s.F b → ¬ s'.all x b) → w9.heap[b3]? = some (.cells a.enc.toArray tBc (0, 0)) → Mod (fun b => b = x) w w9 → K2 a1 a2 a3 a4 w9) →
        HK Try.prog (fun _ => True) (nilCk (.pointer (some ⟨x, 0, none⟩))) fun x120 => HK Try.prog (fun _ => True) (do pure (Next.value (← Instr.fieldAt tPl x120 2))) fun x121 => UK Try.prog (Instr.storeAt 66 x121 (.pointer (some ⟨k1, 0, none⟩))) w7 fun _ w => True ∧ (HK Try.prog (fun _ => True) (nilCk (.pointer (some ⟨x, 0, none⟩))) fun x122 => HK Try.prog (fun _ => True) (do pure (Next.value (← Instr.fieldAt tPl x122 3))) fun x123 => UK Try.prog (Instr.storeAt 67 x123 (.pointer (some ⟨d1, 0, none⟩))) w fun _ w => True ∧ (K2 x120 x121 x122 x123 w)) := by
      intro w6 w7 k1 d1 D1 v1 K2 hm6 hq6 hqf hm7 he7 hef hK
      have hx7 := hm7.blk (hm6.blk hx5 id) id
      refine HN_ptr ?_
      refine HV_of (fun w _ => f2 w) ?_
      refine stC rfl (by kernel_rfl) rfl hx7 (by simp [PlS.cs]) fun w8 hx8 hm8 hz8 => ⟨trivial, ?_⟩
      refine HN_ptr ?_
      refine HV_of (fun w _ => f3 w) ?_
      refine stC rfl (by kernel_rfl) rfl hx8 (by simp [PlS.cs]) fun w9 hx9 hm9 hz9 => ⟨trivial, ?_⟩
      have y6 := hm6.size
      have y7 := hm7.size
      have y5 := hm25.size
      have hm79 : Mod (fun b => b = x) w7 w9 := hm8.trans hm9
      have hm69 : Mod (fun b => b = x) w6 w9 := (hm7.mono fun b _ z => z.elim).trans hm79
      have hm59 : Mod (fun b => b = x) w5 w9 := (hm6.mono fun b _ z => z.elim).trans hm69
      have hm29 := hm25.trans hm59
      have hm19 : Mod (fun b => b = x) w1 w9 := (hm2.mono fun b _ z => z.elim).trans hm29
      have hm09 : Mod (fun b => b = x) w w9 := (hm1.mono fun b _ z => z.elim).trans hm19
      have o1 : ∀ b, V1.F q1 b → b < w1.heap.size := h1.old
      have o2 : ∀ b, PF p1 vs1 b → b < w2.heap.size := h2.old
      have o6 : ∀ b, DF k1 D1 b → b < w6.heap.size := hq6.old
      have hPn : PlB w0 w9 x ⟨q1, p1, k1, d1, s.ls, V1, s.R, vs1, s.ls, D1, s.A, v1⟩ := by
        refine ⟨hx9, ⟨h1.mod hm19 fun b z y => ?_, h2.mod hm29 fun b z y => ?_, fun b z y => ?_, fun b z => ?_, fun b z => ?_, h.b.pp.mod.then hm09 fun i hi z => ?_⟩, hq6.mod hm69 fun b z y => ?_, he7.mod hm79 fun b z y => ?_, fun b z => ⟨fun y => ?_, fun y => ?_, fun y => ?_⟩, fun b z => ⟨fun y => ?_, fun y => ?_⟩, fun b z y => ?_, fun b z => ?_, fun b z => ?_, h.b.fx⟩
        · have := hF1 b z; have := h.b.xl; omega
        · have := hF2 b z; have := h.b.xl; omega
        · have := o1 b z; have := hF2 b y; omega
        · have := hF1 b z; omega
        · have := hF2 b z; omega
        · omega
        · have := hqf b z; have := h.b.xl; omega
        · have := hef b z; have := h.b.xl; omega
        · have := hqf b y
          rcases z with z | z
          · have := o1 b z; omega
          · have := o2 b z; omega
        · have := hef b y
          rcases z with z | z
          · have := o1 b z; omega
          · have := o2 b z; omega
        · rcases z with z | z
          · have := hF1 b z; omega
          · have := hF2 b z; omega
        · have := hef b y; have := o6 b z; omega
        · have := hqf b z; omega
        · have := hef b z; omega
        · have := hqf b z; omega
        · have := hef b z; omega
      refine hK _ _ _ _ w9 _ ⟨hPn, rfl, h.rel, h.ok, h.hR, h.hl, h.hA⟩ (h.b.pp.move hm09 fun b z => ?_) (fun b z y => ?_) (hm09.blk hb fun z => nb (.inr (.inr (.inr z)))) hm09
      · subst z
        exact ⟨fun y => (h.b.aQ b (.inl y)).2.2 rfl, fun y => (h.b.aQ b (.inr y)).2.2 rfl, h.b.fx⟩
      · have hb' := h.b.oldF b z
        rcases y with (y | y) | y | y | y
        · have := hF1 b y; omega
        · have := hF2 b y; omega
        · have := hqf b y; omega
        · have := hef b y; omega
        · exact (h.b.aQ b z).2.2 y
    have last : ∀ (ρ2 : Sl) (w9 : World) (s' : PlS), ρ2 0 = .pointer (some ⟨x, 0, none⟩) → ρ2 3 = .pointer (some ⟨b3, 0, none⟩) → ρ2 5 = .pointer (some ⟨s.q, 0, none⟩) → ρ2 6 = .pointer (some ⟨s.p, 0, none⟩) → PlAt w0 w9 x s' n → PP w0 w9 s.q s.p s.ls s.V s.R s.vs → (∀ b, s.F b → ¬ s'.all x b) → w9.heap[b3]? = some (.cells a.enc.toArray tBc (0, 0)) → Mod (fun b => b = x) w w9 → seqK (sx fn_ Try.prog 150 dispatcherlaw14_play_does_R11 K) K .normal ρ2 w9 := by
      intro ρ2 w9 s' u0 u3 u5 u6 hP9 ho9 hap9 hb9 hm9
      rw [sq_n]
      refine does_R11 (s := s) (s' := s') hP9.b ho9 hap9 hR (by omega) hb9 (fun z => nb (.inl z)) u0 u3 u5 u6 ?_
      intro ρ3 w10 v4 hP10 hm10
      exact hk ρ3 w10 s' v4 ⟨hP10, hP9.e, hP9.rel, hP9.ok, hP9.hR, hP9.hl, hP9.hA⟩ ((hm9.mono fun b _ z => .inr (.inr (.inr z)) : Mod (s.all x) w w9).then hm10 fun i hi z => .inl z)
    refine ⟨?_, ?_⟩
    · rw [VK_eq_of (run_ld1 uPW rfl (hc2 w5 (Mod.refl _ _)))]
      refine ⟨trivial, ?_, ?_⟩
      · refine CK_st Try.func56 rfl rfl (RCopy_ok hdq5 (by omega)) ?_
        rintro _ w6 ⟨k1, D1, rfl, hq6, hqf, hm6⟩
        refine ⟨trivial, ?_⟩
        rw [VK_eq_of (run_ld1 uPE rfl (hc3 w6 hm6))]
        refine ⟨trivial, ?_⟩
        refine CK_st Try.func57 rfl rfl (RCopyP_ok (hed5.calm hm6) (by omega)) ?_
        rintro _ w7 ⟨d1, v1, rfl, he7, hef, hm7⟩
        refine ⟨trivial, ?_⟩
        refine fin w6 w7 k1 d1 D1 v1 _ hm6 hq6 hqf hm7 he7 hef ?_
        intro a1 a2 a3 a4 w9 s' hP9 ho9 hap9 hb9 hm9
        exact last _ w9 s' (by first | exact t0 | rfl) (by first | exact t3 | rfl) (by first | exact t5 | rfl) (by first | exact t6 | rfl) hP9 ho9 hap9 hb9 hm9
      · rw [VK_eq_of (run_ld1 uPE rfl (hc3 w5 (Mod.refl _ _)))]
        refine ⟨trivial, ?_⟩
        refine CK_st Try.func56 rfl rfl (RCopy_ok hdq5 (by omega)) ?_
        rintro _ w6 ⟨k1, D1, rfl, hq6, hqf, hm6⟩
        refine ⟨trivial, ?_⟩
        refine CK_st Try.func57 rfl rfl (RCopyP_ok (hed5.calm hm6) (by omega)) ?_
        rintro _ w7 ⟨d1, v1, rfl, he7, hef, hm7⟩
        refine ⟨trivial, ?_⟩
        refine fin w6 w7 k1 d1 D1 v1 _ hm6 hq6 hqf hm7 he7 hef ?_
        intro a1 a2 a3 a4 w9 s' hP9 ho9 hap9 hb9 hm9
        exact last _ w9 s' (by first | exact t0 | rfl) (by first | exact t3 | rfl) (by first | exact t5 | rfl) (by first | exact t6 | rfl) hP9 ho9 hap9 hb9 hm9
    · rw [VK_eq_of (run_ld1 uPE rfl (hc3 w5 (Mod.refl _ _)))]
      refine ⟨trivial, ?_⟩
      rw [VK_eq_of (run_ld1 uPW rfl (hc2 w5 (Mod.refl _ _)))]
      refine ⟨trivial, ?_⟩
      refine CK_st Try.func56 rfl rfl (RCopy_ok hdq5 (by omega)) ?_
      rintro _ w6 ⟨k1, D1, rfl, hq6, hqf, hm6⟩
      refine ⟨trivial, ?_⟩
      refine CK_st Try.func57 rfl rfl (RCopyP_ok (hed5.calm hm6) (by omega)) ?_
      rintro _ w7 ⟨d1, v1, rfl, he7, hef, hm7⟩
      refine ⟨trivial, ?_⟩
      refine fin w6 w7 k1 d1 D1 v1 _ hm6 hq6 hqf hm7 he7 hef ?_
      intro a1 a2 a3 a4 w9 s' hP9 ho9 hap9 hb9 hm9
      exact last _ w9 s' (by first | exact t0 | rfl) (by first | exact t3 | rfl) (by first | exact t5 | rfl) (by first | exact t6 | rfl) hP9 ho9 hap9 hb9 hm9
  exact key _ (by first | exact e0 | rfl) (by first | exact e3 | rfl) (by first | exact e5 | rfl) (by first | exact e6 | rfl)
end
end Go.Proofs.Ytmnkedgmpbcicaa.Que
set_option linter.unusedVariables false
set_option linter.unusedSimpArgs false
set_option maxRecDepth 8000
namespace Go.Proofs.Ytmnkedgmpbcicaa.Que
open Go Go.X Go.RowKit Go.Proofs.Ytmnkedgmpbcicaa.XF Go.Proofs.Ytmnkedgmpbcicaa.XG Go.Proofs.Ytmnkedgmpbcicaa.XK
section
variable {w0 w : World} {x n : Nat} {s : PlS}
abbrev DoesP (w0 w : World) (x n : Nat) (s : PlS) : Value → World → Prop := fun u w' => u = .bool true ∧ (∃ s', PlAt w0 w' x s' (n + 1)) ∧ Mod (s.all x) w w'
theorem PlAt.more {n : Nat} (h : PlAt w0 w x s n) : PlAt w0 w x s (n + 1) := ⟨h.b, h.e, h.rel, h.ok, fun i => Nat.le_succ_of_le (h.hR i), Nat.le_succ_of_le h.hl, Nat.le_succ_of_le h.hA⟩
theorem does_R8 {K : Exit → Sl → World → Prop} {ρ : Sl} (h : PlAt w0 w x s n) (e0 : ρ 0 = .pointer (some ⟨x, 0, none⟩))
    (hk : ∀ (ρ' : Sl) (w' : World), ρ' 5 = .pointer (some ⟨s.q, 0, none⟩) → ρ' 6 = .pointer (some ⟨s.p, 0, none⟩) → ρ' 0 = ρ 0 → ρ' 3 = ρ 3 → Mod none_ w w' → K .normal ρ' w') : W fn_ Try.prog 150 dispatcherlaw14_play_does_R8 K ρ w := by
  refine dispatcherlaw14_play_does_R8_tail (D := []) ?_
  have hmd : Mod none_ w { w with drawn := w.drawn + 1 } := (Mod.refl _ w).drawn _
  generalize ({ w with drawn := w.drawn + 1 } : World) = wd at *
  unfold dispatcherlaw14_play_does_R8_T
  rw [e0]
  intro C
  have hC : ∀ w', C w' → w'.heap[x]? = some (.cells s.cs tPl (0, 0)) := fun w' hw => by cases (show w' = wd from hw); exact hmd.blk h.b.blk id
  refine QN_ptr ?_
  refine Qfo (show fieldOff Try.prog tPl 0 = some 0 by kernel_rfl) ?_
  refine QV_of (fun w' hw => run_ld1 uQ rfl (v := .pointer (some ⟨s.q, 0, none⟩)) (by rw [add_pl]; exact pl_c (hC w' hw) (k := 0) rfl)) ?_
  refine QN_ptr ?_
  refine Qfo (show fieldOff Try.prog tPl 1 = some 1 by kernel_rfl) ?_
  refine QV_of (fun w' hw => run_ld1 uPd rfl (v := .pointer (some ⟨s.p, 0, none⟩)) (by rw [add_pl]; exact pl_c (hC w' hw) (k := 1) rfl)) ?_
  exact hk _ wd rfl rfl (by first | rfl | exact e0.symm) rfl hmd
theorem does_ok (h : PlAt w0 w x s n) (hn : n ≤ 400) (a : Bc) : Rt Try.prog 30 #[.pointer (some ⟨x, 0, none⟩), .agg a.enc.toArray] w (DoesP w0 w x n s) := by
  refine dispatcherlaw14_play_does_calls ?_
  unfold dispatcherlaw14_play_does_F
  refine box_k (cs := a.enc.toArray) rfl fun w1 hb1 hm1 hz1 => ?_
  have h1 := h.calm hm1
  have nb : ¬ s.all x w.heap.size := fun z => by have := h.b.oldA _ z; omega
  have g0 : FO Try.prog w1 tBc 0 0 ⟨w.heap.size, 0, none⟩ 5 (.int .u8 a.kind) := FO.blk hb1 (by kernel_rfl) vU8 rfl rfl
  have step : ∀ (ρ : Sl) (b : Bool) (kd : Int), ρ 10 = .bool b → ρ 9 = .int .u8 kd → ρ 0 = .pointer (some ⟨x, 0, none⟩) → ρ 3 = .pointer (some ⟨w.heap.size, 0, none⟩) → sx fn_ Try.prog 150 dispatcherlaw14_play_does_R0 (blkK 0 (seqK (sx fn_ Try.prog 150 dispatcherlaw14_play_does_R1 (retK Try.prog [ResultVar.tmp 4] (DoesP w0 w x n s))) (retK Try.prog [ResultVar.tmp 4] (DoesP w0 w x n s)))) ρ w1 := by
    intro ρ b kd e10 e9 e0 e3
    have fin : ∀ (ρ' : Sl) (w' : World) (s' : PlS), ρ' 4 = .bool true → PlAt w0 w' x s' (n + 1) → Mod (s.all x) w1 w' → blkK 0 (seqK (sx fn_ Try.prog 150 dispatcherlaw14_play_does_R1 (retK Try.prog [ResultVar.tmp 4] (DoesP w0 w x n s))) (retK Try.prog [ResultVar.tmp 4] (DoesP w0 w x n s))) .ret ρ' w' := by
      intro ρ' w' s' q4 hP hM
      show DoesP w0 w x n s (ρ' 4) w'
      exact ⟨q4, ⟨s', hP⟩, (hm1.mono fun b _ z => z.elim : Mod (s.all x) w w1).then hM fun i hi z => z⟩
    rw [dispatcherlaw14_play_does_R0_eq]; unfold dispatcherlaw14_play_does_R0_F
    rw [e10, e9]
    refine caseC (fun z => ?_) (fun z => ?_)
    · refine does_R2 (a := a) h1 hn hb1 nb (by first | exact e0 | rfl) (by first | exact e3 | rfl) ?_
      intro ρ' w' s' q4 hP hM
      rw [sq_n, dispatcherlaw14_play_does_R3_eq]; unfold dispatcherlaw14_play_does_R3_F
      exact fin ρ' w' s' q4 hP hM
    rw [BK_eql]
    refine caseC (fun z2 => ?_) (fun z2 => ?_)
    · refine does_R4 (a := a) h1 hn hb1 nb (by first | exact e0 | rfl) (by first | exact e3 | rfl) ?_
      intro ρ' w' s' q4 hP hM
      rw [sq_n, dispatcherlaw14_play_does_R5_eq]; unfold dispatcherlaw14_play_does_R5_F
      exact fin ρ' w' s' q4 hP hM
    rw [BK_eql]
    refine caseC (fun z3 => ?_) (fun z3 => ?_)
    · refine does_R6 (a := a) h1 hn hb1 nb (by first | exact e0 | rfl) (by first | exact e3 | rfl) ?_
      intro ρ' w' s' q4 hP hM
      rw [sq_n, dispatcherlaw14_play_does_R7_eq]; unfold dispatcherlaw14_play_does_R7_F
      exact fin ρ' w' s' q4 hP hM
    rw [bk_n, sq_n, dispatcherlaw14_play_does_R1_eq]; unfold dispatcherlaw14_play_does_R1_F
    refine does_R8 (s := s) h1 (by first | exact e0 | rfl) ?_
    intro ρ2 w2 q5 q6 q0 q3 hm2
    rw [sq_n]
    refine does_R9 (a := a) (h1.calm hm2) hn (hm2.blk hb1 id) nb (q0.trans (by first | exact e0 | rfl)) (q3.trans (by first | exact e3 | rfl)) q5 q6 ?_
    intro ρ' w' s' q4 hP hM
    show DoesP w0 w x n s (ρ' 4) w'
    exact ⟨q4, ⟨s', hP.more⟩, (((hm1.trans hm2).mono fun b _ z => z.elim : Mod (s.all x) w w2)).then hM fun i hi z => z⟩
  rw [g0.e, BK_rem (by decide), BK_eql]
  refine caseC (fun z => ?_) (fun z => ?_)
  · exact step _ true _ (by first | rfl | exact congrArg Value.bool z) rfl rfl rfl
  · rw [BK_eql]
    exact step _ _ _ rfl rfl rfl rfl
end
theorem begin_ok (w : World) : Rt Try.prog 29 #[] w fun u w' => ∃ x s, u = .pointer (some ⟨x, 0, none⟩) ∧ PlAt w w' x s 0 := by
  refine dispatcherlaw14_begin_calls ?_
  unfold dispatcherlaw14_begin_F
  refine begun w fun q p V vs w1 h1 => ?_
  rw [build_ok (cs := #[.slice none 0 0]) (by kernel_rfl)]
  refine box_k (cs := #[.slice none 0 0]) rfl fun w2 hb2 hm2 hz2 => ?_
  rw [build_ok (cs := #[.slice none 0 0]) (by kernel_rfl)]
  refine box_k (cs := #[.slice none 0 0]) rfl fun w3 hb3 hm3 hz3 => ?_
  have hm13 := hm2.trans hm3
  rw [build_ok (cs := #[.pointer (some ⟨q, 0, none⟩), .pointer (some ⟨p, 0, none⟩), .pointer (some ⟨w1.heap.size, 0, none⟩), .pointer (some ⟨w2.heap.size, 0, none⟩)]) (by kernel_rfl)]
  refine box_k (cs := #[.pointer (some ⟨q, 0, none⟩), .pointer (some ⟨p, 0, none⟩), .pointer (some ⟨w1.heap.size, 0, none⟩), .pointer (some ⟨w2.heap.size, 0, none⟩)]) rfl fun w4 hb4 hm4 hz4 => ?_
  have s1 := h1.mod.size
  have hD : ∀ b, DF w1.heap.size (.slice none 0 0) b → b = w1.heap.size := fun b z => by
    rcases z with z | z
    · exact z
    · cases z
  have hE : ∀ b, EF w2.heap.size (.slice none 0 0) b → b = w2.heap.size := fun b z => by
    rcases z with z | z
    · exact z
    · cases z
  have hQ : ∀ b, V.F q b ∨ PF p vs b → b < w1.heap.size := fun b z => by
    rcases z with z | z
    · exact h1.qa.old b z
    · exact h1.pa.old b z
  refine ⟨w3.heap.size, ⟨q, p, w1.heap.size, w2.heap.size, [], V, fun _ => [], vs, [], .slice none 0 0, [], .slice none 0 0⟩, rfl, ⟨hb4, h1.calm (hm13.trans hm4), ⟨(hm3.trans hm4).blk hb2 id, World.ownsRow_nil _ _ _ _⟩, ⟨hm4.blk hb3 id, World.ownsRow_nil _ _ _ _⟩, fun b z => ⟨fun y => ?_, fun y => ?_, fun y => ?_⟩, fun b z => ⟨fun y => ?_, fun y => ?_⟩, fun b z y => ?_, fun b z => ?_, fun b z => ?_, ?_⟩, rfl, RelA.nil, OkQ.nil, fun _ => Nat.le_refl _, Nat.le_refl _, Nat.le_refl _⟩
  · have := hQ b z; have := hD b y; omega
  · have := hQ b z; have := hE b y; omega
  · have := hQ b z; omega
  · have := hD b z; have := hE b y; omega
  · have := hD b z; omega
  · have := hE b z; omega
  · have := hD b z; omega
  · have := hE b z; omega
  · omega
end Go.Proofs.Ytmnkedgmpbcicaa.Que
set_option linter.unusedVariables false
set_option maxRecDepth 100000
namespace Go.Proofs.Ytmnkedgmpbcicaa.XJ
open Go Go.X
noncomputable def dispatcherlaw14_PostedPlays_b : Code := (Try.f9.body).getD .skip
noncomputable def dispatcherlaw14_PostedPlays_L0 : Code := cAt [1, 1, 1, 1, 0, 1, 0, 0] dispatcherlaw14_PostedPlays_b
noncomputable def dispatcherlaw14_PostedPlays_R1 : Code := cAt [1, 1, 1, 1, 1] dispatcherlaw14_PostedPlays_b
noncomputable def dispatcherlaw14_PostedPlays_R2 : Code := cAt [1, 1, 1, 1, 0, 1, 0, 0, 1, 0, 0, 1, 1, 0] dispatcherlaw14_PostedPlays_b
noncomputable def dispatcherlaw14_PostedPlays_R3 : Code := cAt [1, 1, 1, 1, 0, 1, 0, 0, 1, 0, 0, 1, 1, 1] dispatcherlaw14_PostedPlays_b
noncomputable def dispatcherlaw14_PostedPlays_R4 : Code := cAt [1, 1, 1, 1, 0, 1, 0, 0, 1, 1] dispatcherlaw14_PostedPlays_b
noncomputable def dispatcherlaw14_PostedPlays_R5 : Code := cAt [1, 1, 1, 1, 0, 1, 0, 0, 1, 0, 0, 1, 1, 1, 0] dispatcherlaw14_PostedPlays_b
noncomputable def dispatcherlaw14_PostedPlays_R6 : Code := cAt [1, 1, 1, 1, 0, 1, 0, 0, 1, 0, 0, 1, 1, 1, 1] dispatcherlaw14_PostedPlays_b
noncomputable def dispatcherlaw14_PostedPlays_R7 : Code := cAt [1, 1, 1, 1, 0, 1, 0, 0, 1, 0, 0, 1, 1, 1, 1, 0] dispatcherlaw14_PostedPlays_b
noncomputable def dispatcherlaw14_PostedPlays_R8 : Code := cAt [1, 1, 1, 1, 0, 1, 0, 0, 1, 0, 0, 1, 1, 1, 1, 1] dispatcherlaw14_PostedPlays_b
noncomputable def dispatcherlaw14_PostedPlays_L0_F (z : At) (K : Exit → Sl → World → Prop) (ρ : Sl) (w : World) : Prop :=
  IK Try.prog .len #[22] 3 [false] [(ρ 0)] w fun x27 w => BK Try.prog .lss 3 (.tmp 25) (.tmp 27) (ρ 4) x27 w fun x28 w => CondK x28 (VK Try.prog (Instr.indexAt 22 (ρ 0) (ρ 4)) w fun x33 w => VK Try.prog (Instr.fieldAt 48 x33 2) w fun x34 w => VK Try.prog (Instr.loadAt 24 x34) w fun x35 w => VK Try.prog (Instr.alloc 24 true (.tuple #[])) w fun x5 w => UK Try.prog (Instr.storeAt 24 x5 x35) w fun _ w => VK Try.prog (Instr.indexAt 22 (ρ 0) (ρ 4)) w fun x39 w => VK Try.prog (Instr.loadAt 48 x39) w fun x40 w => CK Try.prog (Value.func (Fn.func 30) #[] #[]) [(ρ 3), x40] w fun x41 w => VK Try.prog (Op.unary UnOp.not x41) w fun x42 w => CondK x42 (K .ret (up (up (up (up (up (up (up (up (up (up (up (up (up (up (up (up (up (up ρ 25 (ρ 4)) 26 (ρ 0)) 27 x27) 28 x28) 31 (ρ 0)) 32 (ρ 4)) 33 x33) 34 x34) 35 x35) 5 x5) 36 (ρ 3)) 37 (ρ 0)) 38 (ρ 4)) 39 x39) 40 x40) 41 x41) 42 x42) 2 (Value.bool false)) w) (W z Try.prog 124 dispatcherlaw14_PostedPlays_R2 (seqK (sx z Try.prog 124 dispatcherlaw14_PostedPlays_R3 (blkK 1 (seqK (sx z Try.prog 124 dispatcherlaw14_PostedPlays_R4 K) K))) (blkK 1 (seqK (sx z Try.prog 124 dispatcherlaw14_PostedPlays_R4 K) K))) (up (up (up (up (up (up (up (up (up (up (up (up (up (up (up (up (up ρ 25 (ρ 4)) 26 (ρ 0)) 27 x27) 28 x28) 31 (ρ 0)) 32 (ρ 4)) 33 x33) 34 x34) 35 x35) 5 x5) 36 (ρ 3)) 37 (ρ 0)) 38 (ρ 4)) 39 x39) 40 x40) 41 x41) 42 x42) w)) (K (.exit 0) (up (up (up (up ρ 25 (ρ 4)) 26 (ρ 0)) 27 x27) 28 x28) w)
theorem dispatcherlaw14_PostedPlays_L0_eq (z : At) (K : Exit → Sl → World → Prop) (ρ : Sl) (w : World) : sx z Try.prog 124 dispatcherlaw14_PostedPlays_L0 K ρ w = dispatcherlaw14_PostedPlays_L0_F z K ρ w := by kernel_rfl
theorem dispatcherlaw14_PostedPlays_L0_ok : dstOk 124 dispatcherlaw14_PostedPlays_L0 = true := by kernel_rfl
noncomputable def dispatcherlaw14_PostedPlays_R1_F (z : At) (K : Exit → Sl → World → Prop) (ρ : Sl) (w : World) : Prop :=
  K .ret (up ρ 2 (Value.bool true)) w
theorem dispatcherlaw14_PostedPlays_R1_eq (z : At) (K : Exit → Sl → World → Prop) (ρ : Sl) (w : World) : sx z Try.prog 124 dispatcherlaw14_PostedPlays_R1 K ρ w = dispatcherlaw14_PostedPlays_R1_F z K ρ w := by kernel_rfl
noncomputable def dispatcherlaw14_PostedPlays_R2_ops : Array Oper := opsOf dispatcherlaw14_PostedPlays_R2
def dispatcherlaw14_PostedPlays_R2_H (S : World → Prop) (K : Exit → Sl → World → Prop) (ρ : Sl) (w : World) : Prop :=
  HK Try.prog S (nilCk (ρ 3)) fun x45 => HK Try.prog S (do pure (Next.value (← Instr.fieldAt 69 x45 1))) fun x46 => HK Try.prog S (do pure (Next.value (← Instr.loadAt 28 x46))) fun x47 => HK Try.prog S (do pure (Next.value (← Instr.fieldAt 24 (ρ 5) 1))) fun x48 => HK Try.prog S (do pure (Next.value (← Instr.loadAt 3 x48))) fun x49 => HK Try.prog S (do pure (Next.value (← Instr.fieldAt 24 (ρ 5) 2))) fun x50 => HK Try.prog S (do pure (Next.value (← Instr.loadAt 3 x50))) fun x51 => (CK Try.prog (Value.func (Fn.func 21) #[] #[]) [x47, x49, x51] w fun x52 w => S w ∧ (HK Try.prog S (do pure (Next.value (← Instr.extract x52 0))) fun x53 => HK Try.prog S (do pure (Next.value (← Instr.extract x52 1))) fun x54 => VK Try.prog (Instr.alloc 24 true (.tuple #[])) w fun x6 w => S w ∧ (UK Try.prog (Instr.storeAt 24 x6 x53) w fun _ w => S w ∧ (K Exit.normal (up (up (up (up (up (up (up (up (up (up (up (up (up (up ρ 44 (ρ 3)) 45 x45) 46 x46) 47 x47) 48 x48) 49 x49) 50 x50) 51 x51) 52 x52) 43 x52) 53 x53) 54 x54) 6 x6) 7 x54) w)))) ∧ (VK Try.prog (Instr.alloc 24 true (.tuple #[])) w fun x6_1 w => S w ∧ (CK Try.prog (Value.func (Fn.func 21) #[] #[]) [x47, x49, x51] w fun x52_1 w => S w ∧ (HK Try.prog S (do pure (Next.value (← Instr.extract x52_1 0))) fun x53_1 => HK Try.prog S (do pure (Next.value (← Instr.extract x52_1 1))) fun x54_1 => UK Try.prog (Instr.storeAt 24 x6_1 x53_1) w fun _ w => S w ∧ (K Exit.normal (up (up (up (up (up (up (up (up (up (up (up (up (up (up ρ 44 (ρ 3)) 45 x45) 46 x46) 47 x47) 48 x48) 49 x49) 50 x50) 51 x51) 6 x6_1) 52 x52_1) 43 x52_1) 53 x53_1) 54 x54_1) 7 x54_1) w))))
theorem dispatcherlaw14_PostedPlays_R2_held {D : List Deferred} (S : World → Prop) {K : Exit → Sl → World → Prop} {ρ : Sl} {w : World} (hS : S { w with drawn := w.drawn + 1 }) (h : dispatcherlaw14_PostedPlays_R2_H S K ρ { w with drawn := w.drawn + 1 }) : W ⟨none, D⟩ Try.prog 124 dispatcherlaw14_PostedPlays_R2 K ρ w := by
  have e : dispatcherlaw14_PostedPlays_R2 = .region (idOf dispatcherlaw14_PostedPlays_R2) dispatcherlaw14_PostedPlays_R2_ops true := by kernel_rfl
  have q : sxd Try.prog S dispatcherlaw14_PostedPlays_R2_ops (K .normal) (Pd.take 0 (Pd.take 1 (Pd.take 2 (Pd.take 3 (Pd.take 4 (Pd.take 5 (Pd.take 6 (Pd.take 7 (Pd.two false false 8 12 (Pd.take 9 (Pd.take 10 (Pd.take 11 (Pd.only false 12 (Pd.only false 13 (Pd.take 14 Pd.done)))))) (Pd.only false 8 (Pd.take 9 (Pd.take 10 (Pd.take 11 (Pd.only false 13 (Pd.take 14 Pd.done))))))))))))))) ρ { w with drawn := w.drawn + 1 } = dispatcherlaw14_PostedPlays_R2_H S K ρ { w with drawn := w.drawn + 1 } := by kernel_rfl
  rw [e]
  exact W_pland S (Pd.take 0 (Pd.take 1 (Pd.take 2 (Pd.take 3 (Pd.take 4 (Pd.take 5 (Pd.take 6 (Pd.take 7 (Pd.two false false 8 12 (Pd.take 9 (Pd.take 10 (Pd.take 11 (Pd.only false 12 (Pd.only false 13 (Pd.take 14 Pd.done)))))) (Pd.only false 8 (Pd.take 9 (Pd.take 10 (Pd.take 11 (Pd.only false 13 (Pd.take 14 Pd.done))))))))))))))) (by kernel_rfl) (by kernel_rfl) (by kernel_rfl) (by kernel_rfl) hS (Eq.mpr q h)
noncomputable def dispatcherlaw14_PostedPlays_R3_F (z : At) (K : Exit → Sl → World → Prop) (ρ : Sl) (w : World) : Prop :=
  W z Try.prog 124 dispatcherlaw14_PostedPlays_R5 (seqK (sx z Try.prog 124 dispatcherlaw14_PostedPlays_R6 K) K) ρ w
theorem dispatcherlaw14_PostedPlays_R3_eq (z : At) (K : Exit → Sl → World → Prop) (ρ : Sl) (w : World) : sx z Try.prog 124 dispatcherlaw14_PostedPlays_R3 K ρ w = dispatcherlaw14_PostedPlays_R3_F z K ρ w := by kernel_rfl
noncomputable def dispatcherlaw14_PostedPlays_R4_F (z : At) (K : Exit → Sl → World → Prop) (ρ : Sl) (w : World) : Prop :=
  BK Try.prog .add 3 (.tmp 29) (.const (Value.int .i64 1)) (ρ 4) (Value.int .i64 1) w fun x30 w => K .normal (up (up (up ρ 29 (ρ 4)) 30 x30) 4 x30) w
theorem dispatcherlaw14_PostedPlays_R4_eq (z : At) (K : Exit → Sl → World → Prop) (ρ : Sl) (w : World) : sx z Try.prog 124 dispatcherlaw14_PostedPlays_R4 K ρ w = dispatcherlaw14_PostedPlays_R4_F z K ρ w := by kernel_rfl
noncomputable def dispatcherlaw14_PostedPlays_R5_ops : Array Oper := opsOf dispatcherlaw14_PostedPlays_R5
def dispatcherlaw14_PostedPlays_R5_H (S : World → Prop) (K : Exit → Sl → World → Prop) (ρ : Sl) (w : World) : Prop :=
  HK Try.prog S (nilCk (ρ 3)) fun x57 => HK Try.prog S (do pure (Next.value (← Instr.fieldAt 69 x57 3))) fun x58 => HK Try.prog S (do pure (Next.value (← Instr.loadAt 67 x58))) fun x59 => HK Try.prog S (do pure (Next.value (← Instr.fieldAt 24 (ρ 5) 1))) fun x60 => HK Try.prog S (do pure (Next.value (← Instr.loadAt 3 x60))) fun x61 => HK Try.prog S (do pure (Next.value (← Instr.fieldAt 24 (ρ 5) 2))) fun x62 => HK Try.prog S (do pure (Next.value (← Instr.loadAt 3 x62))) fun x63 => (CK Try.prog (Value.func (Fn.func 33) #[] #[]) [x59, x61, x63] w fun x64 w => S w ∧ (HK Try.prog S (do pure (Next.value (← Instr.extract x64 0))) fun x65 => HK Try.prog S (do pure (Next.value (← Instr.extract x64 1))) fun x66 => VK Try.prog (Instr.alloc 24 true (.tuple #[])) w fun x8 w => S w ∧ (UK Try.prog (Instr.storeAt 24 x8 x65) w fun _ w => S w ∧ (K Exit.normal (up (up (up (up (up (up (up (up (up (up (up (up (up (up ρ 56 (ρ 3)) 57 x57) 58 x58) 59 x59) 60 x60) 61 x61) 62 x62) 63 x63) 64 x64) 55 x64) 65 x65) 66 x66) 8 x8) 9 x66) w)))) ∧ (VK Try.prog (Instr.alloc 24 true (.tuple #[])) w fun x8_1 w => S w ∧ (CK Try.prog (Value.func (Fn.func 33) #[] #[]) [x59, x61, x63] w fun x64_1 w => S w ∧ (HK Try.prog S (do pure (Next.value (← Instr.extract x64_1 0))) fun x65_1 => HK Try.prog S (do pure (Next.value (← Instr.extract x64_1 1))) fun x66_1 => UK Try.prog (Instr.storeAt 24 x8_1 x65_1) w fun _ w => S w ∧ (K Exit.normal (up (up (up (up (up (up (up (up (up (up (up (up (up (up ρ 56 (ρ 3)) 57 x57) 58 x58) 59 x59) 60 x60) 61 x61) 62 x62) 63 x63) 8 x8_1) 64 x64_1) 55 x64_1) 65 x65_1) 66 x66_1) 9 x66_1) w))))
theorem dispatcherlaw14_PostedPlays_R5_held {D : List Deferred} (S : World → Prop) {K : Exit → Sl → World → Prop} {ρ : Sl} {w : World} (hS : S { w with drawn := w.drawn + 1 }) (h : dispatcherlaw14_PostedPlays_R5_H S K ρ { w with drawn := w.drawn + 1 }) : W ⟨none, D⟩ Try.prog 124 dispatcherlaw14_PostedPlays_R5 K ρ w := by
  have e : dispatcherlaw14_PostedPlays_R5 = .region (idOf dispatcherlaw14_PostedPlays_R5) dispatcherlaw14_PostedPlays_R5_ops true := by kernel_rfl
  have q : sxd Try.prog S dispatcherlaw14_PostedPlays_R5_ops (K .normal) (Pd.take 0 (Pd.take 1 (Pd.take 2 (Pd.take 3 (Pd.take 4 (Pd.take 5 (Pd.take 6 (Pd.take 7 (Pd.two false false 8 12 (Pd.take 9 (Pd.take 10 (Pd.take 11 (Pd.only false 12 (Pd.only false 13 (Pd.take 14 Pd.done)))))) (Pd.only false 8 (Pd.take 9 (Pd.take 10 (Pd.take 11 (Pd.only false 13 (Pd.take 14 Pd.done))))))))))))))) ρ { w with drawn := w.drawn + 1 } = dispatcherlaw14_PostedPlays_R5_H S K ρ { w with drawn := w.drawn + 1 } := by kernel_rfl
  rw [e]
  exact W_pland S (Pd.take 0 (Pd.take 1 (Pd.take 2 (Pd.take 3 (Pd.take 4 (Pd.take 5 (Pd.take 6 (Pd.take 7 (Pd.two false false 8 12 (Pd.take 9 (Pd.take 10 (Pd.take 11 (Pd.only false 12 (Pd.only false 13 (Pd.take 14 Pd.done)))))) (Pd.only false 8 (Pd.take 9 (Pd.take 10 (Pd.take 11 (Pd.only false 13 (Pd.take 14 Pd.done))))))))))))))) (by kernel_rfl) (by kernel_rfl) (by kernel_rfl) (by kernel_rfl) hS (Eq.mpr q h)
noncomputable def dispatcherlaw14_PostedPlays_R6_F (z : At) (K : Exit → Sl → World → Prop) (ρ : Sl) (w : World) : Prop :=
  W z Try.prog 124 dispatcherlaw14_PostedPlays_R7 (seqK (sx z Try.prog 124 dispatcherlaw14_PostedPlays_R8 K) K) ρ w
theorem dispatcherlaw14_PostedPlays_R6_eq (z : At) (K : Exit → Sl → World → Prop) (ρ : Sl) (w : World) : sx z Try.prog 124 dispatcherlaw14_PostedPlays_R6 K ρ w = dispatcherlaw14_PostedPlays_R6_F z K ρ w := by kernel_rfl
noncomputable def dispatcherlaw14_PostedPlays_R7_ops : Array Oper := opsOf dispatcherlaw14_PostedPlays_R7
def dispatcherlaw14_PostedPlays_R7_H0 (S : World → Prop) (K : Sl → World → Prop) (ρ : Sl) (w : World) : Prop :=
  HK Try.prog S (do pure (Next.value (← Instr.loadAt 24 (ρ 6)))) fun x67_2 => HK Try.prog S (do pure (Next.value (← Instr.loadAt 24 (ρ 8)))) fun x68_2 => HK Try.prog S (do pure (Next.value (← (do eqGuard BinOp.neq 24 (Operand.tmp 67) (Operand.tmp 68) x67_2 x68_2; binOp BinOp.neq 24 x67_2 x68_2)))) fun x69_2 => HG Try.prog S x69_2 false  (pure (Next.value (ρ 7))) fun x71_2 => HG Try.prog S x69_2 false  (pure (Next.value (ρ 9))) fun x72_2 => HG Try.prog S x69_2 false  (do pure (Next.value (← (do eqGuard BinOp.neq 4 (Operand.tmp 71) (Operand.tmp 72) x71_2 x72_2; binOp BinOp.neq 4 x71_2 x72_2)))) fun x73_2 => HK Try.prog S (do pure (Next.value (if ← asBool x69_2 then (Value.bool true) else x73_2))) fun x74_2 => HG Try.prog S x74_2 false  (pure (Next.value (ρ 3))) fun x76_2 => HG Try.prog S x74_2 false  (nilCk x76_2) fun x77_2 => HG Try.prog S x74_2 false  (do pure (Next.value (← Instr.fieldAt 69 x77_2 1))) fun x78_2 => K (up (up (up (up (up (up (up (up (up (up (up (up ρ 67 x67_2) 68 x68_2) 69 x69_2) 70 x69_2) 71 x71_2) 72 x72_2) 73 x73_2) 74 x74_2) 75 x74_2) 76 x76_2) 77 x77_2) 78 x78_2) w
theorem dispatcherlaw14_PostedPlays_R7_q0 (S : World → Prop) (K : Sl → World → Prop) : sxh Try.prog S dispatcherlaw14_PostedPlays_R7_ops K [(0, true), (1, true), (2, true), (3, true), (4, true), (5, true), (6, true), (7, true), (8, true), (9, true), (10, true), (11, true)] = dispatcherlaw14_PostedPlays_R7_H0 S K := by kernel_rfl
def dispatcherlaw14_PostedPlays_R7_H1 (S : World → Prop) (K : Sl → World → Prop) (ρ : Sl) (w : World) : Prop :=
  HG Try.prog S (ρ 75) false  (do pure (Next.value (← Instr.loadAt 28 (ρ 78)))) fun x79_2 => HG Try.prog S (ρ 75) false  (do pure (Next.value (← Instr.fieldAt 24 (ρ 5) 1))) fun x80_2 => HG Try.prog S (ρ 75) false  (do pure (Next.value (← Instr.loadAt 3 x80_2))) fun x81_2 => HG Try.prog S (ρ 75) false  (pure (Next.value (ρ 3))) fun x83_2 => HG Try.prog S (ρ 75) false  (nilCk x83_2) fun x84_2 => HG Try.prog S (ρ 75) false  (do pure (Next.value (← Instr.fieldAt 69 x84_2 3))) fun x85_2 => HG Try.prog S (ρ 75) false  (do pure (Next.value (← Instr.loadAt 67 x85_2))) fun x86_2 => HG Try.prog S (ρ 75) false  (do pure (Next.value (← Instr.fieldAt 24 (ρ 5) 1))) fun x87_2 => HG Try.prog S (ρ 75) false  (do pure (Next.value (← Instr.loadAt 3 x87_2))) fun x88_2 => CG Try.prog (ρ 75) false (Value.func (Fn.func 18) #[] #[]) [x79_2, x81_2] w fun x82_2 w => S w ∧ (CG Try.prog (ρ 75) false (Value.func (Fn.func 35) #[] #[]) [x86_2, x88_2] w fun x89_2 w => S w ∧ (CG Try.prog (ρ 75) false (Value.func (Fn.func 34) #[] #[]) [x82_2, x89_2] w fun x90_2 w => S w ∧ (K (up (up (up (up (up (up (up (up (up (up (up (up ρ 79 x79_2) 80 x80_2) 81 x81_2) 83 x83_2) 84 x84_2) 85 x85_2) 86 x86_2) 87 x87_2) 88 x88_2) 82 x82_2) 89 x89_2) 90 x90_2) w)))
theorem dispatcherlaw14_PostedPlays_R7_q1 (S : World → Prop) (K : Sl → World → Prop) : sxh Try.prog S dispatcherlaw14_PostedPlays_R7_ops K [(12, true), (13, true), (14, true), (16, true), (17, true), (18, true), (19, true), (20, true), (21, true), (15, false), (22, false), (23, false)] = dispatcherlaw14_PostedPlays_R7_H1 S K := by kernel_rfl
def dispatcherlaw14_PostedPlays_R7_H2 (S : World → Prop) (K : Sl → World → Prop) (ρ : Sl) (w : World) : Prop :=
  HG Try.prog S (ρ 75) false  (do pure (Next.value (← Op.unary UnOp.not (ρ 90)))) fun x91_2 => HK Try.prog S (do pure (Next.value (if ← asBool (ρ 75) then (Value.bool true) else x91_2))) fun x92_2 => HG Try.prog S x92_2 false  (pure (Next.value (ρ 3))) fun x94_2 => HG Try.prog S x92_2 false  (nilCk x94_2) fun x95_2 => HG Try.prog S x92_2 false  (do pure (Next.value (← Instr.fieldAt 69 x95_2 0))) fun x96_2 => HG Try.prog S x92_2 false  (do pure (Next.value (← Instr.loadAt 27 x96_2))) fun x97_2 => HG Try.prog S x92_2 false  (pure (Next.value (ρ 3))) fun x99_2 => HG Try.prog S x92_2 false  (nilCk x99_2) fun x100_2 => HG Try.prog S x92_2 false  (do pure (Next.value (← Instr.fieldAt 69 x100_2 2))) fun x101_2 => HG Try.prog S x92_2 false  (do pure (Next.value (← Instr.loadAt 66 x101_2))) fun x102_2 => CG Try.prog x92_2 false (Value.func (Fn.func 36) #[] #[]) [x97_2] w fun x98_2 w => S w ∧ (K (up (up (up (up (up (up (up (up (up (up (up (up ρ 91 x91_2) 92 x92_2) 93 x92_2) 94 x94_2) 95 x95_2) 96 x96_2) 97 x97_2) 99 x99_2) 100 x100_2) 101 x101_2) 102 x102_2) 98 x98_2) w)
theorem dispatcherlaw14_PostedPlays_R7_q2 (S : World → Prop) (K : Sl → World → Prop) : sxh Try.prog S dispatcherlaw14_PostedPlays_R7_ops K [(24, true), (25, true), (26, true), (27, true), (28, true), (29, true), (30, true), (32, true), (33, true), (34, true), (35, true), (31, false)] = dispatcherlaw14_PostedPlays_R7_H2 S K := by kernel_rfl
def dispatcherlaw14_PostedPlays_R7_H3 (S : World → Prop) (K : Sl → World → Prop) (ρ : Sl) (w : World) : Prop :=
  CG Try.prog (ρ 93) false (Value.func (Fn.func 37) #[] #[]) [(ρ 102)] w fun x103_2 w => S w ∧ (CG Try.prog (ρ 93) false (Value.func (Fn.func 15) #[] #[]) [(ρ 98), x103_2] w fun x104_2 w => S w ∧ (HG Try.prog S (ρ 93) false  (do pure (Next.value (← Op.unary UnOp.not x104_2))) fun x105_2 => HK Try.prog S (do pure (Next.value (if ← asBool (ρ 93) then (Value.bool true) else x105_2))) fun x106_2 => HG Try.prog S x106_2 false  (do pure (Next.value (← Instr.loadAt 24 (ρ 5)))) fun x108_2 => HG Try.prog S x106_2 false  (pure (Next.value (ρ 0))) fun x109_2 => HG Try.prog S x106_2 false  (pure (Next.value (ρ 4))) fun x110_2 => HG Try.prog S x106_2 false  (do pure (Next.value (← Instr.indexAt 22 x109_2 x110_2))) fun x111_2 => HG Try.prog S x106_2 false  (do pure (Next.value (← Instr.fieldAt 48 x111_2 1))) fun x112_2 => HG Try.prog S x106_2 false  (do pure (Next.value (← Instr.loadAt 39 x112_2))) fun x113_2 => HG Try.prog S x106_2 false  (do pure (Next.value (← Instr.loadAt 24 (ρ 5)))) fun x115_2 => K (up (up (up (up (up (up (up (up (up (up (up (up ρ 103 x103_2) 104 x104_2) 105 x105_2) 106 x106_2) 107 x106_2) 108 x108_2) 109 x109_2) 110 x110_2) 111 x111_2) 112 x112_2) 113 x113_2) 115 x115_2) w))
theorem dispatcherlaw14_PostedPlays_R7_q3 (S : World → Prop) (K : Sl → World → Prop) : sxh Try.prog S dispatcherlaw14_PostedPlays_R7_ops K [(36, false), (37, false), (38, true), (39, true), (40, true), (41, true), (42, true), (43, true), (44, true), (45, true), (46, true), (48, true)] = dispatcherlaw14_PostedPlays_R7_H3 S K := by kernel_rfl
def dispatcherlaw14_PostedPlays_R7_H4 (S : World → Prop) (K : Sl → World → Prop) (ρ : Sl) (w : World) : Prop :=
  HG Try.prog S (ρ 107) false  (pure (Next.value (ρ 0))) fun x116_2 => HG Try.prog S (ρ 107) false  (pure (Next.value (ρ 4))) fun x117_2 => HG Try.prog S (ρ 107) false  (do pure (Next.value (← Instr.indexAt 22 x116_2 x117_2))) fun x118_2 => HG Try.prog S (ρ 107) false  (do pure (Next.value (← Instr.fieldAt 48 x118_2 1))) fun x119_2 => HG Try.prog S (ρ 107) false  (do pure (Next.value (← Instr.loadAt 39 x119_2))) fun x120_2 => CG Try.prog (ρ 107) false (Value.func (Fn.func 19) #[] #[]) [(ρ 108), (ρ 113)] w fun x114_2 w => S w ∧ (CG Try.prog (ρ 107) false (Value.func (Fn.func 38) #[] #[]) [(ρ 115), x120_2] w fun x121_2 w => S w ∧ (HG Try.prog S (ρ 107) false  (do pure (Next.value (← (do eqGuard BinOp.neq 4 (Operand.tmp 114) (Operand.tmp 121) x114_2 x121_2; binOp BinOp.neq 4 x114_2 x121_2)))) fun x122_2 => HK Try.prog S (do pure (Next.value (if ← asBool (ρ 107) then (Value.bool true) else x122_2))) fun x123_2 => K (up (up (up (up (up (up (up (up (up ρ 116 x116_2) 117 x117_2) 118 x118_2) 119 x119_2) 120 x120_2) 114 x114_2) 121 x121_2) 122 x122_2) 123 x123_2) w))
theorem dispatcherlaw14_PostedPlays_R7_q4 (S : World → Prop) (K : Sl → World → Prop) : sxh Try.prog S dispatcherlaw14_PostedPlays_R7_ops K [(49, true), (50, true), (51, true), (52, true), (53, true), (47, false), (54, false), (55, true), (56, true)] = dispatcherlaw14_PostedPlays_R7_H4 S K := by kernel_rfl
def dispatcherlaw14_PostedPlays_R7_H (S : World → Prop) (K : Exit → Sl → World → Prop) (ρ : Sl) (w : World) : Prop :=
  dispatcherlaw14_PostedPlays_R7_H0 S (dispatcherlaw14_PostedPlays_R7_H1 S (dispatcherlaw14_PostedPlays_R7_H2 S (dispatcherlaw14_PostedPlays_R7_H3 S (dispatcherlaw14_PostedPlays_R7_H4 S (K .normal))))) ρ w
theorem dispatcherlaw14_PostedPlays_R7_steps : planOk Try.prog 124 dispatcherlaw14_PostedPlays_R7_ops [(0, true), (1, true), (2, true), (3, true), (4, true), (5, true), (6, true), (7, true), (8, true), (9, true), (10, true), (11, true), (12, true), (13, true), (14, true), (16, true), (17, true), (18, true), (19, true), (20, true), (21, true), (15, false), (22, false), (23, false), (24, true), (25, true), (26, true), (27, true), (28, true), (29, true), (30, true), (32, true), (33, true), (34, true), (35, true), (31, false), (36, false), (37, false), (38, true), (39, true), (40, true), (41, true), (42, true), (43, true), (44, true), (45, true), (46, true), (48, true), (49, true), (50, true), (51, true), (52, true), (53, true), (47, false), (54, false), (55, true), (56, true)] (Array.replicate dispatcherlaw14_PostedPlays_R7_ops.size false) = true :=
  planOk_step #[true, false, false, false, false, false, false, false, false, false, false, false, false, false, false, false, false, false, false, false, false, false, false, false, false, false, false, false, false, false, false, false, false, false, false, false, false, false, false, false, false, false, false, false, false, false, false, false, false, false, false, false, false, false, false, false, false] (by kernel_rfl) (by kernel_rfl) (planOk_step #[true, true, false, false, false, false, false, false, false, false, false, false, false, false, false, false, false, false, false, false, false, false, false, false, false, false, false, false, false, false, false, false, false, false, false, false, false, false, false, false, false, false, false, false, false, false, false, false, false, false, false, false, false, false, false, false, false] (by kernel_rfl) (by kernel_rfl) (planOk_step #[true, true, true, false, false, false, false, false, false, false, false, false, false, false, false, false, false, false, false, false, false, false, false, false, false, false, false, false, false, false, false, false, false, false, false, false, false, false, false, false, false, false, false, false, false, false, false, false, false, false, false, false, false, false, false, false, false] (by kernel_rfl) (by kernel_rfl) (planOk_step #[true, true, true, true, false, false, false, false, false, false, false, false, false, false, false, false, false, false, false, false, false, false, false, false, false, false, false, false, false, false, false, false, false, false, false, false, false, false, false, false, false, false, false, false, false, false, false, false, false, false, false, false, false, false, false, false, false] (by kernel_rfl) (by kernel_rfl) (planOk_step #[true, true, true, true, true, false, false, false, false, false, false, false, false, false, false, false, false, false, false, false, false, false, false, false, false, false, false, false, false, false, false, false, false, false, false, false, false, false, false, false, false, false, false, false, false, false, false, false, false, false, false, false, false, false, false, false, false] (by kernel_rfl) (by kernel_rfl) (planOk_step #[true, true, true, true, true, true, false, false, false, false, false, false, false, false, false, false, false, false, false, false, false, false, false, false, false, false, false, false, false, false, false, false, false, false, false, false, false, false, false, false, false, false, false, false, false, false, false, false, false, false, false, false, false, false, false, false, false] (by kernel_rfl) (by kernel_rfl) (planOk_step #[true, true, true, true, true, true, true, false, false, false, false, false, false, false, false, false, false, false, false, false, false, false, false, false, false, false, false, false, false, false, false, false, false, false, false, false, false, false, false, false, false, false, false, false, false, false, false, false, false, false, false, false, false, false, false, false, false] (by kernel_rfl) (by kernel_rfl) (planOk_step #[true, true, true, true, true, true, true, true, false, false, false, false, false, false, false, false, false, false, false, false, false, false, false, false, false, false, false, false, false, false, false, false, false, false, false, false, false, false, false, false, false, false, false, false, false, false, false, false, false, false, false, false, false, false, false, false, false] (by kernel_rfl) (by kernel_rfl) (planOk_step #[true, true, true, true, true, true, true, true, true, false, false, false, false, false, false, false, false, false, false, false, false, false, false, false, false, false, false, false, false, false, false, false, false, false, false, false, false, false, false, false, false, false, false, false, false, false, false, false, false, false, false, false, false, false, false, false, false] (by kernel_rfl) (by kernel_rfl) (planOk_step #[true, true, true, true, true, true, true, true, true, true, false, false, false, false, false, false, false, false, false, false, false, false, false, false, false, false, false, false, false, false, false, false, false, false, false, false, false, false, false, false, false, false, false, false, false, false, false, false, false, false, false, false, false, false, false, false, false] (by kernel_rfl) (by kernel_rfl) (planOk_step #[true, true, true, true, true, true, true, true, true, true, true, false, false, false, false, false, false, false, false, false, false, false, false, false, false, false, false, false, false, false, false, false, false, false, false, false, false, false, false, false, false, false, false, false, false, false, false, false, false, false, false, false, false, false, false, false, false] (by kernel_rfl) (by kernel_rfl) (planOk_step #[true, true, true, true, true, true, true, true, true, true, true, true, false, false, false, false, false, false, false, false, false, false, false, false, false, false, false, false, false, false, false, false, false, false, false, false, false, false, false, false, false, false, false, false, false, false, false, false, false, false, false, false, false, false, false, false, false] (by kernel_rfl) (by kernel_rfl) (planOk_step #[true, true, true, true, true, true, true, true, true, true, true, true, true, false, false, false, false, false, false, false, false, false, false, false, false, false, false, false, false, false, false, false, false, false, false, false, false, false, false, false, false, false, false, false, false, false, false, false, false, false, false, false, false, false, false, false, false] (by kernel_rfl) (by kernel_rfl) (planOk_step #[true, true, true, true, true, true, true, true, true, true, true, true, true, true, false, false, false, false, false, false, false, false, false, false, false, false, false, false, false, false, false, false, false, false, false, false, false, false, false, false, false, false, false, false, false, false, false, false, false, false, false, false, false, false, false, false, false] (by kernel_rfl) (by kernel_rfl) (planOk_step #[true, true, true, true, true, true, true, true, true, true, true, true, true, true, true, false, false, false, false, false, false, false, false, false, false, false, false, false, false, false, false, false, false, false, false, false, false, false, false, false, false, false, false, false, false, false, false, false, false, false, false, false, false, false, false, false, false] (by kernel_rfl) (by kernel_rfl) (planOk_step #[true, true, true, true, true, true, true, true, true, true, true, true, true, true, true, false, true, false, false, false, false, false, false, false, false, false, false, false, false, false, false, false, false, false, false, false, false, false, false, false, false, false, false, false, false, false, false, false, false, false, false, false, false, false, false, false, false] (by kernel_rfl) (by kernel_rfl) (planOk_step #[true, true, true, true, true, true, true, true, true, true, true, true, true, true, true, false, true, true, false, false, false, false, false, false, false, false, false, false, false, false, false, false, false, false, false, false, false, false, false, false, false, false, false, false, false, false, false, false, false, false, false, false, false, false, false, false, false] (by kernel_rfl) (by kernel_rfl) (planOk_step #[true, true, true, true, true, true, true, true, true, true, true, true, true, true, true, false, true, true, true, false, false, false, false, false, false, false, false, false, false, false, false, false, false, false, false, false, false, false, false, false, false, false, false, false, false, false, false, false, false, false, false, false, false, false, false, false, false] (by kernel_rfl) (by kernel_rfl) (planOk_step #[true, true, true, true, true, true, true, true, true, true, true, true, true, true, true, false, true, true, true, true, false, false, false, false, false, false, false, false, false, false, false, false, false, false, false, false, false, false, false, false, false, false, false, false, false, false, false, false, false, false, false, false, false, false, false, false, false] (by kernel_rfl) (by kernel_rfl) (planOk_step #[true, true, true, true, true, true, true, true, true, true, true, true, true, true, true, false, true, true, true, true, true, false, false, false, false, false, false, false, false, false, false, false, false, false, false, false, false, false, false, false, false, false, false, false, false, false, false, false, false, false, false, false, false, false, false, false, false] (by kernel_rfl) (by kernel_rfl) (planOk_step #[true, true, true, true, true, true, true, true, true, true, true, true, true, true, true, false, true, true, true, true, true, true, false, false, false, false, false, false, false, false, false, false, false, false, false, false, false, false, false, false, false, false, false, false, false, false, false, false, false, false, false, false, false, false, false, false, false] (by kernel_rfl) (by kernel_rfl) (planOk_step #[true, true, true, true, true, true, true, true, true, true, true, true, true, true, true, true, true, true, true, true, true, true, false, false, false, false, false, false, false, false, false, false, false, false, false, false, false, false, false, false, false, false, false, false, false, false, false, false, false, false, false, false, false, false, false, false, false] (by kernel_rfl) (by kernel_rfl) (planOk_step #[true, true, true, true, true, true, true, true, true, true, true, true, true, true, true, true, true, true, true, true, true, true, true, false, false, false, false, false, false, false, false, false, false, false, false, false, false, false, false, false, false, false, false, false, false, false, false, false, false, false, false, false, false, false, false, false, false] (by kernel_rfl) (by kernel_rfl) (planOk_step #[true, true, true, true, true, true, true, true, true, true, true, true, true, true, true, true, true, true, true, true, true, true, true, true, false, false, false, false, false, false, false, false, false, false, false, false, false, false, false, false, false, false, false, false, false, false, false, false, false, false, false, false, false, false, false, false, false] (by kernel_rfl) (by kernel_rfl) (planOk_step #[true, true, true, true, true, true, true, true, true, true, true, true, true, true, true, true, true, true, true, true, true, true, true, true, true, false, false, false, false, false, false, false, false, false, false, false, false, false, false, false, false, false, false, false, false, false, false, false, false, false, false, false, false, false, false, false, false] (by kernel_rfl) (by kernel_rfl) (planOk_step #[true, true, true, true, true, true, true, true, true, true, true, true, true, true, true, true, true, true, true, true, true, true, true, true, true, true, false, false, false, false, false, false, false, false, false, false, false, false, false, false, false, false, false, false, false, false, false, false, false, false, false, false, false, false, false, false, false] (by kernel_rfl) (by kernel_rfl) (planOk_step #[true, true, true, true, true, true, true, true, true, true, true, true, true, true, true, true, true, true, true, true, true, true, true, true, true, true, true, false, false, false, false, false, false, false, false, false, false, false, false, false, false, false, false, false, false, false, false, false, false, false, false, false, false, false, false, false, false] (by kernel_rfl) (by kernel_rfl) (planOk_step #[true, true, true, true, true, true, true, true, true, true, true, true, true, true, true, true, true, true, true, true, true, true, true, true, true, true, true, true, false, false, false, false, false, false, false, false, false, false, false, false, false, false, false, false, false, false, false, false, false, false, false, false, false, false, false, false, false] (by kernel_rfl) (by kernel_rfl) (planOk_step #[true, true, true, true, true, true, true, true, true, true, true, true, true, true, true, true, true, true, true, true, true, true, true, true, true, true, true, true, true, false, false, false, false, false, false, false, false, false, false, false, false, false, false, false, false, false, false, false, false, false, false, false, false, false, false, false, false] (by kernel_rfl) (by kernel_rfl) (planOk_step #[true, true, true, true, true, true, true, true, true, true, true, true, true, true, true, true, true, true, true, true, true, true, true, true, true, true, true, true, true, true, false, false, false, false, false, false, false, false, false, false, false, false, false, false, false, false, false, false, false, false, false, false, false, false, false, false, false] (by kernel_rfl) (by kernel_rfl) (planOk_step #[true, true, true, true, true, true, true, true, true, true, true, true, true, true, true, true, true, true, true, true, true, true, true, true, true, true, true, true, true, true, true, false, false, false, false, false, false, false, false, false, false, false, false, false, false, false, false, false, false, false, false, false, false, false, false, false, false] (by kernel_rfl) (by kernel_rfl) (planOk_step #[true, true, true, true, true, true, true, true, true, true, true, true, true, true, true, true, true, true, true, true, true, true, true, true, true, true, true, true, true, true, true, false, true, false, false, false, false, false, false, false, false, false, false, false, false, false, false, false, false, false, false, false, false, false, false, false, false] (by kernel_rfl) (by kernel_rfl) (planOk_step #[true, true, true, true, true, true, true, true, true, true, true, true, true, true, true, true, true, true, true, true, true, true, true, true, true, true, true, true, true, true, true, false, true, true, false, false, false, false, false, false, false, false, false, false, false, false, false, false, false, false, false, false, false, false, false, false, false] (by kernel_rfl) (by kernel_rfl) (planOk_step #[true, true, true, true, true, true, true, true, true, true, true, true, true, true, true, true, true, true, true, true, true, true, true, true, true, true, true, true, true, true, true, false, true, true, true, false, false, false, false, false, false, false, false, false, false, false, false, false, false, false, false, false, false, false, false, false, false] (by kernel_rfl) (by kernel_rfl) (planOk_step #[true, true, true, true, true, true, true, true, true, true, true, true, true, true, true, true, true, true, true, true, true, true, true, true, true, true, true, true, true, true, true, false, true, true, true, true, false, false, false, false, false, false, false, false, false, false, false, false, false, false, false, false, false, false, false, false, false] (by kernel_rfl) (by kernel_rfl) (planOk_step #[true, true, true, true, true, true, true, true, true, true, true, true, true, true, true, true, true, true, true, true, true, true, true, true, true, true, true, true, true, true, true, true, true, true, true, true, false, false, false, false, false, false, false, false, false, false, false, false, false, false, false, false, false, false, false, false, false] (by kernel_rfl) (by kernel_rfl) (planOk_step #[true, true, true, true, true, true, true, true, true, true, true, true, true, true, true, true, true, true, true, true, true, true, true, true, true, true, true, true, true, true, true, true, true, true, true, true, true, false, false, false, false, false, false, false, false, false, false, false, false, false, false, false, false, false, false, false, false] (by kernel_rfl) (by kernel_rfl) (planOk_step #[true, true, true, true, true, true, true, true, true, true, true, true, true, true, true, true, true, true, true, true, true, true, true, true, true, true, true, true, true, true, true, true, true, true, true, true, true, true, false, false, false, false, false, false, false, false, false, false, false, false, false, false, false, false, false, false, false] (by kernel_rfl) (by kernel_rfl) (planOk_step #[true, true, true, true, true, true, true, true, true, true, true, true, true, true, true, true, true, true, true, true, true, true, true, true, true, true, true, true, true, true, true, true, true, true, true, true, true, true, true, false, false, false, false, false, false, false, false, false, false, false, false, false, false, false, false, false, false] (by kernel_rfl) (by kernel_rfl) (planOk_step #[true, true, true, true, true, true, true, true, true, true, true, true, true, true, true, true, true, true, true, true, true, true, true, true, true, true, true, true, true, true, true, true, true, true, true, true, true, true, true, true, false, false, false, false, false, false, false, false, false, false, false, false, false, false, false, false, false] (by kernel_rfl) (by kernel_rfl) (planOk_step #[true, true, true, true, true, true, true, true, true, true, true, true, true, true, true, true, true, true, true, true, true, true, true, true, true, true, true, true, true, true, true, true, true, true, true, true, true, true, true, true, true, false, false, false, false, false, false, false, false, false, false, false, false, false, false, false, false] (by kernel_rfl) (by kernel_rfl) (planOk_step #[true, true, true, true, true, true, true, true, true, true, true, true, true, true, true, true, true, true, true, true, true, true, true, true, true, true, true, true, true, true, true, true, true, true, true, true, true, true, true, true, true, true, false, false, false, false, false, false, false, false, false, false, false, false, false, false, false] (by kernel_rfl) (by kernel_rfl) (planOk_step #[true, true, true, true, true, true, true, true, true, true, true, true, true, true, true, true, true, true, true, true, true, true, true, true, true, true, true, true, true, true, true, true, true, true, true, true, true, true, true, true, true, true, true, false, false, false, false, false, false, false, false, false, false, false, false, false, false] (by kernel_rfl) (by kernel_rfl) (planOk_step #[true, true, true, true, true, true, true, true, true, true, true, true, true, true, true, true, true, true, true, true, true, true, true, true, true, true, true, true, true, true, true, true, true, true, true, true, true, true, true, true, true, true, true, true, false, false, false, false, false, false, false, false, false, false, false, false, false] (by kernel_rfl) (by kernel_rfl) (planOk_step #[true, true, true, true, true, true, true, true, true, true, true, true, true, true, true, true, true, true, true, true, true, true, true, true, true, true, true, true, true, true, true, true, true, true, true, true, true, true, true, true, true, true, true, true, true, false, false, false, false, false, false, false, false, false, false, false, false] (by kernel_rfl) (by kernel_rfl) (planOk_step #[true, true, true, true, true, true, true, true, true, true, true, true, true, true, true, true, true, true, true, true, true, true, true, true, true, true, true, true, true, true, true, true, true, true, true, true, true, true, true, true, true, true, true, true, true, true, false, false, false, false, false, false, false, false, false, false, false] (by kernel_rfl) (by kernel_rfl) (planOk_step #[true, true, true, true, true, true, true, true, true, true, true, true, true, true, true, true, true, true, true, true, true, true, true, true, true, true, true, true, true, true, true, true, true, true, true, true, true, true, true, true, true, true, true, true, true, true, true, false, false, false, false, false, false, false, false, false, false] (by kernel_rfl) (by kernel_rfl) (planOk_step #[true, true, true, true, true, true, true, true, true, true, true, true, true, true, true, true, true, true, true, true, true, true, true, true, true, true, true, true, true, true, true, true, true, true, true, true, true, true, true, true, true, true, true, true, true, true, true, false, true, false, false, false, false, false, false, false, false] (by kernel_rfl) (by kernel_rfl) (planOk_step #[true, true, true, true, true, true, true, true, true, true, true, true, true, true, true, true, true, true, true, true, true, true, true, true, true, true, true, true, true, true, true, true, true, true, true, true, true, true, true, true, true, true, true, true, true, true, true, false, true, true, false, false, false, false, false, false, false] (by kernel_rfl) (by kernel_rfl) (planOk_step #[true, true, true, true, true, true, true, true, true, true, true, true, true, true, true, true, true, true, true, true, true, true, true, true, true, true, true, true, true, true, true, true, true, true, true, true, true, true, true, true, true, true, true, true, true, true, true, false, true, true, true, false, false, false, false, false, false] (by kernel_rfl) (by kernel_rfl) (planOk_step #[true, true, true, true, true, true, true, true, true, true, true, true, true, true, true, true, true, true, true, true, true, true, true, true, true, true, true, true, true, true, true, true, true, true, true, true, true, true, true, true, true, true, true, true, true, true, true, false, true, true, true, true, false, false, false, false, false] (by kernel_rfl) (by kernel_rfl) (planOk_step #[true, true, true, true, true, true, true, true, true, true, true, true, true, true, true, true, true, true, true, true, true, true, true, true, true, true, true, true, true, true, true, true, true, true, true, true, true, true, true, true, true, true, true, true, true, true, true, false, true, true, true, true, true, false, false, false, false] (by kernel_rfl) (by kernel_rfl) (planOk_step #[true, true, true, true, true, true, true, true, true, true, true, true, true, true, true, true, true, true, true, true, true, true, true, true, true, true, true, true, true, true, true, true, true, true, true, true, true, true, true, true, true, true, true, true, true, true, true, false, true, true, true, true, true, true, false, false, false] (by kernel_rfl) (by kernel_rfl) (planOk_step #[true, true, true, true, true, true, true, true, true, true, true, true, true, true, true, true, true, true, true, true, true, true, true, true, true, true, true, true, true, true, true, true, true, true, true, true, true, true, true, true, true, true, true, true, true, true, true, true, true, true, true, true, true, true, false, false, false] (by kernel_rfl) (by kernel_rfl) (planOk_step #[true, true, true, true, true, true, true, true, true, true, true, true, true, true, true, true, true, true, true, true, true, true, true, true, true, true, true, true, true, true, true, true, true, true, true, true, true, true, true, true, true, true, true, true, true, true, true, true, true, true, true, true, true, true, true, false, false] (by kernel_rfl) (by kernel_rfl) (planOk_step #[true, true, true, true, true, true, true, true, true, true, true, true, true, true, true, true, true, true, true, true, true, true, true, true, true, true, true, true, true, true, true, true, true, true, true, true, true, true, true, true, true, true, true, true, true, true, true, true, true, true, true, true, true, true, true, true, false] (by kernel_rfl) (by kernel_rfl) (planOk_step #[true, true, true, true, true, true, true, true, true, true, true, true, true, true, true, true, true, true, true, true, true, true, true, true, true, true, true, true, true, true, true, true, true, true, true, true, true, true, true, true, true, true, true, true, true, true, true, true, true, true, true, true, true, true, true, true, true] (by kernel_rfl) (by kernel_rfl) (by kernel_rfl)))))))))))))))))))))))))))))))))))))))))))))))))))))))))
theorem dispatcherlaw14_PostedPlays_R7_held {D : List Deferred} (S : World → Prop) {K : Exit → Sl → World → Prop} {ρ : Sl} {w : World} (hS : S { w with drawn := w.drawn + 1 }) (h : dispatcherlaw14_PostedPlays_R7_H S K ρ { w with drawn := w.drawn + 1 }) : W ⟨none, D⟩ Try.prog 124 dispatcherlaw14_PostedPlays_R7 K ρ w := by
  have e : dispatcherlaw14_PostedPlays_R7 = .region (idOf dispatcherlaw14_PostedPlays_R7) dispatcherlaw14_PostedPlays_R7_ops true := by kernel_rfl
  have q : sxh Try.prog S dispatcherlaw14_PostedPlays_R7_ops (K .normal) [(0, true), (1, true), (2, true), (3, true), (4, true), (5, true), (6, true), (7, true), (8, true), (9, true), (10, true), (11, true), (12, true), (13, true), (14, true), (16, true), (17, true), (18, true), (19, true), (20, true), (21, true), (15, false), (22, false), (23, false), (24, true), (25, true), (26, true), (27, true), (28, true), (29, true), (30, true), (32, true), (33, true), (34, true), (35, true), (31, false), (36, false), (37, false), (38, true), (39, true), (40, true), (41, true), (42, true), (43, true), (44, true), (45, true), (46, true), (48, true), (49, true), (50, true), (51, true), (52, true), (53, true), (47, false), (54, false), (55, true), (56, true)] ρ { w with drawn := w.drawn + 1 } = dispatcherlaw14_PostedPlays_R7_H S K ρ { w with drawn := w.drawn + 1 } := by
    show sxh Try.prog S dispatcherlaw14_PostedPlays_R7_ops (K .normal) ([(0, true), (1, true), (2, true), (3, true), (4, true), (5, true), (6, true), (7, true), (8, true), (9, true), (10, true), (11, true)] ++ ([(12, true), (13, true), (14, true), (16, true), (17, true), (18, true), (19, true), (20, true), (21, true), (15, false), (22, false), (23, false)] ++ ([(24, true), (25, true), (26, true), (27, true), (28, true), (29, true), (30, true), (32, true), (33, true), (34, true), (35, true), (31, false)] ++ ([(36, false), (37, false), (38, true), (39, true), (40, true), (41, true), (42, true), (43, true), (44, true), (45, true), (46, true), (48, true)] ++ [(49, true), (50, true), (51, true), (52, true), (53, true), (47, false), (54, false), (55, true), (56, true)])))) ρ { w with drawn := w.drawn + 1 } = _
    rw [sxh_append, sxh_append, sxh_append, sxh_append, dispatcherlaw14_PostedPlays_R7_q4, dispatcherlaw14_PostedPlays_R7_q3, dispatcherlaw14_PostedPlays_R7_q2, dispatcherlaw14_PostedPlays_R7_q1, dispatcherlaw14_PostedPlays_R7_q0]; rfl
  rw [e]
  exact W_held S [(0, true), (1, true), (2, true), (3, true), (4, true), (5, true), (6, true), (7, true), (8, true), (9, true), (10, true), (11, true), (12, true), (13, true), (14, true), (16, true), (17, true), (18, true), (19, true), (20, true), (21, true), (15, false), (22, false), (23, false), (24, true), (25, true), (26, true), (27, true), (28, true), (29, true), (30, true), (32, true), (33, true), (34, true), (35, true), (31, false), (36, false), (37, false), (38, true), (39, true), (40, true), (41, true), (42, true), (43, true), (44, true), (45, true), (46, true), (48, true), (49, true), (50, true), (51, true), (52, true), (53, true), (47, false), (54, false), (55, true), (56, true)] (by kernel_rfl) (by kernel_rfl) dispatcherlaw14_PostedPlays_R7_steps (by kernel_rfl) hS (Eq.mpr q h)
noncomputable def dispatcherlaw14_PostedPlays_R8_F (z : At) (K : Exit → Sl → World → Prop) (ρ : Sl) (w : World) : Prop :=
  CondK (ρ 123) (K .ret (up ρ 2 (Value.bool false)) w) (K .normal ρ w)
theorem dispatcherlaw14_PostedPlays_R8_eq (z : At) (K : Exit → Sl → World → Prop) (ρ : Sl) (w : World) : sx z Try.prog 124 dispatcherlaw14_PostedPlays_R8 K ρ w = dispatcherlaw14_PostedPlays_R8_F z K ρ w := by kernel_rfl
noncomputable def dispatcherlaw14_PostedPlays_F (a0 : Value) (w : World) (R : Value → World → Prop) : Prop :=
  CK Try.prog (Value.func (Fn.func 11) #[] #[]) [a0] w fun x11 w => CondK x11 (R (Value.bool true) w) (CK Try.prog (Value.func (Fn.func 29) #[] #[]) [] w fun x12 w => NK Try.prog x12 w fun x14 w => VK Try.prog (Instr.fieldAt 69 x14 0) w fun x15 w => VK Try.prog (Instr.loadAt 27 x15) w fun x16 w => BK Try.prog .eql 27 (.tmp 16) (.const (Value.pointer none)) x16 (Value.pointer none) w fun x17 w => MG Try.prog x17 false x12 w fun x19 w => NG Try.prog x17 false x19 w fun x20 w => VG Try.prog x17 false (Instr.fieldAt 69 x20 1) w fun x21 w => VG Try.prog x17 false (Instr.loadAt 28 x21) w fun x22 w => BG Try.prog x17 false .eql 28 (.tmp 22) (.const (Value.pointer none)) x22 (Value.pointer none) w fun x23 w => PK Try.prog x17 (Value.bool true) x23 w fun x24 w => CondK x24 (R (Value.bool false) w) (W fn_ Try.prog 124 (Code.loop dispatcherlaw14_PostedPlays_L0) (blkK 0 (seqK (sx fn_ Try.prog 124 dispatcherlaw14_PostedPlays_R1 (retK Try.prog [ResultVar.tmp 2] R)) (retK Try.prog [ResultVar.tmp 2] R))) (up (up (up (up (up (up (up (up (up (up (up (up (up (up (up (up (up (up (rho0 [a0]) 2 (Value.bool false)) 10 a0) 11 x11) 12 x12) 3 x12) 13 x12) 14 x14) 15 x15) 16 x16) 17 x17) 18 x17) 19 x19) 20 x20) 21 x21) 22 x22) 23 x23) 24 x24) 4 (Value.int .i64 0)) w))
theorem dispatcherlaw14_PostedPlays_eq (a0 : Value) (w : World) (R : Value → World → Prop) : sx fn_ Try.prog 124 dispatcherlaw14_PostedPlays_b (retK Try.prog Try.f9.results.toList R) (rho0 [a0]) w = dispatcherlaw14_PostedPlays_F a0 w R := by kernel_rfl
theorem dispatcherlaw14_PostedPlays_calls {a0 : Value} {w : World} {R : Value → World → Prop} (h : dispatcherlaw14_PostedPlays_F a0 w R) : Calls Try.prog 9 #[a0] w fun e w' => ∃ v, e = .returned v ∧ R v w' :=
  Go.X.calls_of_sx (n := 124) (c := dispatcherlaw14_PostedPlays_b) Try.func9 (by kernel_rfl) (by kernel_rfl) (Nat.le_of_ble_eq_true rfl) (by kernel_rfl) (Eq.mpr (dispatcherlaw14_PostedPlays_eq a0 w R) h)
end Go.Proofs.Ytmnkedgmpbcicaa.XJ
set_option linter.unusedVariables false
set_option linter.unusedSimpArgs false
set_option maxRecDepth 8000
namespace Go.Proofs.Ytmnkedgmpbcicaa.Que
open Go Go.X Go.RowKit Go.Proofs.Ytmnkedgmpbcicaa.XF Go.Proofs.Ytmnkedgmpbcicaa.XG Go.Proofs.Ytmnkedgmpbcicaa.XK
theorem HM' {S : World → Prop} {v : Value} {K : Value → Prop} (hk : K v) : HK Try.prog S (pure (Next.value v)) K := ⟨v, fun _ _ => rfl, hk⟩
section
variable {w0 w : World} {x b b3 n : Nat} {s : PlS} {r : Rc}
end
end Go.Proofs.Ytmnkedgmpbcicaa.Que
set_option linter.unusedVariables false
set_option linter.unusedSimpArgs false
set_option maxRecDepth 8000
namespace Go.Proofs.Ytmnkedgmpbcicaa.Que
open Go Go.X Go.RowKit Go.Proofs.Ytmnkedgmpbcicaa.XF Go.Proofs.Ytmnkedgmpbcicaa.XG Go.Proofs.Ytmnkedgmpbcicaa.XK
section
variable {w0 w : World} {x b n : Nat} {s : PlS} {r0 : Rc} {v : Value} {l : List Bc}
end
end Go.Proofs.Ytmnkedgmpbcicaa.Que
set_option linter.unusedVariables false
set_option linter.unusedSimpArgs false
set_option maxRecDepth 8000
namespace Go.Proofs.Ytmnkedgmpbcicaa.Que
open Go Go.X Go.RowKit Go.Proofs.Ytmnkedgmpbcicaa.XF Go.Proofs.Ytmnkedgmpbcicaa.XG Go.Proofs.Ytmnkedgmpbcicaa.XK
theorem gRc : Try.prog.eqGuardType Try.prog.depth tRc = false := by kernel_rfl
theorem eqRc (a b : Rc) (w : World) : (Op.equalIn 10000 24 (.agg a.enc.toArray) (.agg b.enc.toArray)).run Try.prog w = .ok (decide (a = b)) w := by
  show (Op.equalIn (9999 + 1) 24 (.agg a.enc.toArray) (.agg b.enc.toArray)).run Try.prog w = _
  rw [run_equalIn_struct w 9999 24 _ _ (by simp [Program.fieldsOf, Try.underlying24]) (by kernel_rfl)]
  obtain ⟨a1, a2, a3, a4, a5, a6, a7, a8, a9⟩ := a; obtain ⟨b1, b2, b3, b4, b5, b6, b7, b8, b9⟩ := b
  have e1 : ∀ l : List UInt8, (⟨l.toArray⟩ : ByteArray).toList = l := fun l => by simp
  simp [Program.fieldsOf, Try.underlying24, Op.eqFields, part, is3, is9, is2', is4', Sem.run_bind, Rc.enc, strV, run_equalIn_int w 9998 3 .i64 .i64 _ _ Try.underlying3, run_equalIn_string w 9998 9 _ _ Try.underlying9, run_equalIn_bool w 9998 4 _ _ Try.underlying4, e1]
  by_cases h1 : a1 = b1 <;> by_cases h2 : a2 = b2 <;> by_cases h3 : a3 = b3 <;> by_cases h4 : a4 = b4 <;> by_cases h5 : a5 = b5 <;> by_cases h6 : a6 = b6 <;> by_cases h7 : a7 = b7 <;> by_cases h8 : a8 = b8 <;> by_cases h9 : a9 = b9 <;> simp [h1, h2, h3, h4, h5, h6, h7, h8, h9, e1]
theorem rRcN (a b : Rc) (w : World) : (binOp .neq tRc (.agg a.enc.toArray) (.agg b.enc.toArray)).run Try.prog w = .ok (.bool (!decide (a = b))) w := by
  show (do let x ← Op.equalIn 10000 tRc (.agg a.enc.toArray) (.agg b.enc.toArray); pure (Value.bool !x) : Sem Value).run Try.prog w = _
  rw [Sem.run_bind, eqRc]; rfl
theorem RSame_ok {w : World} {v u : Value} {a b : List Rc} (ha : RcRow w v a) (hb : RcRow w u b) (hl : a.length ≤ 1000000) : Rt Try.prog 34 #[v, u] w fun x w' => x = .bool (decide (a = b)) ∧ Mod none_ w w' := by
  refine dispatcherref14_Same_calls ?_
  unfold dispatcherref14_Same_F
  obtain ⟨A, c, es, _⟩ := reads_cap (ha)
  obtain ⟨A2, c2, es2, _⟩ := reads_cap (hb)
  rw [es, len_sl vRcS, ← es, es2, len_sl vRcS, ← es2, BK_neq]
  by_cases hlen : a.length = b.length
  · rw [show ((a.length : Int) != (b.length : Int)) = false by rw [hlen]; simp]
    refine condF ?_
    refine W_loop dispatcherref14_Same_L0_ok (fun ρ w' => ∃ i : Nat, i ≤ a.length ∧ ρ 5 = .int .i64 i ∧ ρ 0 = v ∧ ρ 1 = u ∧ a.take i = b.take i ∧ Mod none_ w w') (fun ρ _ => a.length - (intOf (ρ 5)).toNat)
      ⟨0, Nat.zero_le _, rfl, rfl, rfl, by simp, Mod.refl _ _⟩ ?_
    rintro ρ w1 ⟨i, hi, e5, e0, e1, heq, hm⟩
    rw [dispatcherref14_Same_L0_eq]; unfold dispatcherref14_Same_L0_F
    rw [e5, e0, es, len_sl vRcS, ← es, BK_lss]
    by_cases hlt : i < a.length
    · rw [decide_eq_true (by omega)]
      refine condT ?_
      have hx : a[i]? = some a[i] := List.getElem?_eq_getElem hlt
      have hy : b[i]? = some b[i] := List.getElem?_eq_getElem (by omega)
      have ta : a.take (i + 1) = a.take i ++ [a[i]] := by rw [List.take_add_one, hx]; rfl
      have tb : b.take (i + 1) = b.take i ++ [b[i]] := by rw [List.take_add_one, hy]; rfl
      generalize a[i] = x at *
      generalize b[i] = y at *
      obtain ⟨p1, r1, _, l1⟩ := rc_any ha hx
      obtain ⟨p2, r2, _, l2⟩ := rc_any hb hy
      refine dispatcherref14_Same_R2_quiet (D := []) (fun w' => Mod none_ w w') (hm.trans ((Mod.refl _ w1).drawn _)) ?_
      have key : ∀ (ρ' : Sl) (K : Exit → Sl → World → Prop), ρ' 0 = v → ρ' 1 = u → ρ' 5 = .int .i64 i →
          (∀ (ρ2 : Sl) (w' : World), ρ2 0 = v → ρ2 1 = u → ρ2 5 = .int .i64 i → ρ2 25 = .bool (!decide (x = y)) → Mod none_ w w' → K .normal ρ2 w') → dispatcherref14_Same_R2_Q (fun w' => Mod none_ w w') K ρ' := by
        intro ρ' K q0 q1 q5 hK
        unfold dispatcherref14_Same_R2_Q
        rw [q0, q1, q5]
        refine QV_of (fun w' _ => r1 w') (QV_of (fun w' hw => l1 w' hw) (QV_of (fun w' _ => r2 w') (QV_of (fun w' hw => l2 w' hw) ?_)))
        refine QB_of (v := .bool (!decide (x = y))) (fun w => run_eqGuard_agg w .neq _ _ _ _ _ gRc) (fun w => rRcN _ _ w) ?_
        intro w' hw
        exact hK _ w' q0 q1 q5 rfl hw
      refine key _ _ (by first | exact e0 | rfl) (by first | exact e1 | rfl) (by first | exact e5 | rfl) ?_
      intro ρ2 w' q0 q1 q5 q25 hw
      rw [sq_n, dispatcherref14_Same_R3_eq]; unfold dispatcherref14_Same_R3_F
      rw [q25]
      refine caseC (fun q => ?_) (fun q => ?_)
      · refine ⟨?_, hw⟩
        rw [decide_eq_false]
        · rfl
        · intro z
          rw [z, hy] at hx
          have : ¬ (x = y) := by simpa using q
          exact this (Option.some.inj hx).symm
      · have hxy : x = y := by simpa using q
        rw [bk_n, sq_n, dispatcherref14_Same_R4_eq]; unfold dispatcherref14_Same_R4_F
        rw [q5, BK_add, wrap_i (by omega) (by omega)]
        refine ⟨⟨i + 1, hlt, rfl, q0, q1, by rw [ta, tb, heq, hxy], hw⟩, ?_⟩
        simp only [sq_n, sq_x, sq_r, bk_n, bk_r, bk_x, rt_r, rt_n, rs_0, rs_t, pk_1, pk_2, up_at, reduceIte, Nat.reduceEqDiff, intOf]; omega
    · obtain rfl : i = a.length := by omega
      rw [decide_eq_false (by omega)]
      refine condF ?_
      rw [sq_x, bk_x, sq_n, dispatcherref14_Same_R1_eq]; unfold dispatcherref14_Same_R1_F
      refine ⟨?_, hm⟩
      rw [List.take_length, hlen, List.take_length] at heq
      rw [decide_eq_true heq]; rfl
  · rw [show ((a.length : Int) != (b.length : Int)) = true by rw [bne_iff_ne]; omega]
    refine condT ⟨?_, Mod.refl _ _⟩
    rw [decide_eq_false fun z => hlen (by rw [z])]
end Go.Proofs.Ytmnkedgmpbcicaa.Que
set_option linter.unusedVariables false
set_option linter.unusedSimpArgs false
set_option maxRecDepth 8000
namespace Go.Proofs.Ytmnkedgmpbcicaa.Que
open Go Go.X Go.RowKit Go.Proofs.Ytmnkedgmpbcicaa.XF Go.Proofs.Ytmnkedgmpbcicaa.XG Go.Proofs.Ytmnkedgmpbcicaa.XK
theorem bc_any {w : World} {v : Value} {l : List Bc} {i : Nat} {r : Bc} (h : Bcts w v l) (hi : l[i]? = some r) : ∃ a, (∀ w', (Instr.indexAt tBcs v (.int .i64 (i : Int))).run Try.prog w' = .ok (.pointer (some a)) w') ∧ ∀ w', Mod none_ w w' → ∀ k u, r.enc[k]? = some u → w'.cell? (a.add k) = some u := by
  have hil := (List.getElem?_eq_some_iff.1 hi).1
  obtain ⟨A, c, es, _⟩ := reads_cap h
  subst es
  have hlt0 : (l.flatMap Bc.enc)[i * (17 + 1) + 0]? = some (.int .u8 r.kind) := by rw [fl_get (k := 17 + 1) Bc.enc_len hi (by decide)]; rfl
  have hA : ∃ a, A = some a := by
    obtain ⟨_, A', c', es', _, hr⟩ := h
    cases es'
    obtain ⟨a, ha, _⟩ := hr _ _ hlt0
    exact ⟨a, ha⟩
  obtain ⟨a, rfl⟩ := hA
  have hc : ∀ w', Mod none_ w w' → ∀ k u, r.enc[k]? = some u → w'.cell? ((a.add (i * (17 + 1))).add k) = some u := fun w' hw k u hu => by
    have hk : k < 17 + 1 := (List.getElem?_eq_some_iff.1 hu).1
    obtain ⟨_, A2, c2, es2, _, hr2⟩ := Bcts.calm h hw
    cases es2
    obtain ⟨a2, ha2, hc2⟩ := hr2 (i * (17 + 1) + k) u (by rw [fl_get (k := 17 + 1) Bc.enc_len hi hk]; exact hu)
    cases ha2
    rw [add_add]
    exact hc2
  refine ⟨a.add (i * (17 + 1)), fun w' => ?_, hc⟩
  rw [run_ixa vBcs cBc (by omega) (by omega) w', show ((i : Int)).toNat = i by omega]
theorem rcb_get (o : Option Rc) : rcb o = .tuple #[.agg (o.getD zRc).enc.toArray, .bool o.isSome] := by cases o <;> rfl
section
variable {w0 w : World} {x b b6 b8 n i : Nat} {s : PlS} {r o : Rc} {ob : Bool} {v : Value} {l : List Bc} {a : Bc}
structure LdR (w : World) (x b : Nat) (s : PlS) (r : Rc) : Prop where
  hx : ∀ w', Mod none_ w w' → w'.heap[x]? = some (.cells s.cs tPl (0, 0))
  hb : ∀ w', Mod none_ w w' → w'.heap[b]? = some (.cells r.enc.toArray tRc (0, 0))
theorem LdR.lq (h : LdR w x b s r) : ∀ w', Mod none_ w w' → (Instr.loadAt 27 (.pointer (some ⟨x, 0, none⟩))).run Try.prog w' = .ok (.pointer (some ⟨s.q, 0, none⟩)) w' := fun w' hm => run_ld1 uQ rfl (pl_c (h.hx w' hm) (k := 0) rfl)
theorem LdR.lp (h : LdR w x b s r) : ∀ w', Mod none_ w w' → (Instr.loadAt 28 (.pointer (some ⟨x, 1, none⟩))).run Try.prog w' = .ok (.pointer (some ⟨s.p, 0, none⟩)) w' := fun w' hm => run_ld1 uPd rfl (pl_c (h.hx w' hm) (k := 1) rfl)
theorem LdR.lk (h : LdR w x b s r) : ∀ w', Mod none_ w w' → (Instr.loadAt 66 (.pointer (some ⟨x, 2, none⟩))).run Try.prog w' = .ok (.pointer (some ⟨s.k, 0, none⟩)) w' := fun w' hm => run_ld1 uPW rfl (pl_c (h.hx w' hm) (k := 2) rfl)
theorem LdR.ld (h : LdR w x b s r) : ∀ w', Mod none_ w w' → (Instr.loadAt 67 (.pointer (some ⟨x, 3, none⟩))).run Try.prog w' = .ok (.pointer (some ⟨s.d, 0, none⟩)) w' := fun w' hm => run_ld1 uPE rfl (pl_c (h.hx w' hm) (k := 3) rfl)
theorem LdR.lr (h : LdR w x b s r) : ∀ w', Mod none_ w w' → (Instr.loadAt 3 (.pointer (some ⟨b, 1, none⟩))).run Try.prog w' = .ok (.int .i64 r.rank) w' := fun w' hm => run_ld1 vI rfl (by rw [cell_blk (h.hb w' hm)]; rfl)
theorem LdR.lc (h : LdR w x b s r) : ∀ w', Mod none_ w w' → (Instr.loadAt 3 (.pointer (some ⟨b, 2, none⟩))).run Try.prog w' = .ok (.int .i64 r.call) w' := fun w' hm => run_ld1 vI rfl (by rw [cell_blk (h.hb w' hm)]; rfl)
theorem LdR.la (h : LdR w x b s r) : ∀ w', Mod none_ w w' → (Instr.loadAt tRc (.pointer (some ⟨b, 0, none⟩))).run Try.prog w' = .ok (.agg r.enc.toArray) w' := fun w' hm => run_ldB Try.underlying24 rfl (by rw [iRc]; rfl) (h.hb w' hm)
theorem g0 (w : World) : (Instr.fieldAt tPl (.pointer (some ⟨x, 0, none⟩)) 0).run Try.prog w = .ok (.pointer (some ⟨x, 0, none⟩)) w := fld (c := 0) (show fieldOff Try.prog tPl 0 = some 0 by kernel_rfl) rfl w
theorem g1 (w : World) : (Instr.fieldAt tPl (.pointer (some ⟨x, 0, none⟩)) 1).run Try.prog w = .ok (.pointer (some ⟨x, 1, none⟩)) w := fld (c := 1) (show fieldOff Try.prog tPl 1 = some 1 by kernel_rfl) rfl w
theorem g2 (w : World) : (Instr.fieldAt tPl (.pointer (some ⟨x, 0, none⟩)) 2).run Try.prog w = .ok (.pointer (some ⟨x, 2, none⟩)) w := fld (c := 2) (show fieldOff Try.prog tPl 2 = some 2 by kernel_rfl) rfl w
theorem g3 (w : World) : (Instr.fieldAt tPl (.pointer (some ⟨x, 0, none⟩)) 3).run Try.prog w = .ok (.pointer (some ⟨x, 3, none⟩)) w := fld (c := 3) (show fieldOff Try.prog tPl 3 = some 3 by kernel_rfl) rfl w
theorem gr (w : World) : (Instr.fieldAt tRc (.pointer (some ⟨b, 0, none⟩)) 1).run Try.prog w = .ok (.pointer (some ⟨b, 1, none⟩)) w := fld (c := 1) (show fieldOff Try.prog tRc 1 = some 1 by kernel_rfl) rfl w
theorem gc (w : World) : (Instr.fieldAt tRc (.pointer (some ⟨b, 0, none⟩)) 2).run Try.prog w = .ok (.pointer (some ⟨b, 2, none⟩)) w := fld (c := 2) (show fieldOff Try.prog tRc 2 = some 2 by kernel_rfl) rfl w
theorem plays_R2 {K : Exit → Sl → World → Prop} {ρ : Sl} (h : PlAt w0 w x s n) (hn : n ≤ 400) (hb : w.heap[b]? = some (.cells r.enc.toArray tRc (0, 0))) (e3 : ρ 3 = .pointer (some ⟨x, 0, none⟩)) (e5 : ρ 5 = .pointer (some ⟨b, 0, none⟩))
    (hk : ∀ (ρ' : Sl) (w' : World) (b6 : Nat), ρ' 6 = .pointer (some ⟨b6, 0, none⟩) → w'.heap[b6]? = some (.cells ((atV s.R r.rank r.call).getD zRc).enc.toArray tRc (0, 0)) → ρ' 7 = .bool (atV s.R r.rank r.call).isSome → (∀ j, j < 6 → ρ' j = ρ j) → Mod none_ w w' → K .normal ρ' w') : W fn_ Try.prog 124 dispatcherlaw14_PostedPlays_R2 K ρ w := by
  have hmd : Mod none_ w { w with drawn := w.drawn + 1 } := (Mod.refl _ w).drawn _
  refine dispatcherlaw14_PostedPlays_R2_held (D := []) (fun w' => Mod none_ w w') hmd ?_
  generalize ({ w with drawn := w.drawn + 1 } : World) = wd at *
  have L : LdR w x b s r := ⟨fun w' hm => hm.blk h.b.blk id, fun w' hm => hm.blk hb id⟩
  have hd := h.calm hmd
  have hR : ∀ i, (s.R i).length ≤ 1000000 := fun i => by have := h.hR i; omega
  unfold dispatcherlaw14_PostedPlays_R2_H
  rw [e3, e5]
  refine HN_ptr (HV_of (fun w _ => g1 w) (HV_of L.lp (HV_of (fun w _ => gr w) (HV_of L.lr (HV_of (fun w _ => gc w) (HV_of L.lc ⟨?_, ?_⟩))))))
  · refine CK_st Try.func21 rfl rfl (At_ok hd.b.pp.pa hR r.rank r.call) ?_
    rintro _ w1 ⟨rfl, hp1⟩
    have hm1 := hmd.trans hp1
    refine ⟨hm1, ?_⟩
    rw [rcb_get]
    generalize atV s.R r.rank r.call = o at *
    refine HV_of (v := .agg (o.getD zRc).enc.toArray) (fun w _ => rfl) (HV_of (v := .bool o.isSome) (fun w _ => rfl) ?_)
    refine al_k (cs := zRc.enc.toArray) zRc_z rfl _ fun w2 hb2 hp2 hz2 => ?_
    refine ⟨hm1.trans hp2, ?_⟩
    refine stS (cs := (o.getD zRc).enc.toArray) (old := zRc.enc.toArray) rfl rfl (by rw [iRc]; rfl) rfl (Rc.enc_one _) hb2 fun w3 hb3 hp3 hz3 => ?_
    have hm3 : Mod none_ w w3 := (hm1.trans hp2).then hp3 fun i hi z => by have := hm1.size; omega
    refine ⟨hm3, ?_⟩
    refine hk _ w3 _ rfl hb3 rfl (fun j hj => ?_) hm3
    repeat rw [up_lo hj (by decide)]
  · refine al_k (cs := zRc.enc.toArray) zRc_z rfl _ fun w2 hb2 hp2 hz2 => ?_
    have hm2 := hmd.trans hp2
    refine ⟨hm2, ?_⟩
    refine CK_st Try.func21 rfl rfl (At_ok (hd.calm hp2).b.pp.pa hR r.rank r.call) ?_
    rintro _ w1 ⟨rfl, hp1⟩
    have hm1 := hm2.trans hp1
    refine ⟨hm1, ?_⟩
    rw [rcb_get]
    generalize atV s.R r.rank r.call = o at *
    refine HV_of (v := .agg (o.getD zRc).enc.toArray) (fun w _ => rfl) (HV_of (v := .bool o.isSome) (fun w _ => rfl) ?_)
    refine stS (cs := (o.getD zRc).enc.toArray) (old := zRc.enc.toArray) rfl rfl (by rw [iRc]; rfl) rfl (Rc.enc_one _) (hp1.blk hb2 id) fun w3 hb3 hp3 hz3 => ?_
    have hm3 : Mod none_ w w3 := hm1.then hp3 fun i hi z => by have := hmd.size; omega
    refine ⟨hm3, ?_⟩
    refine hk _ w3 _ rfl hb3 rfl (fun j hj => ?_) hm3
    repeat rw [up_lo hj (by decide)]
theorem plays_R5 {K : Exit → Sl → World → Prop} {ρ : Sl} (h : PlAt w0 w x s n) (hn : n ≤ 400) (hb : w.heap[b]? = some (.cells r.enc.toArray tRc (0, 0))) (e3 : ρ 3 = .pointer (some ⟨x, 0, none⟩)) (e5 : ρ 5 = .pointer (some ⟨b, 0, none⟩))
    (hk : ∀ (ρ' : Sl) (w' : World) (b8 : Nat), ρ' 8 = .pointer (some ⟨b8, 0, none⟩) → w'.heap[b8]? = some (.cells ((atV s.R r.rank r.call).getD zRc).enc.toArray tRc (0, 0)) → ρ' 9 = .bool (atV s.R r.rank r.call).isSome → (∀ j, j < 8 → ρ' j = ρ j) → Mod none_ w w' → K .normal ρ' w') : W fn_ Try.prog 124 dispatcherlaw14_PostedPlays_R5 K ρ w := by
  have hmd : Mod none_ w { w with drawn := w.drawn + 1 } := (Mod.refl _ w).drawn _
  refine dispatcherlaw14_PostedPlays_R5_held (D := []) (fun w' => Mod none_ w w') hmd ?_
  generalize ({ w with drawn := w.drawn + 1 } : World) = wd at *
  have L : LdR w x b s r := ⟨fun w' hm => hm.blk h.b.blk id, fun w' hm => hm.blk hb id⟩
  have hd := h.calm hmd
  have hA := h.hA
  unfold dispatcherlaw14_PostedPlays_R5_H
  rw [e3, e5]
  refine HN_ptr (HV_of (fun w _ => g3 w) (HV_of L.ld (HV_of (fun w _ => gr w) (HV_of L.lr (HV_of (fun w _ => gc w) (HV_of L.lc ⟨?_, ?_⟩))))))
  · refine CK_st Try.func33 rfl rfl (RAt_ok hd.b.ed (by omega) r.rank r.call) ?_
    rintro _ w1 ⟨rfl, hp1⟩
    have hm1 := hmd.trans hp1
    refine ⟨hm1, ?_⟩
    rw [rel_at h.rel, rcb_get]
    generalize atV s.R r.rank r.call = o at *
    refine HV_of (v := .agg (o.getD zRc).enc.toArray) (fun w _ => rfl) (HV_of (v := .bool o.isSome) (fun w _ => rfl) ?_)
    refine al_k (cs := zRc.enc.toArray) zRc_z rfl _ fun w2 hb2 hp2 hz2 => ?_
    refine ⟨hm1.trans hp2, ?_⟩
    refine stS (cs := (o.getD zRc).enc.toArray) (old := zRc.enc.toArray) rfl rfl (by rw [iRc]; rfl) rfl (Rc.enc_one _) hb2 fun w3 hb3 hp3 hz3 => ?_
    have hm3 : Mod none_ w w3 := (hm1.trans hp2).then hp3 fun i hi z => by have := hm1.size; omega
    refine ⟨hm3, ?_⟩
    refine hk _ w3 _ rfl hb3 rfl (fun j hj => ?_) hm3
    repeat rw [up_lo hj (by decide)]
  · refine al_k (cs := zRc.enc.toArray) zRc_z rfl _ fun w2 hb2 hp2 hz2 => ?_
    have hm2 := hmd.trans hp2
    refine ⟨hm2, ?_⟩
    refine CK_st Try.func33 rfl rfl (RAt_ok (hd.calm hp2).b.ed (by omega) r.rank r.call) ?_
    rintro _ w1 ⟨rfl, hp1⟩
    have hm1 := hm2.trans hp1
    refine ⟨hm1, ?_⟩
    rw [rel_at h.rel, rcb_get]
    generalize atV s.R r.rank r.call = o at *
    refine HV_of (v := .agg (o.getD zRc).enc.toArray) (fun w _ => rfl) (HV_of (v := .bool o.isSome) (fun w _ => rfl) ?_)
    refine stS (cs := (o.getD zRc).enc.toArray) (old := zRc.enc.toArray) rfl rfl (by rw [iRc]; rfl) rfl (Rc.enc_one _) (hp1.blk hb2 id) fun w3 hb3 hp3 hz3 => ?_
    have hm3 : Mod none_ w w3 := hm1.then hp3 fun i hi z => by have := hmd.size; omega
    refine ⟨hm3, ?_⟩
    refine hk _ w3 _ rfl hb3 rfl (fun j hj => ?_) hm3
    repeat rw [up_lo hj (by decide)]
end
end Go.Proofs.Ytmnkedgmpbcicaa.Que
set_option linter.unusedVariables false
set_option linter.unusedSimpArgs false
set_option maxRecDepth 8000
namespace Go.Proofs.Ytmnkedgmpbcicaa.Que
open Go Go.X Go.RowKit Go.Proofs.Ytmnkedgmpbcicaa.XF Go.Proofs.Ytmnkedgmpbcicaa.XG Go.Proofs.Ytmnkedgmpbcicaa.XK
section
variable {w0 w : World} {x b b6 b8 n i : Nat} {s : PlS} {r o : Rc} {ob : Bool} {v : Value} {l : List Bc} {a : Bc}
abbrev PM (w : World) (w' : World) : Prop := Mod none_ w w'
theorem plays_R7 {K : Exit → Sl → World → Prop} {ρ : Sl} (h : PlAt w0 w x s n) (hn : n ≤ 400) (hbc : Bcts w v l) (hi : l[i]? = some a) (hb : w.heap[b]? = some (.cells r.enc.toArray tRc (0, 0))) (hb6 : w.heap[b6]? = some (.cells o.enc.toArray tRc (0, 0))) (hb8 : w.heap[b8]? = some (.cells o.enc.toArray tRc (0, 0)))
    (e0 : ρ 0 = v) (e4 : ρ 4 = .int .i64 i) (e3 : ρ 3 = .pointer (some ⟨x, 0, none⟩)) (e5 : ρ 5 = .pointer (some ⟨b, 0, none⟩)) (e6 : ρ 6 = .pointer (some ⟨b6, 0, none⟩)) (e8 : ρ 8 = .pointer (some ⟨b8, 0, none⟩)) (e7 : ρ 7 = .bool ob) (e9 : ρ 9 = .bool ob)
    (hk : ∀ (ρ' : Sl) (w' : World), ρ' 123 = .bool false → (∀ j, j < 6 → ρ' j = ρ j) → Mod none_ w w' → K .normal ρ' w') : W fn_ Try.prog 124 dispatcherlaw14_PostedPlays_R7 K ρ w := by
  have hmd : Mod none_ w { w with drawn := w.drawn + 1 } := (Mod.refl _ w).drawn _
  show W fn_ Try.prog 124 XJ.dispatcherlaw14_PostedPlays_R7 K ρ w
  refine XJ.dispatcherlaw14_PostedPlays_R7_held (D := []) (PM w) hmd ?_
  generalize ({ w with drawn := w.drawn + 1 } : World) = wd at *
  have L : LdR w x b s r := ⟨fun w' hm => hm.blk h.b.blk id, fun w' hm => hm.blk hb id⟩
  have hd := h.calm hmd
  have hR : ∀ i, (s.R i).length ≤ 1000000 := fun i => by have := h.hR i; omega
  have hl := h.hl
  have hA := h.hA
  obtain ⟨am, ham, hac⟩ := bc_any hbc hi
  have h6 : ∀ w', PM w w' → (Instr.loadAt tRc (.pointer (some ⟨b6, 0, none⟩))).run Try.prog w' = .ok (.agg o.enc.toArray) w' := fun w' hm => run_ldB Try.underlying24 rfl (by rw [iRc]; rfl) (Mod.blk hm hb6 id)
  have h8 : ∀ w', PM w w' → (Instr.loadAt tRc (.pointer (some ⟨b8, 0, none⟩))).run Try.prog w' = .ok (.agg o.enc.toArray) w' := fun w' hm => run_ldB Try.underlying24 rfl (by rw [iRc]; rfl) (Mod.blk hm hb8 id)
  have hm1 : ∀ w' : World, (Instr.fieldAt tBc (.pointer (some am)) 1).run Try.prog w' = .ok (.pointer (some (am.add 1))) w' := fun w' => run_fo (show fieldOff Try.prog tBc 1 = some 1 by kernel_rfl) _ w'
  have hml : ∀ w', PM w w' → (Instr.loadAt tMs (.pointer (some (am.add 1)))).run Try.prog w' = .ok (.agg a.m.enc.toArray) w' := fun w' hm => by
    refine run_ldA (cs := a.m.enc) Try.underlying39 rfl (by rw [iMs]; rfl) fun j u hu => ?_
    rw [add_add]
    refine hac w' hm _ u ?_
    unfold Bc.enc
    rw [show 1 + j = j + 1 by omega, List.getElem?_cons_succ, List.getElem?_append_left (List.getElem?_eq_some_iff.1 hu).1]
    exact hu
  unfold XJ.dispatcherlaw14_PostedPlays_R7_H XJ.dispatcherlaw14_PostedPlays_R7_H0
  rw [e6, e8, e7, e9, e3]
  refine HV_of h6 (HV_of h8 ?_)
  refine HB_of (v := .bool (!decide (o = o))) (fun w => run_eqGuard_agg w .neq _ _ _ _ _ gRc) (fun w => rRcN _ _ w) ?_
  rw [decide_eq_true rfl, Bool.not_true, HG_b, if_pos rfl]
  refine HM' ?_
  rw [HG_b, if_pos rfl]
  refine HM' ?_
  rw [HG_b, if_pos rfl]
  refine HB_of (v := .bool false) (fun _ => rfl) (fun w => by cases ob <;> simp [go_sem]) ?_
  refine HP_of ?_
  rw [if_neg (by decide), HG_b, if_pos rfl]
  refine HM' ?_
  rw [HG_b, if_pos rfl]
  refine HN_ptr ?_
  rw [HG_b, if_pos rfl]
  refine HV_of (fun w _ => g1 w) ?_
  have key1 : ∀ ρ2 : Sl, ρ2 75 = .bool false → ρ2 78 = .pointer (some ⟨x, 1, none⟩) → ρ2 5 = .pointer (some ⟨b, 0, none⟩) → ρ2 3 = .pointer (some ⟨x, 0, none⟩) → ρ2 0 = v → ρ2 4 = .int .i64 i → (∀ j, j < 6 → ρ2 j = ρ j) → XJ.dispatcherlaw14_PostedPlays_R7_H1 (PM w) (XJ.dispatcherlaw14_PostedPlays_R7_H2 (PM w) (XJ.dispatcherlaw14_PostedPlays_R7_H3 (PM w) (XJ.dispatcherlaw14_PostedPlays_R7_H4 (PM w) (K .normal)))) ρ2 wd := by
    intro ρ2 t75 t78 t5 t3 t0 t4 hlo
    unfold XJ.dispatcherlaw14_PostedPlays_R7_H1
    rw [t75, t78, t5, t3]
    rw [HG_b, if_pos rfl]
    refine HV_of L.lp ?_
    rw [HG_b, if_pos rfl]
    refine HV_of (fun w _ => gr w) ?_
    rw [HG_b, if_pos rfl]
    refine HV_of L.lr ?_
    rw [HG_b, if_pos rfl]
    refine HM' ?_
    rw [HG_b, if_pos rfl]
    refine HN_ptr ?_
    rw [HG_b, if_pos rfl]
    refine HV_of (fun w _ => g3 w) ?_
    rw [HG_b, if_pos rfl]
    refine HV_of L.ld ?_
    rw [HG_b, if_pos rfl]
    refine HV_of (fun w _ => gr w) ?_
    rw [HG_b, if_pos rfl]
    refine HV_of L.lr ?_
    rw [CG_b, if_pos rfl]
    refine CK_st Try.func18 rfl rfl (Waiting_ok hd.b.pp.pa hR r.rank) ?_
    rintro v1 w1 ⟨hO1, hp1⟩
    have hw1 := hmd.trans hp1
    refine ⟨hw1, ?_⟩
    rw [CG_b, if_pos rfl]
    have h1 := h.calm hw1
    refine CK_st Try.func35 rfl rfl (RWaiting_ok h1.b.ed (by omega) r.rank) ?_
    rintro v2 w2 ⟨hO2, hp2⟩
    have hw2 := hw1.trans hp2
    refine ⟨hw2, ?_⟩
    rw [rel_wait h.rel] at hO2
    rw [CG_b, if_pos rfl]
    have hrl : ((rowP s.R r.rank).filter wt).length ≤ 1000000 := Nat.le_trans (List.length_filter_le _ _) (row_R hR _)
    refine CK_st Try.func34 rfl rfl (RSame_ok (reads_of_owns (owns_mod hO1 hp2 fun _ _ => id)) (reads_of_owns hO2) hrl) ?_
    rintro _ w3 ⟨rfl, hp3⟩
    have hw3 := hw2.trans hp3
    refine ⟨hw3, ?_⟩
    rw [decide_eq_true rfl]
    have key2 : ∀ ρ3 : Sl, ρ3 75 = .bool false → ρ3 90 = .bool true → ρ3 5 = .pointer (some ⟨b, 0, none⟩) → ρ3 3 = .pointer (some ⟨x, 0, none⟩) → ρ3 0 = v → ρ3 4 = .int .i64 i → (∀ j, j < 6 → ρ3 j = ρ j) → XJ.dispatcherlaw14_PostedPlays_R7_H2 (PM w) (XJ.dispatcherlaw14_PostedPlays_R7_H3 (PM w) (XJ.dispatcherlaw14_PostedPlays_R7_H4 (PM w) (K .normal))) ρ3 w3 := by
      intro ρ3 u75 u90 u5 u3 u0 u4 hlo3
      unfold XJ.dispatcherlaw14_PostedPlays_R7_H2
      rw [u75, u90, u3]
      rw [HG_b, if_pos rfl]
      refine HV_of (v := .bool false) (fun w _ => rfl) ?_
      refine HP_of ?_
      rw [if_neg (by decide), HG_b, if_pos rfl]
      refine HM' ?_
      rw [HG_b, if_pos rfl]
      refine HN_ptr ?_
      rw [HG_b, if_pos rfl]
      refine HV_of (fun w _ => g0 w) ?_
      rw [HG_b, if_pos rfl]
      refine HV_of L.lq ?_
      rw [HG_b, if_pos rfl]
      refine HM' ?_
      rw [HG_b, if_pos rfl]
      refine HN_ptr ?_
      rw [HG_b, if_pos rfl]
      refine HV_of (fun w _ => g2 w) ?_
      rw [HG_b, if_pos rfl]
      refine HV_of L.lk ?_
      rw [CG_b, if_pos rfl]
      have h3 := h.calm hw3
      refine CK_st Try.func36 rfl rfl (Left_ok h3.b.pp.qa (by omega)) ?_
      rintro y1 w4 ⟨S1, hS1, hQ1, hp4⟩
      have hw4 := hw3.trans hp4
      refine ⟨hw4, ?_⟩
      have key3 : ∀ ρ4 : Sl, ρ4 93 = .bool false → ρ4 102 = .pointer (some ⟨s.k, 0, none⟩) → ρ4 98 = y1 → ρ4 5 = .pointer (some ⟨b, 0, none⟩) → ρ4 0 = v → ρ4 4 = .int .i64 i → (∀ j, j < 6 → ρ4 j = ρ j) → XJ.dispatcherlaw14_PostedPlays_R7_H3 (PM w) (XJ.dispatcherlaw14_PostedPlays_R7_H4 (PM w) (K .normal)) ρ4 w4 := by
        intro ρ4 v93 v102 v98 v5 v0 v4 hlo4
        unfold XJ.dispatcherlaw14_PostedPlays_R7_H3
        rw [v93, v102, v98, v5, v0, v4]
        rw [CG_b, if_pos rfl]
        have h4 := h.calm hw4
        refine CK_st Try.func37 rfl rfl (RLeft_ok h4.dq (by omega)) ?_
        rintro y2 w5 ⟨S2, hS2, hQ2, hp5⟩
        have hw5 := hw4.trans hp5
        refine ⟨hw5, ?_⟩
        have hS12 := stab_uniq ltM_wo hS1 hS2
        have lS : S1.length = (s.ls.filter nt).length := Stab.len ltM_wo hS1.eq
        have lS2 : (s.ls.filter nt).length ≤ s.ls.length := List.length_filter_le _ _
        rw [CG_b, if_pos rfl]
        refine CK_st Try.func15 rfl rfl (Same_ok (owns_mod hQ1 hp5 fun _ _ => id) hQ2 (by omega)) ?_
        rintro _ w6 ⟨rfl, hp6⟩
        have hw6 := hw5.trans hp6
        refine ⟨hw6, ?_⟩
        rw [decide_eq_true hS12, HG_b, if_pos rfl]
        refine HV_of (v := .bool false) (fun w _ => rfl) ?_
        refine HP_of ?_
        rw [if_neg (by decide), HG_b, if_pos rfl]
        refine HV_of L.la ?_
        rw [HG_b, if_pos rfl]
        refine HM' ?_
        rw [HG_b, if_pos rfl]
        refine HM' ?_
        rw [HG_b, if_pos rfl]
        refine HV_of (fun w _ => ham w) ?_
        rw [HG_b, if_pos rfl]
        refine HV_of (fun w _ => hm1 w) ?_
        rw [HG_b, if_pos rfl]
        refine HV_of hml ?_
        rw [HG_b, if_pos rfl]
        refine HV_of L.la ?_
        have key4 : ∀ ρ5 : Sl, ρ5 107 = .bool false → ρ5 108 = .agg r.enc.toArray → ρ5 113 = .agg a.m.enc.toArray → ρ5 115 = .agg r.enc.toArray → ρ5 0 = v → ρ5 4 = .int .i64 i → (∀ j, j < 6 → ρ5 j = ρ j) → XJ.dispatcherlaw14_PostedPlays_R7_H4 (PM w) (K .normal) ρ5 w6 := by
          intro ρ5 x107 x108 x113 x115 x0 x4 hlo5
          unfold XJ.dispatcherlaw14_PostedPlays_R7_H4
          rw [x107, x108, x113, x115, x0, x4]
          rw [HG_b, if_pos rfl]
          refine HM' ?_
          rw [HG_b, if_pos rfl]
          refine HM' ?_
          rw [HG_b, if_pos rfl]
          refine HV_of (fun w _ => ham w) ?_
          rw [HG_b, if_pos rfl]
          refine HV_of (fun w _ => hm1 w) ?_
          rw [HG_b, if_pos rfl]
          refine HV_of hml ?_
          rw [CG_b, if_pos rfl]
          refine CK_st Try.func19 rfl rfl (Fits_ok w6 r a.m) ?_
          rintro _ w7 ⟨rfl, hp7⟩
          have hw7 := hw6.trans hp7
          refine ⟨hw7, ?_⟩
          rw [CG_b, if_pos rfl]
          refine CK_st Try.func38 rfl rfl (RFits_ok w7 r a.m) ?_
          rintro _ w8 ⟨rfl, hp8⟩
          have hw8 := hw7.trans hp8
          refine ⟨hw8, ?_⟩
          generalize fitsV r a.m = fb
          rw [HG_b, if_pos rfl]
          refine HB_of (v := .bool false) (fun _ => rfl) (fun w => by cases fb <;> simp [go_sem]) ?_
          refine HP_of ?_
          rw [if_neg (by decide)]
          refine hk _ w8 rfl (fun j hj => ?_) hw8
          repeat rw [up_lo hj (by decide)]
          exact hlo5 j hj
        refine key4 _ rfl rfl rfl rfl (by first | exact v0 | rfl) (by first | exact v4 | rfl) (fun j hj => ?_)
        repeat rw [up_lo hj (by decide)]
        exact hlo4 j hj
      refine key3 _ rfl rfl rfl (by first | exact u5 | rfl) (by first | exact u0 | rfl) (by first | exact u4 | rfl) (fun j hj => ?_)
      repeat rw [up_lo hj (by decide)]
      exact hlo3 j hj
    refine key2 _ (by first | exact t75 | rfl) rfl (by first | exact t5 | rfl) (by first | exact t3 | rfl) (by first | exact t0 | rfl) (by first | exact t4 | rfl) (fun j hj => ?_)
    repeat rw [up_lo hj (by decide)]
    exact hlo j hj
  refine key1 _ rfl rfl (by first | exact e5 | rfl) (by first | exact e3 | rfl) (by first | exact e0 | rfl) (by first | exact e4 | rfl) (fun j hj => ?_)
  repeat rw [up_lo hj (by decide)]
end
end Go.Proofs.Ytmnkedgmpbcicaa.Que
set_option linter.unusedVariables false
set_option linter.unusedSimpArgs false
set_option maxRecDepth 8000
namespace Go.Proofs.Ytmnkedgmpbcicaa.Que
open Go Go.X Go.RowKit Go.Proofs.Ytmnkedgmpbcicaa.XF Go.Proofs.Ytmnkedgmpbcicaa.XG Go.Proofs.Ytmnkedgmpbcicaa.XK
theorem PostedPlays_ok {w : World} {v : Value} {l : List Bc} (h : Bcts w v l) : Rt Try.prog 9 #[v] w fun u w' => u = .bool true ∧ Mod none_ w w' := by
  refine dispatcherlaw14_PostedPlays_calls ?_
  unfold dispatcherlaw14_PostedPlays_F
  refine CK_st Try.func11 rfl rfl (GreatB_ok h) ?_
  rintro _ w1 ⟨rfl, rfl⟩
  cases hgr : greatB l with
  | true => exact condT ⟨rfl, Mod.refl _ _⟩
  | false =>
    refine condF ?_
    have hl : l.length ≤ 120 := by
      unfold greatB at hgr
      have := (Bool.or_eq_false_iff.1 hgr).1
      simpa using this
    refine CK_st Try.func29 rfl rfl (begin_ok w1) ?_
    rintro _ w2 ⟨x, s, rfl, h2⟩
    have lq : (Instr.loadAt 27 (.pointer (some ⟨x, 0, none⟩))).run Try.prog w2 = .ok (.pointer (some ⟨s.q, 0, none⟩)) w2 := run_ld1 uQ rfl (pl_c h2.b.blk (k := 0) rfl)
    have lp : (Instr.loadAt 28 (.pointer (some ⟨x, 1, none⟩))).run Try.prog w2 = .ok (.pointer (some ⟨s.p, 0, none⟩)) w2 := run_ld1 uPd rfl (pl_c h2.b.blk (k := 1) rfl)
    rw [NK_ptr, VK_eq_of (g0 w2), VK_eq_of lq, BK_eqlP uQ]
    simp only [Option.isNone_some, ↓VG_u, ↓UG_u, ↓MG_u, ↓NG_u, ↓PG_u, ↓BG_u, ↓CG_u, ↓IG_u, ↓VGtt, ↓VGtf, ↓VGft, ↓VGff, ↓UGtt, ↓UGtf, ↓UGft, ↓UGff, ↓MGtt, ↓MGtf, ↓MGft, ↓MGff, ↓NGtt, ↓NGtf, ↓NGft, ↓NGff, ↓PGtt, ↓PGtf, ↓PGft, ↓PGff, ↓BGtt, ↓BGtf, ↓BGft, ↓BGff, ↓CGtt, ↓CGtf, ↓CGft, ↓CGff, ↓IGtt, ↓IGtf, ↓IGft, ↓IGff, ↓PKt, ↓PKf, ↓CDt, ↓CDf, ↓NOTt, ↓NOTf, ↓NK_ptr]
    rw [VK_eq_of (g1 w2)]
    try simp only [↓VG_u, ↓UG_u, ↓MG_u, ↓NG_u, ↓PG_u, ↓BG_u, ↓CG_u, ↓IG_u, ↓VGtt, ↓VGtf, ↓VGft, ↓VGff, ↓UGtt, ↓UGtf, ↓UGft, ↓UGff, ↓MGtt, ↓MGtf, ↓MGft, ↓MGff, ↓NGtt, ↓NGtf, ↓NGft, ↓NGff, ↓PGtt, ↓PGtf, ↓PGft, ↓PGff, ↓BGtt, ↓BGtf, ↓BGft, ↓BGff, ↓CGtt, ↓CGtf, ↓CGft, ↓CGff, ↓IGtt, ↓IGtf, ↓IGft, ↓IGff, ↓PKt, ↓PKf, ↓CDt, ↓CDf, ↓NOTt, ↓NOTf, ↓NK_ptr]
    rw [VK_eq_of lp]
    try simp only [↓VG_u, ↓UG_u, ↓MG_u, ↓NG_u, ↓PG_u, ↓BG_u, ↓CG_u, ↓IG_u, ↓VGtt, ↓VGtf, ↓VGft, ↓VGff, ↓UGtt, ↓UGtf, ↓UGft, ↓UGff, ↓MGtt, ↓MGtf, ↓MGft, ↓MGff, ↓NGtt, ↓NGtf, ↓NGft, ↓NGff, ↓PGtt, ↓PGtf, ↓PGft, ↓PGff, ↓BGtt, ↓BGtf, ↓BGft, ↓BGff, ↓CGtt, ↓CGtf, ↓CGft, ↓CGff, ↓IGtt, ↓IGtf, ↓IGft, ↓IGff, ↓PKt, ↓PKf, ↓CDt, ↓CDf, ↓NOTt, ↓NOTf, ↓NK_ptr]
    rw [BK_eqlP uPd]
    simp only [Option.isNone_some, ↓VG_u, ↓UG_u, ↓MG_u, ↓NG_u, ↓PG_u, ↓BG_u, ↓CG_u, ↓IG_u, ↓VGtt, ↓VGtf, ↓VGft, ↓VGff, ↓UGtt, ↓UGtf, ↓UGft, ↓UGff, ↓MGtt, ↓MGtf, ↓MGft, ↓MGff, ↓NGtt, ↓NGtf, ↓NGft, ↓NGff, ↓PGtt, ↓PGtf, ↓PGft, ↓PGff, ↓BGtt, ↓BGtf, ↓BGft, ↓BGff, ↓CGtt, ↓CGtf, ↓CGft, ↓CGff, ↓IGtt, ↓IGtf, ↓IGft, ↓IGff, ↓PKt, ↓PKf, ↓CDt, ↓CDf, ↓NOTt, ↓NOTf, ↓NK_ptr]
    obtain ⟨A, c, es, _⟩ := reads_cap h
    refine W_loop dispatcherlaw14_PostedPlays_L0_ok (fun ρ' w' => ∃ (i : Nat) (s' : PlS), i ≤ l.length ∧ ρ' 4 = .int .i64 i ∧ ρ' 0 = v ∧ ρ' 3 = .pointer (some ⟨x, 0, none⟩) ∧ PlAt w1 w' x s' i) (fun ρ' _ => l.length - (intOf (ρ' 4)).toNat)
      ⟨0, s, Nat.zero_le _, rfl, rfl, rfl, h2⟩ ?_
    rintro ρ1 w3 ⟨i, s1, hi, c4, c0, c3, h3⟩
    rw [dispatcherlaw14_PostedPlays_L0_eq]; unfold dispatcherlaw14_PostedPlays_L0_F
    rw [c4, c0, c3, es, len_sl vBcs, ← es, BK_lss]
    by_cases hlt : i < l.length
    · rw [decide_eq_true (by omega)]
      refine condT ?_
      have hx : l[i]? = some l[i] := List.getElem?_eq_getElem hlt
      generalize l[i] = a at *
      have hb3 := Bcts.calm h h3.b.pp.mod
      obtain ⟨am, ham, hac⟩ := bc_any hb3 hx
      have hrl : (Instr.loadAt tRc (.pointer (some (am.add 9)))).run Try.prog w3 = .ok (.agg a.r.enc.toArray) w3 := by
        refine run_ldA (cs := a.r.enc) Try.underlying24 rfl (by rw [iRc]; rfl) fun j u hu => ?_
        rw [add_add]
        refine hac w3 (Mod.refl _ _) _ u ?_
        unfold Bc.enc
        rw [show 9 + j = (8 + j) + 1 by omega, List.getElem?_cons_succ, List.getElem?_append_right (by rw [Ms.enc_len]; omega), Ms.enc_len, show 8 + j - 8 = j by omega]
        exact hu
      rw [VK_eq_of (ham w3), VK_eq_of (run_fo (show fieldOff Try.prog tBc 2 = some 9 by kernel_rfl) _ w3), VK_eq_of hrl]
      refine rcSlot_k fun w4 hb4 hm4 hz4 => ?_
      have h4 := h3.calm hm4
      refine ldBc (Bcts.calm hb3 hm4) hx rfl fun _ => ?_
      refine CK_st Try.func30 rfl rfl (does_ok h4 (by omega) a) ?_
      rintro _ w5 ⟨rfl, ⟨s5, h5⟩, hM⟩
      rw [not_ok]
      refine condF ?_
      have nb : ¬ s1.all x w3.heap.size := fun z => by have := h3.b.oldA _ z; omega
      have hb5 := hM.blk hb4 nb
      have key : ∀ ρ : Sl, ρ 0 = v → ρ 4 = .int .i64 i → ρ 3 = .pointer (some ⟨x, 0, none⟩) → ρ 5 = .pointer (some ⟨w3.heap.size, 0, none⟩) → ∀ K : Exit → Sl → World → Prop, (∀ (ρ' : Sl) (w' : World), (∀ j, j < 6 → ρ' j = ρ j) → Mod none_ w5 w' → K .normal ρ' w') → W fn_ Try.prog 124 dispatcherlaw14_PostedPlays_R2 (seqK (sx fn_ Try.prog 124 dispatcherlaw14_PostedPlays_R3 K) K) ρ w5 := by
        intro ρ t0 t4 t3 t5 K hK
        refine plays_R2 h5 (by omega) hb5 t3 t5 ?_
        intro ρ2 w6 b6 q6 hb6 q7 hlo2 hm6
        rw [sq_n, dispatcherlaw14_PostedPlays_R3_eq]; unfold dispatcherlaw14_PostedPlays_R3_F
        refine plays_R5 (h5.calm hm6) (by omega) (hm6.blk hb5 id) ((hlo2 3 (by decide)).trans t3) ((hlo2 5 (by decide)).trans t5) ?_
        intro ρ3 w7 b8 q8 hb8 q9 hlo3 hm7
        rw [sq_n, dispatcherlaw14_PostedPlays_R6_eq]; unfold dispatcherlaw14_PostedPlays_R6_F
        have hm57 := hm6.trans hm7
        have hlo : ∀ j, j < 6 → ρ3 j = ρ j := fun j hj => (hlo3 j (by omega)).trans (hlo2 j hj)
        refine plays_R7 (o := (atV s5.R a.r.rank a.r.call).getD zRc) (ob := (atV s5.R a.r.rank a.r.call).isSome) (r := a.r) (l := l) (a := a) (i := i) (v := v) (h5.calm hm57) (by omega) (Bcts.calm h (h5.b.pp.mod.trans hm57)) hx (hm57.blk hb5 id) (hm7.blk hb6 id) hb8 ((hlo 0 (by decide)).trans t0) ((hlo 4 (by decide)).trans t4) ((hlo 3 (by decide)).trans t3) ((hlo 5 (by decide)).trans t5) ((hlo3 6 (by decide)).trans q6) q8 ((hlo3 7 (by decide)).trans q7) q9 ?_
        intro ρ4 w8 q123 hlo4 hm8
        rw [sq_n, dispatcherlaw14_PostedPlays_R8_eq]; unfold dispatcherlaw14_PostedPlays_R8_F
        rw [q123]
        refine condF ?_
        exact hK ρ4 w8 (fun j hj => (hlo4 j hj).trans (hlo j hj)) (hm57.trans hm8)
      refine key _ (by first | exact c0 | rfl) (by first | exact c4 | rfl) (by first | exact c3 | rfl) rfl _ ?_
      intro ρ2 w6 hlo hm6
      rw [bk_n, sq_n, dispatcherlaw14_PostedPlays_R4_eq]; unfold dispatcherlaw14_PostedPlays_R4_F
      rw [(hlo 4 (by decide)).trans (show _ = .int .i64 (i : Int) by first | exact c4 | rfl), BK_add, wrap_i (by omega) (by omega)]
      refine ⟨⟨i + 1, s5, hlt, rfl, (hlo 0 (by decide)).trans (by first | exact c0 | rfl), (hlo 3 (by decide)).trans (by first | exact c3 | rfl), h5.calm hm6⟩, ?_⟩
      simp only [sq_n, sq_x, sq_r, bk_n, bk_r, bk_x, rt_r, rt_n, rs_0, rs_t, pk_1, pk_2, up_at, reduceIte, Nat.reduceEqDiff, intOf]; omega
    · obtain rfl : i = l.length := by omega
      rw [decide_eq_false (by omega)]
      refine condF ?_
      rw [sq_x, bk_x, sq_n, dispatcherlaw14_PostedPlays_R1_eq]; unfold dispatcherlaw14_PostedPlays_R1_F
      exact ⟨rfl, h3.b.pp.mod⟩
end Go.Proofs.Ytmnkedgmpbcicaa.Que
set_option linter.unusedVariables false
set_option maxRecDepth 4000
namespace Go.Proofs.Ytmnkedgmpbcicaa.Que
open Go Go.X Go.RowKit
def shM : Sh Ms := ⟨8, fun w m cs => cs = m.enc⟩
def shR : Sh Rc := ⟨9, fun w r cs => cs = r.enc⟩
def shB : Sh Bc := ⟨18, fun w a cs => cs = a.enc⟩
theorem strV_back (b : ByteArray) : strV b.data.toList = .string b := by unfold strV; rw [Array.toArray_toList]
theorem opensM (n : Nat) : OpensAt Try.prog n shM 39 :=
  opens_as (opens_struct Try.underlying39 (by kernel_rfl) (fun m _ => fields_cons rfl (by kernel_rfl) (opens_string Try.underlying9) (fields_cons rfl (by kernel_rfl) (opens_int Try.underlying3) (fields_cons rfl (by kernel_rfl) (opens_int Try.underlying3)
    (fields_cons rfl (by kernel_rfl) (opens_int Try.underlying3) (fields_cons rfl (by kernel_rfl) (opens_int Try.underlying3) (fields_cons rfl (by kernel_rfl) (opens_int Try.underlying2) (fields_cons rfl (by kernel_rfl) (opens_int Try.underlying3) (fields_one rfl (by kernel_rfl) (opens_bool Try.underlying4))))))))))
    (fun x => (⟨x.1.data.toList, x.2.1, x.2.2.1, x.2.2.2.1, x.2.2.2.2.1, x.2.2.2.2.2.1, x.2.2.2.2.2.2.1, x.2.2.2.2.2.2.2⟩ : Ms))
    (fun w v cs h => by
      obtain ⟨c0, d0, rfl, _, ⟨rfl, h0⟩, c1, d1, rfl, _, ⟨rfl, h1⟩, c2, d2, rfl, _, ⟨rfl, h2⟩, c3, d3, rfl, _, ⟨rfl, h3⟩, c4, d4, rfl, _, ⟨rfl, h4⟩, c5, d5, rfl, _, ⟨rfl, h5⟩, c6, d6, rfl, _, ⟨rfl, h6⟩, h7⟩ := h
      subst h7
      show _ = Ms.enc _
      simp only [Ms.enc, strV_back]
      rfl)
theorem opensR (n : Nat) : OpensAt Try.prog n shR 24 :=
  opens_as (opens_struct Try.underlying24 (by kernel_rfl) (fun m _ => fields_cons rfl (by kernel_rfl) (opens_string Try.underlying9) (fields_cons rfl (by kernel_rfl) (opens_int Try.underlying3) (fields_cons rfl (by kernel_rfl) (opens_int Try.underlying3)
    (fields_cons rfl (by kernel_rfl) (opens_int Try.underlying3) (fields_cons rfl (by kernel_rfl) (opens_int Try.underlying3) (fields_cons rfl (by kernel_rfl) (opens_int Try.underlying3) (fields_cons rfl (by kernel_rfl) (opens_bool Try.underlying4) (fields_cons rfl (by kernel_rfl) (opens_int Try.underlying3) (fields_one rfl (by kernel_rfl) (opens_int Try.underlying3)))))))))))
    (fun x => (⟨x.1.data.toList, x.2.1, x.2.2.1, x.2.2.2.1, x.2.2.2.2.1, x.2.2.2.2.2.1, x.2.2.2.2.2.2.1, x.2.2.2.2.2.2.2.1, x.2.2.2.2.2.2.2.2⟩ : Rc))
    (fun w v cs h => by
      obtain ⟨c0, d0, rfl, _, ⟨rfl, h0⟩, c1, d1, rfl, _, ⟨rfl, h1⟩, c2, d2, rfl, _, ⟨rfl, h2⟩, c3, d3, rfl, _, ⟨rfl, h3⟩, c4, d4, rfl, _, ⟨rfl, h4⟩, c5, d5, rfl, _, ⟨rfl, h5⟩, c6, d6, rfl, _, rfl, c7, d7, rfl, _, ⟨rfl, h7⟩, ⟨h8, h9⟩⟩ := h
      subst h8
      show _ = Rc.enc _
      simp only [Rc.enc, strV_back]
      rfl)
theorem opensB (n : Nat) : OpensAt Try.prog n shB 48 :=
  opens_as (opens_struct Try.underlying48 (by kernel_rfl) (fun m _ => fields_cons rfl (by kernel_rfl) (opens_int Try.underlying5) (fields_cons rfl (by kernel_rfl) (opensM m) (fields_one rfl (by kernel_rfl) (opensR m)))))
    (fun x => (⟨x.1, x.2.1, x.2.2⟩ : Bc))
    (fun w v cs h => by
      obtain ⟨c0, d0, rfl, _, ⟨rfl, h0⟩, c1, d1, rfl, _, h1, h2⟩ := h
      obtain rfl : c1 = v.2.1.enc := h1
      obtain rfl : d1 = v.2.2.enc := h2
      rfl)
theorem opensBs (n : Nat) : OpensAt Try.prog n (Sh.slice shB) 22 := opens_slice Try.underlying22 (by kernel_rfl) (fun m _ => opensB m)
theorem Bcts_of {w : World} {x : Value × List Bc} {cs : List Value} (h : (Sh.slice shB).K w x cs) : Bcts w x.1 x.2 := reads_sh h Bc.enc (fun _ => rfl) (fun _ _ hd => hd)
end Go.Proofs.Ytmnkedgmpbcicaa.Que
